/-
  What WakeOverlaps reaches.
-/
import Derived.Test.YtpgcekjnpieibaaB
namespace Go.Proofs.Ytpgcekjnpieibaa
open Go.Am
set_option linter.unusedVariables false
set_option linter.unusedSimpArgs false
attribute [local go_sem] w_skip w_label w_goto w_scope k_goto b_goto l_goto s_normal s_exit s_ret s_goto w_region w_draw w_seq w_cond w_block w_exit w_ret w_loop k_normal k_exit k_ret b_normal b_exit b_ret l_normal l_exit l_ret m_normal m_exit m_ret m_goto kL_normal kL_exit kL_ret kS_normal kS_exit kS_ret kS_goto r_normal r_ret o_nil o_cons q_nil q_cons nxt gval gvd gvl gvw dstOf evO ogOp ogC og ogL ogP ogO rho rhoO strip optOk getL setL setT absC absV absL pO hO evLoad ldB geth seth evStore stRes stB evBox evAlloc evFieldAddr evField evIndexAddr evBin2 binI binB binNR binU nilR_isEmpty nilR_t nilR_0 nilR_s evInt evStr evUn evConv evPick mrg evExtract evNil evCall mapR evBuiltin evLen2 vcells vcOk atom tabF cnd retK resFin resL resA resC resCons evBuild evBuildP placeS placeA fillA fillOk putL getP nxtQ pureC_eq pureR genC_eq genR roV roL roOb roObL nref nrefL binA binN eqSh eqRes evIndex evIndex2 evIndexS evSlice evSlice2 evSliceS evBound evConv2 cvS evAppend appRes srcOf evMake evBuildSlice repL evFn evMin evMax freshC freshR sub_enR0 Bool.or_false Bool.false_or Bool.or_true Bool.true_or Bool.and_false Bool.false_and Option.map_some Option.map_none Option.getD_some Option.getD_none Option.bind_some Option.bind_none Option.or_some Option.or_none Option.none_or List.nil_append List.cons_append List.append_nil cond_true cond_false List.length_cons List.length_nil beq_self_eq_true Bool.and_true Bool.true_and Bool.not_true Bool.not_false true_and and_true and_self true_implies implies_true ne_eq not_false_eq_true Bool.false_eq_true false_implies Nat.lt_irrefl Nat.le_refl Nat.succ_ne_self imp_self Bool.cond_false_right Bool.cond_true_left decide_true decide_false Bool.not_eq_true' Bool.not_eq_false' Bool.not_not Nat.zero_mul Nat.zero_add Nat.add_zero Nat.mul_one Nat.one_mul Bool.cond_self tsz3 tby3 tagg3 tslice3 tarr3 tzero3 tzn3 tplaces3 tint3 tstr3 tnoint3 tbool3 tany3 tintk3 tbytes3 tsz4 tby4 tagg4 tslice4 tarr4 tzero4 tzn4 tplaces4 tint4 tstr4 tnoint4 tbool4 tany4 tintk4 tbytes4 tsz23 tby23 tagg23 tslice23 tarr23 tzero23 tzn23 tplaces23 tint23 tstr23 tnoint23 tbool23 tany23 tintk23 tbytes23 tfld23_0 tfld23_1 tfld23_2 tfld23_3 tfld23_4 tsz24 tby24 tagg24 tslice24 tarr24 tzero24 tzn24 tplaces24 tint24 tstr24 tnoint24 tbool24 tany24 tintk24 tbytes24 tsz29 tby29 tagg29 tslice29 tarr29 tzero29 tzn29 tplaces29 tint29 tstr29 tnoint29 tbool29 tany29 tintk29 tbytes29 tsz35 tby35 tagg35 tslice35 tarr35 tzero35 tzn35 tplaces35 tint35 tstr35 tnoint35 tbool35 tany35 tintk35 tbytes35 tsz37 tby37 tagg37 tslice37 tarr37 tzero37 tzn37 tplaces37 tint37 tstr37 tnoint37 tbool37 tany37 tintk37 tbytes37 tfld37_0 tsz51 tby51 tagg51 tslice51 tarr51 tzero51 tzn51 tplaces51 tint51 tstr51 tnoint51 tbool51 tany51 tintk51 tbytes51 tsz61 tby61 tagg61 tslice61 tarr61 tzero61 tzn61 tplaces61 tint61 tstr61 tnoint61 tbool61 tany61 tintk61 tbytes61 tsz71 tby71 tagg71 tslice71 tarr71 tzero71 tzn71 tplaces71 tint71 tstr71 tnoint71 tbool71 tany71 tintk71 tbytes71 tsz74 tby74 tagg74 tslice74 tarr74 tzero74 tzn74 tplaces74 tint74 tstr74 tnoint74 tbool74 tany74 tintk74 tbytes74 e_i64_0 fit_i64 de_i64 g_i64 k_i64 e_b_0 fit_b de_b g_b k_b e_TWakeRule_0 e_TWakeRule_1 e_TWakeRule_2 e_TWakeRule_3 e_TWakeRule_4 fit_TWakeRule de_TWakeRule g_TWakeRule k_TWakeRule eta_TWakeRule e_lTWakeRule_0 fit_lTWakeRule de_lTWakeRule g_lTWakeRule k_lTWakeRule e_TWakeTable_0 fit_TWakeTable de_TWakeTable g_TWakeTable k_TWakeTable eta_TWakeTable e_li64_0 fit_li64 de_li64 g_li64 k_li64 e_u64_0 fit_u64 de_u64 g_u64 k_u64 deR_0 Fit_0 Option.isSome_some gt_some gd_one rK rG aL aK iK bK sK lK iA bA sA lA or_true true_or Int.toNat_natCast shT_23 Int.toNat_zero Int.cast_ofNat_Int
/-! hotspot/hotspotref36.Small -/
noncomputable def ct11 : Ct := tab []
theorem ct11_ok : CtOk Try.prog ct11 := tab_nil
noncomputable def F11 (p0 : TWakeRule) : Option (Bool) :=
  some ((((bLe p0.Start 20000) && (bLe p0.Every 2000)) && (bLe p0.Length 2000)) && ((bLe p0.Every 0) || (bLe 10 p0.Every)))
noncomputable def body11 : List AV → AR
  | [v0] => .pure (aK 5 k_TWakeRule v0 ∧ (F11 (g_TWakeRule (aL v0))).isSome = true) (.bool (gt (F11 (g_TWakeRule (aL v0)))))
  | _ => .fail
set_option maxHeartbeats 4000000 in
set_option maxRecDepth 20000 in
theorem ok11 : FnOk Try.prog 11 (pureC body11) := by
  refine pure_fnM body11 (rs := [.tmp 2]) Try.func11 (by kernel_rfl) rfl rfl ?_
  intro l ob v hb hob
  unfold body11 at hb
  split at hb
  · rename_i v0
    injection hb with q1 q2; subst q1 q2
    obtain ⟨hk0, hob⟩ := hob
    obtain ⟨r, H⟩ := Option.isSome_iff_exists.1 hob
    rw [H, gt_some]
    have hw0 := wA_TWakeRule hk0
    generalize g_TWakeRule (aL v0) = p0 at H hw0
    refine ⟨[.agg [.int .i64 p0.Id, .int .i64 p0.Start, .int .i64 p0.Every, .int .i64 p0.Length, .int .i64 p0.Group]], _, (fun E vs F => FR_wk1 hw0.1 F (fun vs F => F)), rfl, rfl, ?_⟩
    rw [Try.ntmps11]
    simp only [List.length_cons, List.length_nil, Nat.reduceAdd, Nat.reduceSub, List.replicate_succ, List.replicate_zero, List.cons_append, List.nil_append]
    unfold F11 at H
    try dsimp only at H
    refine sq ct11_ok ?_
    simp only [go_sem, Nat.reduceLeDiff, Nat.reduceLT, Nat.reduceAdd, Nat.reduceMul, Nat.reduceSub, Nat.reduceEqDiff, Nat.reduceBEq, Int.reduceToNat, reduceCtorEq]
    refine sq ct11_ok ?_
    simp only [go_sem, Nat.reduceLeDiff, Nat.reduceLT, Nat.reduceAdd, Nat.reduceMul, Nat.reduceSub, Nat.reduceEqDiff, Nat.reduceBEq, Int.reduceToNat, reduceCtorEq]
    repeat ((with_reducible refine And.intro ?_ ?_); focus (first | (with_reducible trivial) | omega | grind))
    refine rg ct11_ok ?_
    simp only [go_sem, Nat.reduceLeDiff, Nat.reduceLT, Nat.reduceAdd, Nat.reduceMul, Nat.reduceSub, Nat.reduceEqDiff, Nat.reduceBEq, Int.reduceToNat, reduceCtorEq]
    obtain rfl := Option.some.inj H
    rfl
  · cases hb
/-! hotspot/hotspotlaw36.small -/
noncomputable def ct19 : Ct := tab [(11, pureC body11)]
theorem ct19_ok : CtOk Try.prog ct19 := tab_cons ok11 <| tab_nil
theorem ct19_11 (l : List AV) (h : List ABlk) : ct19 11 l h = pureC body11 l h := rfl
noncomputable def F19_L1 (p0 : TWakeTable) (v1_1 : Int) : Option (Lp (Int) ((Unit) ⊕ (Bool))) :=
  bif (bLt v1_1 (p0.List.length : Nat)) then (need (inb v1_1 p0.List.length) <| (F11 (gd p0.List v1_1.toNat)).bind fun r2 => bif (!r2) then (some (.done (.inr false))) else (some (.next (wr .i64 (v1_1 + 1))))) else (some (.done (.inl ())))
noncomputable def F19 (p0 : TWakeTable) : Option (Bool) :=
  bif (bLt 40 (p0.List.length : Nat)) then (some false) else (lp (loopD (fun s => F19_L1 p0 s) 0) (fun e => some true) some)
noncomputable def body19 : List AV → AR
  | [v0] => .pure (aK 1 k_TWakeTable v0 ∧ (F19 (g_TWakeTable (aL v0))).isSome = true) (.bool (gt (F19 (g_TWakeTable (aL v0)))))
  | _ => .fail
set_option maxHeartbeats 4000000 in
set_option maxRecDepth 20000 in
theorem ok19 : FnOk Try.prog 19 (pureC body19) := by
  refine pure_fnM body19 (rs := [.tmp 2]) Try.func19 (by kernel_rfl) rfl rfl ?_
  intro l ob v hb hob
  unfold body19 at hb
  split at hb
  · rename_i v0
    injection hb with q1 q2; subst q1 q2
    obtain ⟨hk0, hob⟩ := hob
    obtain ⟨r, H⟩ := Option.isSome_iff_exists.1 hob
    rw [H, gt_some]
    have hw0 := wA_TWakeTable hk0
    generalize g_TWakeTable (aL v0) = p0 at H hw0
    refine ⟨[.agg [.ro 5 p0.List.length false (enR c_TWakeRule p0.List)]], _, (fun E vs F => FR_wk1 hw0.1 F (fun vs F => F)), rfl, rfl, ?_⟩
    rw [Try.ntmps19]
    simp only [List.length_cons, List.length_nil, Nat.reduceAdd, Nat.reduceSub, List.replicate_succ, List.replicate_zero, List.cons_append, List.nil_append]
    unfold F19 at H
    try dsimp only at H
    refine sq ct19_ok ?_
    simp only [go_sem, Nat.reduceLeDiff, Nat.reduceLT, Nat.reduceAdd, Nat.reduceMul, Nat.reduceSub, Nat.reduceEqDiff, Nat.reduceBEq, Int.reduceToNat, reduceCtorEq, ct19_11, body11]
    refine seqM ?_
    refine sq ct19_ok ?_
    simp only [go_sem, Nat.reduceLeDiff, Nat.reduceLT, Nat.reduceAdd, Nat.reduceMul, Nat.reduceSub, Nat.reduceEqDiff, Nat.reduceBEq, Int.reduceToNat, reduceCtorEq, ct19_11, body11]
    repeat ((with_reducible refine And.intro ?_ ?_); focus (first | (with_reducible trivial) | omega | grind))
    refine condM rfl trivial (fun hc => ?_) (fun hc => ?_)
    · replace H := cond_t hc H
      refine sq ct19_ok ?_
      simp only [go_sem, Nat.reduceLeDiff, Nat.reduceLT, Nat.reduceAdd, Nat.reduceMul, Nat.reduceSub, Nat.reduceEqDiff, Nat.reduceBEq, Int.reduceToNat, reduceCtorEq, ct19_11, body11]
      refine rg ct19_ok ?_
      simp only [go_sem, Nat.reduceLeDiff, Nat.reduceLT, Nat.reduceAdd, Nat.reduceMul, Nat.reduceSub, Nat.reduceEqDiff, Nat.reduceBEq, Int.reduceToNat, reduceCtorEq, ct19_11, body11]
      obtain rfl := Option.some.inj H
      rfl
    replace H := cond_f hc H
    refine rg ct19_ok ?_
    simp only [go_sem, Nat.reduceLeDiff, Nat.reduceLT, Nat.reduceAdd, Nat.reduceMul, Nat.reduceSub, Nat.reduceEqDiff, Nat.reduceBEq, Int.reduceToNat, reduceCtorEq, ct19_11, body11]
    refine seqM ?_
    refine sq ct19_ok ?_
    simp only [go_sem, Nat.reduceLeDiff, Nat.reduceLT, Nat.reduceAdd, Nat.reduceMul, Nat.reduceSub, Nat.reduceEqDiff, Nat.reduceBEq, Int.reduceToNat, reduceCtorEq, ct19_11, body11]
    refine blkM ?_
    refine loop_den (fun s : Int => [.top, .ptr 0 0 0 0, .top, .int .i64 s, .top, .top, .top, .top, .top, .top, .top, .top, .top, .top, .top, .top, .top, .top, .top, .top, .top, .top]) (fun s => [.lit 37 [.ro 5 p0.List.length false (enR c_TWakeRule p0.List)]]) (fun e : Unit => [.top, .top, .top, .top, .top, .top, .top, .top, .top, .top, .top, .top, .top, .top, .top, .top, .top, .top, .top, .top, .top, .top]) (fun e => [.dead]) H ?_ (fun v1_1 o H hn1_1 hn2_1 => ?_) (fun e H => ?_)
    · refine SubF_of ⟨[some 0], ?_, ?_, by rfl, by rfl⟩
      · simp [CvL, Cv, getM]
      · exact ⟨(by simp [CvB, CvL, Cv, blkAt, geth, getM]), trivial⟩
    · unfold F19_L1 at H
      try dsimp only at H ⊢
      refine seqM ?_
      refine sq ct19_ok ?_
      simp only [go_sem, Nat.reduceLeDiff, Nat.reduceLT, Nat.reduceAdd, Nat.reduceMul, Nat.reduceSub, Nat.reduceEqDiff, Nat.reduceBEq, Int.reduceToNat, reduceCtorEq, ct19_11, body11]
      repeat ((with_reducible refine And.intro ?_ ?_); focus (first | (with_reducible trivial) | omega | grind))
      refine condM' rfl trivial (fun hc => ?_) (fun hc => ?_)
      · replace H := cond_f hc H
        refine rg ct19_ok ?_
        simp only [go_sem, Nat.reduceLeDiff, Nat.reduceLT, Nat.reduceAdd, Nat.reduceMul, Nat.reduceSub, Nat.reduceEqDiff, Nat.reduceBEq, Int.reduceToNat, reduceCtorEq, ct19_11, body11]
        refine ⟨_, (Option.some.inj H).symm, ?_⟩
        refine SubF_of ⟨[some 0], ?_, ?_, by rfl, by rfl⟩
        · simp [CvL, Cv, getM]
        · exact ⟨CvB_dead, trivial⟩
      replace H := cond_t hc H
      refine rg ct19_ok ?_
      simp only [go_sem, Nat.reduceLeDiff, Nat.reduceLT, Nat.reduceAdd, Nat.reduceMul, Nat.reduceSub, Nat.reduceEqDiff, Nat.reduceBEq, Int.reduceToNat, reduceCtorEq, ct19_11, body11]
      refine seqM ?_
      refine blkM ?_
      refine seqM ?_
      obtain ⟨f1, H⟩ := need_some.1 H
      replace f1 := inb_iff.1 f1
      obtain ⟨r2, e3, H⟩ := Option.bind_eq_some_iff.1 H
      refine rg ct19_ok ?_
      simp only [go_sem, Nat.reduceLeDiff, Nat.reduceLT, Nat.reduceAdd, Nat.reduceMul, Nat.reduceSub, Nat.reduceEqDiff, Nat.reduceBEq, Int.reduceToNat, reduceCtorEq, ct19_11, body11, f1, e3]
      repeat ((with_reducible refine And.intro ?_ ?_); focus (first | (with_reducible trivial) | omega | grind))
      refine condM rfl trivial (fun hc => ?_) (fun hc => ?_)
      · replace H := cond_t hc H
        refine sq ct19_ok ?_
        simp only [go_sem, Nat.reduceLeDiff, Nat.reduceLT, Nat.reduceAdd, Nat.reduceMul, Nat.reduceSub, Nat.reduceEqDiff, Nat.reduceBEq, Int.reduceToNat, reduceCtorEq, ct19_11, body11]
        refine rg ct19_ok ?_
        simp only [go_sem, Nat.reduceLeDiff, Nat.reduceLT, Nat.reduceAdd, Nat.reduceMul, Nat.reduceSub, Nat.reduceEqDiff, Nat.reduceBEq, Int.reduceToNat, reduceCtorEq, ct19_11, body11]
        have H := hn2_1 _ (Option.some.inj H).symm
        obtain rfl := Option.some.inj H
        rfl
      replace H := cond_f hc H
      refine rg ct19_ok ?_
      simp only [go_sem, Nat.reduceLeDiff, Nat.reduceLT, Nat.reduceAdd, Nat.reduceMul, Nat.reduceSub, Nat.reduceEqDiff, Nat.reduceBEq, Int.reduceToNat, reduceCtorEq, ct19_11, body11]
      refine rg ct19_ok ?_
      simp only [go_sem, Nat.reduceLeDiff, Nat.reduceLT, Nat.reduceAdd, Nat.reduceMul, Nat.reduceSub, Nat.reduceEqDiff, Nat.reduceBEq, Int.reduceToNat, reduceCtorEq, ct19_11, body11]
      refine ⟨_, (Option.some.inj H).symm, ?_⟩
      refine SubF_of ⟨[some 0], ?_, ?_, by rfl, by rfl⟩
      · simp [CvL, Cv, getM]
      · exact ⟨(by simp [CvB, CvL, Cv, blkAt, geth, getM]), trivial⟩
    · try dsimp only at H ⊢
      try simp only [m_normal, k_normal, b_normal, kL_normal, r_normal]
      refine sq ct19_ok ?_
      simp only [go_sem, Nat.reduceLeDiff, Nat.reduceLT, Nat.reduceAdd, Nat.reduceMul, Nat.reduceSub, Nat.reduceEqDiff, Nat.reduceBEq, Int.reduceToNat, reduceCtorEq, ct19_11, body11]
      refine rg ct19_ok ?_
      simp only [go_sem, Nat.reduceLeDiff, Nat.reduceLT, Nat.reduceAdd, Nat.reduceMul, Nat.reduceSub, Nat.reduceEqDiff, Nat.reduceBEq, Int.reduceToNat, reduceCtorEq, ct19_11, body11]
      obtain rfl := Option.some.inj H
      rfl
  · cases hb
/-! hotspot/wake.CheckRule -/
noncomputable def ct17 : Ct := tab []
theorem ct17_ok : CtOk Try.prog ct17 := tab_nil
noncomputable def F17 (p0 : TWakeRule) : Option (Int) :=
  bif ((((!((((bLe 0 p0.Id) && (bLe p0.Id 255)) && (bLe 0 p0.Group)) && (bLe p0.Group 255))) || (!(((((bLe 0 p0.Every) && (bLe p0.Every 4294967296)) && (bLe 1 p0.Length)) && (bLe p0.Length 4294967296)) && ((bEq p0.Every 0) || (bLe p0.Length p0.Every))))) || (bLt p0.Start 0)) || (bLt 1099511627776 p0.Start)) then (some 8) else (some 0)
noncomputable def body17 : List AV → AR
  | [v0] => .pure (aK 5 k_TWakeRule v0 ∧ (F17 (g_TWakeRule (aL v0))).isSome = true) (.int .i64 (gt (F17 (g_TWakeRule (aL v0)))))
  | _ => .fail
set_option maxHeartbeats 4000000 in
set_option maxRecDepth 20000 in
theorem ok17 : FnOk Try.prog 17 (pureC body17) := by
  refine pure_fnM body17 (rs := [.tmp 2]) Try.func17 (by kernel_rfl) rfl rfl ?_
  intro l ob v hb hob
  unfold body17 at hb
  split at hb
  · rename_i v0
    injection hb with q1 q2; subst q1 q2
    obtain ⟨hk0, hob⟩ := hob
    obtain ⟨r, H⟩ := Option.isSome_iff_exists.1 hob
    rw [H, gt_some]
    have hw0 := wA_TWakeRule hk0
    generalize g_TWakeRule (aL v0) = p0 at H hw0
    refine ⟨[.agg [.int .i64 p0.Id, .int .i64 p0.Start, .int .i64 p0.Every, .int .i64 p0.Length, .int .i64 p0.Group]], _, (fun E vs F => FR_wk1 hw0.1 F (fun vs F => F)), rfl, rfl, ?_⟩
    rw [Try.ntmps17]
    simp only [List.length_cons, List.length_nil, Nat.reduceAdd, Nat.reduceSub, List.replicate_succ, List.replicate_zero, List.cons_append, List.nil_append]
    unfold F17 at H
    try dsimp only at H
    refine sq ct17_ok ?_
    simp only [go_sem, Nat.reduceLeDiff, Nat.reduceLT, Nat.reduceAdd, Nat.reduceMul, Nat.reduceSub, Nat.reduceEqDiff, Nat.reduceBEq, Int.reduceToNat, reduceCtorEq]
    refine sq ct17_ok ?_
    simp only [go_sem, Nat.reduceLeDiff, Nat.reduceLT, Nat.reduceAdd, Nat.reduceMul, Nat.reduceSub, Nat.reduceEqDiff, Nat.reduceBEq, Int.reduceToNat, reduceCtorEq]
    repeat ((with_reducible refine And.intro ?_ ?_); focus (first | (with_reducible trivial) | omega | grind))
    refine sq ct17_ok ?_
    simp only [go_sem, Nat.reduceLeDiff, Nat.reduceLT, Nat.reduceAdd, Nat.reduceMul, Nat.reduceSub, Nat.reduceEqDiff, Nat.reduceBEq, Int.reduceToNat, reduceCtorEq]
    repeat ((with_reducible refine And.intro ?_ ?_); focus (first | (with_reducible trivial) | omega | grind))
    refine seqM ?_
    refine sq ct17_ok ?_
    simp only [go_sem, Nat.reduceLeDiff, Nat.reduceLT, Nat.reduceAdd, Nat.reduceMul, Nat.reduceSub, Nat.reduceEqDiff, Nat.reduceBEq, Int.reduceToNat, reduceCtorEq]
    repeat ((with_reducible refine And.intro ?_ ?_); focus (first | (with_reducible trivial) | omega | grind))
    refine condM rfl trivial (fun hc => ?_) (fun hc => ?_)
    · replace H := cond_t hc H
      refine sq ct17_ok ?_
      simp only [go_sem, Nat.reduceLeDiff, Nat.reduceLT, Nat.reduceAdd, Nat.reduceMul, Nat.reduceSub, Nat.reduceEqDiff, Nat.reduceBEq, Int.reduceToNat, reduceCtorEq]
      refine rg ct17_ok ?_
      simp only [go_sem, Nat.reduceLeDiff, Nat.reduceLT, Nat.reduceAdd, Nat.reduceMul, Nat.reduceSub, Nat.reduceEqDiff, Nat.reduceBEq, Int.reduceToNat, reduceCtorEq]
      obtain rfl := Option.some.inj H
      rfl
    replace H := cond_f hc H
    refine rg ct17_ok ?_
    simp only [go_sem, Nat.reduceLeDiff, Nat.reduceLT, Nat.reduceAdd, Nat.reduceMul, Nat.reduceSub, Nat.reduceEqDiff, Nat.reduceBEq, Int.reduceToNat, reduceCtorEq]
    refine sq ct17_ok ?_
    simp only [go_sem, Nat.reduceLeDiff, Nat.reduceLT, Nat.reduceAdd, Nat.reduceMul, Nat.reduceSub, Nat.reduceEqDiff, Nat.reduceBEq, Int.reduceToNat, reduceCtorEq]
    refine rg ct17_ok ?_
    simp only [go_sem, Nat.reduceLeDiff, Nat.reduceLT, Nat.reduceAdd, Nat.reduceMul, Nat.reduceSub, Nat.reduceEqDiff, Nat.reduceBEq, Int.reduceToNat, reduceCtorEq]
    obtain rfl := Option.some.inj H
    rfl
  · cases hb
/-! hotspot/wake.meets -/
noncomputable def ct44 : Ct := tab []
theorem ct44_ok : CtOk Try.prog ct44 := tab_nil
noncomputable def F44 (p0 : TWakeRule) (p1 : Int) (p2 : Int) : Option (Bool) :=
  bif ((bLt 0 p0.Every) && (bLe (wr .i64 (p0.Start + p0.Length)) p1)) then (need (!(bEq p0.Every 0)) <| some ((bLt (wr .i64 (p0.Start + (wr .i64 ((wr .i64 ((wr .i64 ((wr .i64 (p1 - (wr .i64 (p0.Start + p0.Length)))).tdiv p0.Every)) + 1)) * p0.Every)))) p2) && (bLt p1 (wr .i64 ((wr .i64 (p0.Start + (wr .i64 ((wr .i64 ((wr .i64 ((wr .i64 (p1 - (wr .i64 (p0.Start + p0.Length)))).tdiv p0.Every)) + 1)) * p0.Every)))) + p0.Length))))) else (some ((bLt p0.Start p2) && (bLt p1 (wr .i64 (p0.Start + p0.Length)))))
noncomputable def body44 : List AV → AR
  | [v0, v1, v2] => .pure (aK 5 k_TWakeRule v0 ∧ iK .i64 v1 ∧ iK .i64 v2 ∧ (F44 (g_TWakeRule (aL v0)) (iA v1) (iA v2)).isSome = true) (.bool (gt (F44 (g_TWakeRule (aL v0)) (iA v1) (iA v2))))
  | _ => .fail
set_option maxHeartbeats 4000000 in
set_option maxRecDepth 20000 in
theorem ok44 : FnOk Try.prog 44 (pureC body44) := by
  refine pure_fnM body44 (rs := [.tmp 6]) Try.func44 (by kernel_rfl) rfl rfl ?_
  intro l ob v hb hob
  unfold body44 at hb
  split at hb
  · rename_i v0 v1 v2
    injection hb with q1 q2; subst q1 q2
    obtain ⟨hk0, hk1, hk2, hob⟩ := hob
    obtain ⟨r, H⟩ := Option.isSome_iff_exists.1 hob
    rw [H, gt_some]
    have hw0 := wA_TWakeRule hk0
    have hw1 := iK_wk hk1
    have hw2 := iK_wk hk2
    generalize g_TWakeRule (aL v0) = p0 at H hw0
    generalize iA v1 = p1 at H hw1
    generalize iA v2 = p2 at H hw2
    refine ⟨[.agg [.int .i64 p0.Id, .int .i64 p0.Start, .int .i64 p0.Every, .int .i64 p0.Length, .int .i64 p0.Group], .int .i64 p1, .int .i64 p2], _, (fun E vs F => FR_wk1 hw0.1 F (fun vs F => FR_wk1 hw1.1 F (fun vs F => FR_wk1 hw2.1 F (fun vs F => F)))), rfl, rfl, ?_⟩
    rw [Try.ntmps44]
    simp only [List.length_cons, List.length_nil, Nat.reduceAdd, Nat.reduceSub, List.replicate_succ, List.replicate_zero, List.cons_append, List.nil_append]
    unfold F44 at H
    try dsimp only at H
    refine sq ct44_ok ?_
    simp only [go_sem, Nat.reduceLeDiff, Nat.reduceLT, Nat.reduceAdd, Nat.reduceMul, Nat.reduceSub, Nat.reduceEqDiff, Nat.reduceBEq, Int.reduceToNat, reduceCtorEq]
    refine sq ct44_ok ?_
    simp only [go_sem, Nat.reduceLeDiff, Nat.reduceLT, Nat.reduceAdd, Nat.reduceMul, Nat.reduceSub, Nat.reduceEqDiff, Nat.reduceBEq, Int.reduceToNat, reduceCtorEq]
    refine seqM ?_
    refine sq ct44_ok ?_
    simp only [go_sem, Nat.reduceLeDiff, Nat.reduceLT, Nat.reduceAdd, Nat.reduceMul, Nat.reduceSub, Nat.reduceEqDiff, Nat.reduceBEq, Int.reduceToNat, reduceCtorEq]
    refine sq ct44_ok ?_
    simp only [go_sem, Nat.reduceLeDiff, Nat.reduceLT, Nat.reduceAdd, Nat.reduceMul, Nat.reduceSub, Nat.reduceEqDiff, Nat.reduceBEq, Int.reduceToNat, reduceCtorEq]
    repeat ((with_reducible refine And.intro ?_ ?_); focus (first | (with_reducible trivial) | omega | grind))
    refine condM' rfl trivial (fun hc => ?_) (fun hc => ?_)
    · replace H := cond_f hc H
      refine rg ct44_ok ?_
      simp only [go_sem, Nat.reduceLeDiff, Nat.reduceLT, Nat.reduceAdd, Nat.reduceMul, Nat.reduceSub, Nat.reduceEqDiff, Nat.reduceBEq, Int.reduceToNat, reduceCtorEq]
      refine sq ct44_ok ?_
      simp only [go_sem, Nat.reduceLeDiff, Nat.reduceLT, Nat.reduceAdd, Nat.reduceMul, Nat.reduceSub, Nat.reduceEqDiff, Nat.reduceBEq, Int.reduceToNat, reduceCtorEq]
      repeat ((with_reducible refine And.intro ?_ ?_); focus (first | (with_reducible trivial) | omega | grind))
      refine rg ct44_ok ?_
      simp only [go_sem, Nat.reduceLeDiff, Nat.reduceLT, Nat.reduceAdd, Nat.reduceMul, Nat.reduceSub, Nat.reduceEqDiff, Nat.reduceBEq, Int.reduceToNat, reduceCtorEq]
      obtain rfl := Option.some.inj H
      rfl
    replace H := cond_t hc H
    obtain ⟨f1, H⟩ := need_some.1 H
    replace f1 := ne0_iff.1 f1
    refine draw_quiet shT_ok ct44_ok (by kernel_rfl) (by kernel_rfl) ?_
    simp only [go_sem, Nat.reduceLeDiff, Nat.reduceLT, Nat.reduceAdd, Nat.reduceMul, Nat.reduceSub, Nat.reduceEqDiff, Nat.reduceBEq, Int.reduceToNat, reduceCtorEq, f1]
    repeat ((with_reducible refine And.intro ?_ ?_); focus (first | (with_reducible trivial) | omega | grind))
    refine sq ct44_ok ?_
    simp only [go_sem, Nat.reduceLeDiff, Nat.reduceLT, Nat.reduceAdd, Nat.reduceMul, Nat.reduceSub, Nat.reduceEqDiff, Nat.reduceBEq, Int.reduceToNat, reduceCtorEq]
    repeat ((with_reducible refine And.intro ?_ ?_); focus (first | (with_reducible trivial) | omega | grind))
    refine rg ct44_ok ?_
    simp only [go_sem, Nat.reduceLeDiff, Nat.reduceLT, Nat.reduceAdd, Nat.reduceMul, Nat.reduceSub, Nat.reduceEqDiff, Nat.reduceBEq, Int.reduceToNat, reduceCtorEq]
    obtain rfl := Option.some.inj H
    rfl
  · cases hb
/-! hotspot/wake.divisor -/
noncomputable def ct45 : Ct := tab []
theorem ct45_ok : CtOk Try.prog ct45 := tab_nil
noncomputable def F45_L1 (v1_1 : Int) (v1_2 : Int) : Option (Lp (Int × Int) ((Unit) ⊕ (Int))) :=
  need (!(bEq v1_2 0)) <| bif (!bEq (v1_1.tmod v1_2) 0) then (some (.next (v1_2, v1_1.tmod v1_2))) else (some (.done (.inr v1_2)))
noncomputable def F45 (p0 : Int) (p1 : Int) : Option (Int) :=
  lp (loopD (fun s => F45_L1 s.1 s.2) (p0, p1)) (fun e => none) some
noncomputable def body45 : List AV → AR
  | [v0, v1] => .pure (iK .i64 v0 ∧ iK .i64 v1 ∧ (F45 (iA v0) (iA v1)).isSome = true) (.int .i64 (gt (F45 (iA v0) (iA v1))))
  | _ => .fail
set_option maxHeartbeats 4000000 in
set_option maxRecDepth 20000 in
theorem ok45 : FnOk Try.prog 45 (pureC body45) := by
  refine pure_fnM body45 (rs := [.tmp 4]) Try.func45 (by kernel_rfl) rfl rfl ?_
  intro l ob v hb hob
  unfold body45 at hb
  split at hb
  · rename_i v0 v1
    injection hb with q1 q2; subst q1 q2
    obtain ⟨hk0, hk1, hob⟩ := hob
    obtain ⟨r, H⟩ := Option.isSome_iff_exists.1 hob
    rw [H, gt_some]
    have hw0 := iK_wk hk0
    have hw1 := iK_wk hk1
    generalize iA v0 = p0 at H hw0
    generalize iA v1 = p1 at H hw1
    refine ⟨[.int .i64 p0, .int .i64 p1], _, (fun E vs F => FR_wk1 hw0.1 F (fun vs F => FR_wk1 hw1.1 F (fun vs F => F))), rfl, rfl, ?_⟩
    rw [Try.ntmps45]
    simp only [List.length_cons, List.length_nil, Nat.reduceAdd, Nat.reduceSub, List.replicate_succ, List.replicate_zero, List.cons_append, List.nil_append]
    unfold F45 at H
    try dsimp only at H
    refine sq ct45_ok ?_
    simp only [go_sem, Nat.reduceLeDiff, Nat.reduceLT, Nat.reduceAdd, Nat.reduceMul, Nat.reduceSub, Nat.reduceEqDiff, Nat.reduceBEq, Int.reduceToNat, reduceCtorEq]
    refine scope_den (l := 0) (fun s : Int × Int => [.int .i64 s.1, .int .i64 s.2, .top, .top, .top, .top, .top, .top, .top, .top, .top, .top, .top]) (fun s => []) (fun e : Unit => [.top, .top, .top, .top, .top, .top, .top, .top, .top, .top, .top, .top, .top]) (fun e => []) (by rfl) H ?_ (fun o H hn1_1 hn2_1 => ?_) (fun s o H hn1_1 hn2_1 => ?_) (fun e H => ?_)
    · refine SubF_of ⟨[], ?_, ?_, by rfl, by rfl⟩
      · simp [CvL, Cv, getM]
      · trivial
    · unfold F45_L1 at H
      try dsimp only at H ⊢
      refine sq ct45_ok ?_
      simp only [go_sem, Nat.reduceLeDiff, Nat.reduceLT, Nat.reduceAdd, Nat.reduceMul, Nat.reduceSub, Nat.reduceEqDiff, Nat.reduceBEq, Int.reduceToNat, reduceCtorEq]
      refine seqM ?_
      refine seqM ?_
      obtain ⟨f2, H⟩ := need_some.1 H
      replace f2 := ne0_iff.1 f2
      refine rg ct45_ok ?_
      simp only [go_sem, Nat.reduceLeDiff, Nat.reduceLT, Nat.reduceAdd, Nat.reduceMul, Nat.reduceSub, Nat.reduceEqDiff, Nat.reduceBEq, Int.reduceToNat, reduceCtorEq, f2]
      repeat ((with_reducible refine And.intro ?_ ?_); focus (first | (with_reducible trivial) | omega | grind))
      refine sq ct45_ok ?_
      simp only [go_sem, Nat.reduceLeDiff, Nat.reduceLT, Nat.reduceAdd, Nat.reduceMul, Nat.reduceSub, Nat.reduceEqDiff, Nat.reduceBEq, Int.reduceToNat, reduceCtorEq]
      refine condM rfl trivial (fun hc => ?_) (fun hc => ?_)
      · replace H := cond_t hc H
        refine sq ct45_ok ?_
        simp only [go_sem, Nat.reduceLeDiff, Nat.reduceLT, Nat.reduceAdd, Nat.reduceMul, Nat.reduceSub, Nat.reduceEqDiff, Nat.reduceBEq, Int.reduceToNat, reduceCtorEq]
        refine rg ct45_ok ?_
        simp only [go_sem, Nat.reduceLeDiff, Nat.reduceLT, Nat.reduceAdd, Nat.reduceMul, Nat.reduceSub, Nat.reduceEqDiff, Nat.reduceBEq, Int.reduceToNat, reduceCtorEq]
        refine ⟨_, (Option.some.inj H).symm, ?_⟩
        refine SubF_of ⟨[], ?_, ?_, by rfl, by rfl⟩
        · simp [CvL, Cv, getM]
        · trivial
      replace H := cond_f hc H
      refine rg ct45_ok ?_
      simp only [go_sem, Nat.reduceLeDiff, Nat.reduceLT, Nat.reduceAdd, Nat.reduceMul, Nat.reduceSub, Nat.reduceEqDiff, Nat.reduceBEq, Int.reduceToNat, reduceCtorEq]
      refine sq ct45_ok ?_
      simp only [go_sem, Nat.reduceLeDiff, Nat.reduceLT, Nat.reduceAdd, Nat.reduceMul, Nat.reduceSub, Nat.reduceEqDiff, Nat.reduceBEq, Int.reduceToNat, reduceCtorEq]
      refine rg ct45_ok ?_
      simp only [go_sem, Nat.reduceLeDiff, Nat.reduceLT, Nat.reduceAdd, Nat.reduceMul, Nat.reduceSub, Nat.reduceEqDiff, Nat.reduceBEq, Int.reduceToNat, reduceCtorEq]
      have H := hn2_1 _ (Option.some.inj H).symm
      obtain rfl := Option.some.inj H
      rfl
    · obtain ⟨v1_1, v1_2⟩ := s
      unfold F45_L1 at H
      try dsimp only at H ⊢
      refine sq ct45_ok ?_
      simp only [go_sem, Nat.reduceLeDiff, Nat.reduceLT, Nat.reduceAdd, Nat.reduceMul, Nat.reduceSub, Nat.reduceEqDiff, Nat.reduceBEq, Int.reduceToNat, reduceCtorEq]
      refine seqM ?_
      refine seqM ?_
      obtain ⟨f2, H⟩ := need_some.1 H
      replace f2 := ne0_iff.1 f2
      refine rg ct45_ok ?_
      simp only [go_sem, Nat.reduceLeDiff, Nat.reduceLT, Nat.reduceAdd, Nat.reduceMul, Nat.reduceSub, Nat.reduceEqDiff, Nat.reduceBEq, Int.reduceToNat, reduceCtorEq, f2]
      repeat ((with_reducible refine And.intro ?_ ?_); focus (first | (with_reducible trivial) | omega | grind))
      refine sq ct45_ok ?_
      simp only [go_sem, Nat.reduceLeDiff, Nat.reduceLT, Nat.reduceAdd, Nat.reduceMul, Nat.reduceSub, Nat.reduceEqDiff, Nat.reduceBEq, Int.reduceToNat, reduceCtorEq]
      refine condM rfl trivial (fun hc => ?_) (fun hc => ?_)
      · replace H := cond_t hc H
        refine sq ct45_ok ?_
        simp only [go_sem, Nat.reduceLeDiff, Nat.reduceLT, Nat.reduceAdd, Nat.reduceMul, Nat.reduceSub, Nat.reduceEqDiff, Nat.reduceBEq, Int.reduceToNat, reduceCtorEq]
        refine rg ct45_ok ?_
        simp only [go_sem, Nat.reduceLeDiff, Nat.reduceLT, Nat.reduceAdd, Nat.reduceMul, Nat.reduceSub, Nat.reduceEqDiff, Nat.reduceBEq, Int.reduceToNat, reduceCtorEq]
        refine ⟨_, (Option.some.inj H).symm, ?_⟩
        refine SubF_of ⟨[], ?_, ?_, by rfl, by rfl⟩
        · simp [CvL, Cv, getM]
        · trivial
      replace H := cond_f hc H
      refine rg ct45_ok ?_
      simp only [go_sem, Nat.reduceLeDiff, Nat.reduceLT, Nat.reduceAdd, Nat.reduceMul, Nat.reduceSub, Nat.reduceEqDiff, Nat.reduceBEq, Int.reduceToNat, reduceCtorEq]
      refine sq ct45_ok ?_
      simp only [go_sem, Nat.reduceLeDiff, Nat.reduceLT, Nat.reduceAdd, Nat.reduceMul, Nat.reduceSub, Nat.reduceEqDiff, Nat.reduceBEq, Int.reduceToNat, reduceCtorEq]
      refine rg ct45_ok ?_
      simp only [go_sem, Nat.reduceLeDiff, Nat.reduceLT, Nat.reduceAdd, Nat.reduceMul, Nat.reduceSub, Nat.reduceEqDiff, Nat.reduceBEq, Int.reduceToNat, reduceCtorEq]
      have H := hn2_1 _ (Option.some.inj H).symm
      obtain rfl := Option.some.inj H
      rfl
    · try dsimp only at H ⊢
      try simp only [m_normal, k_normal, b_normal, kL_normal, r_normal]
      cases H
  · cases hb
/-! hotspot/wake.overlap -/
noncomputable def ct34 : Ct := tab [(44, pureC body44), (45, pureC body45)]
theorem ct34_ok : CtOk Try.prog ct34 := tab_cons ok44 <| tab_cons ok45 <| tab_nil
theorem ct34_44 (l : List AV) (h : List ABlk) : ct34 44 l h = pureC body44 l h := rfl
theorem ct34_45 (l : List AV) (h : List ABlk) : ct34 45 l h = pureC body45 l h := rfl
noncomputable def F34 (p0 : TWakeRule) (p1 : TWakeRule) : Option (Bool) :=
  bif (bEq p0.Every 0) then ((F44 p1 p0.Start (wr .i64 (p0.Start + p0.Length))).bind fun r1 => some r1) else (bif (bEq p1.Every 0) then ((F44 p0 p1.Start (wr .i64 (p1.Start + p1.Length))).bind fun r3 => some r3) else ((F45 p0.Every p1.Every).bind fun r5 => need (!(bEq r5 0)) <| bif (bLt ((wr .i64 (p0.Start - p1.Start)).tmod r5) 0) then (some ((bLt (wr .i64 (((wr .i64 (p0.Start - p1.Start)).tmod r5) + r5)) p1.Length) || (bLt (wr .i64 (r5 - (wr .i64 (((wr .i64 (p0.Start - p1.Start)).tmod r5) + r5)))) p0.Length))) else (some ((bLt ((wr .i64 (p0.Start - p1.Start)).tmod r5) p1.Length) || (bLt (wr .i64 (r5 - ((wr .i64 (p0.Start - p1.Start)).tmod r5))) p0.Length)))))
noncomputable def body34 : List AV → AR
  | [v0, v1] => .pure (aK 5 k_TWakeRule v0 ∧ aK 5 k_TWakeRule v1 ∧ (F34 (g_TWakeRule (aL v0)) (g_TWakeRule (aL v1))).isSome = true) (.bool (gt (F34 (g_TWakeRule (aL v0)) (g_TWakeRule (aL v1)))))
  | _ => .fail
set_option maxHeartbeats 4000000 in
set_option maxRecDepth 20000 in
theorem ok34 : FnOk Try.prog 34 (pureC body34) := by
  refine pure_fnM body34 (rs := [.tmp 4]) Try.func34 (by kernel_rfl) rfl rfl ?_
  intro l ob v hb hob
  unfold body34 at hb
  split at hb
  · rename_i v0 v1
    injection hb with q1 q2; subst q1 q2
    obtain ⟨hk0, hk1, hob⟩ := hob
    obtain ⟨r, H⟩ := Option.isSome_iff_exists.1 hob
    rw [H, gt_some]
    have hw0 := wA_TWakeRule hk0
    have hw1 := wA_TWakeRule hk1
    generalize g_TWakeRule (aL v0) = p0 at H hw0
    generalize g_TWakeRule (aL v1) = p1 at H hw1
    refine ⟨[.agg [.int .i64 p0.Id, .int .i64 p0.Start, .int .i64 p0.Every, .int .i64 p0.Length, .int .i64 p0.Group], .agg [.int .i64 p1.Id, .int .i64 p1.Start, .int .i64 p1.Every, .int .i64 p1.Length, .int .i64 p1.Group]], _, (fun E vs F => FR_wk1 hw0.1 F (fun vs F => FR_wk1 hw1.1 F (fun vs F => F))), rfl, rfl, ?_⟩
    rw [Try.ntmps34]
    simp only [List.length_cons, List.length_nil, Nat.reduceAdd, Nat.reduceSub, List.replicate_succ, List.replicate_zero, List.cons_append, List.nil_append]
    unfold F34 at H
    try dsimp only at H
    refine sq ct34_ok ?_
    simp only [go_sem, Nat.reduceLeDiff, Nat.reduceLT, Nat.reduceAdd, Nat.reduceMul, Nat.reduceSub, Nat.reduceEqDiff, Nat.reduceBEq, Int.reduceToNat, reduceCtorEq, ct34_44, body44, ct34_45, body45]
    refine seqM ?_
    refine blkM ?_
    refine sq ct34_ok ?_
    simp only [go_sem, Nat.reduceLeDiff, Nat.reduceLT, Nat.reduceAdd, Nat.reduceMul, Nat.reduceSub, Nat.reduceEqDiff, Nat.reduceBEq, Int.reduceToNat, reduceCtorEq, ct34_44, body44, ct34_45, body45]
    refine condM rfl trivial (fun hc => ?_) (fun hc => ?_)
    · replace H := cond_t hc H
      refine seqM ?_
      obtain ⟨r1, e2, H⟩ := Option.bind_eq_some_iff.1 H
      refine rg ct34_ok ?_
      simp only [go_sem, Nat.reduceLeDiff, Nat.reduceLT, Nat.reduceAdd, Nat.reduceMul, Nat.reduceSub, Nat.reduceEqDiff, Nat.reduceBEq, Int.reduceToNat, reduceCtorEq, ct34_44, body44, ct34_45, body45, e2]
      repeat ((with_reducible refine And.intro ?_ ?_); focus (first | (with_reducible trivial) | omega | grind))
      refine rg ct34_ok ?_
      simp only [go_sem, Nat.reduceLeDiff, Nat.reduceLT, Nat.reduceAdd, Nat.reduceMul, Nat.reduceSub, Nat.reduceEqDiff, Nat.reduceBEq, Int.reduceToNat, reduceCtorEq, ct34_44, body44, ct34_45, body45]
      obtain rfl := Option.some.inj H
      rfl
    replace H := cond_f hc H
    refine sq ct34_ok ?_
    simp only [go_sem, Nat.reduceLeDiff, Nat.reduceLT, Nat.reduceAdd, Nat.reduceMul, Nat.reduceSub, Nat.reduceEqDiff, Nat.reduceBEq, Int.reduceToNat, reduceCtorEq, ct34_44, body44, ct34_45, body45]
    refine condM rfl trivial (fun hc => ?_) (fun hc => ?_)
    · replace H := cond_t hc H
      refine seqM ?_
      obtain ⟨r3, e4, H⟩ := Option.bind_eq_some_iff.1 H
      refine rg ct34_ok ?_
      simp only [go_sem, Nat.reduceLeDiff, Nat.reduceLT, Nat.reduceAdd, Nat.reduceMul, Nat.reduceSub, Nat.reduceEqDiff, Nat.reduceBEq, Int.reduceToNat, reduceCtorEq, ct34_44, body44, ct34_45, body45, e4]
      repeat ((with_reducible refine And.intro ?_ ?_); focus (first | (with_reducible trivial) | omega | grind))
      refine rg ct34_ok ?_
      simp only [go_sem, Nat.reduceLeDiff, Nat.reduceLT, Nat.reduceAdd, Nat.reduceMul, Nat.reduceSub, Nat.reduceEqDiff, Nat.reduceBEq, Int.reduceToNat, reduceCtorEq, ct34_44, body44, ct34_45, body45]
      obtain rfl := Option.some.inj H
      rfl
    replace H := cond_f hc H
    refine rg ct34_ok ?_
    simp only [go_sem, Nat.reduceLeDiff, Nat.reduceLT, Nat.reduceAdd, Nat.reduceMul, Nat.reduceSub, Nat.reduceEqDiff, Nat.reduceBEq, Int.reduceToNat, reduceCtorEq, ct34_44, body44, ct34_45, body45]
    refine seqM ?_
    obtain ⟨r5, e6, H⟩ := Option.bind_eq_some_iff.1 H
    refine rg ct34_ok ?_
    simp only [go_sem, Nat.reduceLeDiff, Nat.reduceLT, Nat.reduceAdd, Nat.reduceMul, Nat.reduceSub, Nat.reduceEqDiff, Nat.reduceBEq, Int.reduceToNat, reduceCtorEq, ct34_44, body44, ct34_45, body45, e6]
    repeat ((with_reducible refine And.intro ?_ ?_); focus (first | (with_reducible trivial) | omega | grind))
    refine seqM ?_
    obtain ⟨f7, H⟩ := need_some.1 H
    replace f7 := ne0_iff.1 f7
    refine rg ct34_ok ?_
    simp only [go_sem, Nat.reduceLeDiff, Nat.reduceLT, Nat.reduceAdd, Nat.reduceMul, Nat.reduceSub, Nat.reduceEqDiff, Nat.reduceBEq, Int.reduceToNat, reduceCtorEq, ct34_44, body44, ct34_45, body45, f7]
    repeat ((with_reducible refine And.intro ?_ ?_); focus (first | (with_reducible trivial) | omega | grind))
    refine seqM ?_
    refine sq ct34_ok ?_
    simp only [go_sem, Nat.reduceLeDiff, Nat.reduceLT, Nat.reduceAdd, Nat.reduceMul, Nat.reduceSub, Nat.reduceEqDiff, Nat.reduceBEq, Int.reduceToNat, reduceCtorEq, ct34_44, body44, ct34_45, body45]
    refine condM rfl trivial (fun hc => ?_) (fun hc => ?_)
    · replace H := cond_t hc H
      refine rg ct34_ok ?_
      simp only [go_sem, Nat.reduceLeDiff, Nat.reduceLT, Nat.reduceAdd, Nat.reduceMul, Nat.reduceSub, Nat.reduceEqDiff, Nat.reduceBEq, Int.reduceToNat, reduceCtorEq, ct34_44, body44, ct34_45, body45]
      refine sq ct34_ok ?_
      simp only [go_sem, Nat.reduceLeDiff, Nat.reduceLT, Nat.reduceAdd, Nat.reduceMul, Nat.reduceSub, Nat.reduceEqDiff, Nat.reduceBEq, Int.reduceToNat, reduceCtorEq, ct34_44, body44, ct34_45, body45]
      repeat ((with_reducible refine And.intro ?_ ?_); focus (first | (with_reducible trivial) | omega | grind))
      refine rg ct34_ok ?_
      simp only [go_sem, Nat.reduceLeDiff, Nat.reduceLT, Nat.reduceAdd, Nat.reduceMul, Nat.reduceSub, Nat.reduceEqDiff, Nat.reduceBEq, Int.reduceToNat, reduceCtorEq, ct34_44, body44, ct34_45, body45]
      obtain rfl := Option.some.inj H
      rfl
    replace H := cond_f hc H
    refine rg ct34_ok ?_
    simp only [go_sem, Nat.reduceLeDiff, Nat.reduceLT, Nat.reduceAdd, Nat.reduceMul, Nat.reduceSub, Nat.reduceEqDiff, Nat.reduceBEq, Int.reduceToNat, reduceCtorEq, ct34_44, body44, ct34_45, body45]
    refine sq ct34_ok ?_
    simp only [go_sem, Nat.reduceLeDiff, Nat.reduceLT, Nat.reduceAdd, Nat.reduceMul, Nat.reduceSub, Nat.reduceEqDiff, Nat.reduceBEq, Int.reduceToNat, reduceCtorEq, ct34_44, body44, ct34_45, body45]
    repeat ((with_reducible refine And.intro ?_ ?_); focus (first | (with_reducible trivial) | omega | grind))
    refine rg ct34_ok ?_
    simp only [go_sem, Nat.reduceLeDiff, Nat.reduceLT, Nat.reduceAdd, Nat.reduceMul, Nat.reduceSub, Nat.reduceEqDiff, Nat.reduceBEq, Int.reduceToNat, reduceCtorEq, ct34_44, body44, ct34_45, body45]
    obtain rfl := Option.some.inj H
    rfl
  · cases hb
/-! hotspot/wake.Overlap -/
noncomputable def ct18 : Ct := tab [(17, pureC body17), (34, pureC body34)]
theorem ct18_ok : CtOk Try.prog ct18 := tab_cons ok17 <| tab_cons ok34 <| tab_nil
theorem ct18_17 (l : List AV) (h : List ABlk) : ct18 17 l h = pureC body17 l h := rfl
theorem ct18_34 (l : List AV) (h : List ABlk) : ct18 34 l h = pureC body34 l h := rfl
noncomputable def F18 (p0 : TWakeRule) (p1 : TWakeRule) : Option (Bool × Int) :=
  (F17 p0).bind fun r1 => need (bif (!(!bEq r1 0)) then ((F17 p1).isSome) else true) <| bif ((!bEq r1 0) || (!bEq (gt (F17 p1)) 0)) then (some (false, 2)) else ((F34 p0 p1).bind fun r4 => some (r4, 0))
noncomputable def body18 : List AV → AR
  | [v0, v1] => .pure (aK 5 k_TWakeRule v0 ∧ aK 5 k_TWakeRule v1 ∧ (F18 (g_TWakeRule (aL v0)) (g_TWakeRule (aL v1))).isSome = true) (.tup [.bool ((gt (F18 (g_TWakeRule (aL v0)) (g_TWakeRule (aL v1)))).1), .int .i64 ((gt (F18 (g_TWakeRule (aL v0)) (g_TWakeRule (aL v1)))).2)])
  | _ => .fail
set_option maxHeartbeats 4000000 in
set_option maxRecDepth 20000 in
theorem ok18 : FnOk Try.prog 18 (pureC body18) := by
  refine pure_fnM body18 (rs := [.tmp 4, .tmp 5]) Try.func18 (by kernel_rfl) rfl rfl ?_
  intro l ob v hb hob
  unfold body18 at hb
  split at hb
  · rename_i v0 v1
    injection hb with q1 q2; subst q1 q2
    obtain ⟨hk0, hk1, hob⟩ := hob
    obtain ⟨r, H⟩ := Option.isSome_iff_exists.1 hob
    rw [H, gt_some]
    have hw0 := wA_TWakeRule hk0
    have hw1 := wA_TWakeRule hk1
    generalize g_TWakeRule (aL v0) = p0 at H hw0
    generalize g_TWakeRule (aL v1) = p1 at H hw1
    refine ⟨[.agg [.int .i64 p0.Id, .int .i64 p0.Start, .int .i64 p0.Every, .int .i64 p0.Length, .int .i64 p0.Group], .agg [.int .i64 p1.Id, .int .i64 p1.Start, .int .i64 p1.Every, .int .i64 p1.Length, .int .i64 p1.Group]], _, (fun E vs F => FR_wk1 hw0.1 F (fun vs F => FR_wk1 hw1.1 F (fun vs F => F))), rfl, rfl, ?_⟩
    rw [Try.ntmps18]
    simp only [List.length_cons, List.length_nil, Nat.reduceAdd, Nat.reduceSub, List.replicate_succ, List.replicate_zero, List.cons_append, List.nil_append]
    unfold F18 at H
    try dsimp only at H
    refine sq ct18_ok ?_
    simp only [go_sem, Nat.reduceLeDiff, Nat.reduceLT, Nat.reduceAdd, Nat.reduceMul, Nat.reduceSub, Nat.reduceEqDiff, Nat.reduceBEq, Int.reduceToNat, reduceCtorEq, ct18_17, body17, ct18_34, body34]
    refine seqM ?_
    refine seqM ?_
    obtain ⟨r1, e2, H⟩ := Option.bind_eq_some_iff.1 H
    obtain ⟨f3, H⟩ := need_some.1 H
    replace f3 := g_iff.1 f3
    refine rg ct18_ok ?_
    simp only [go_sem, Nat.reduceLeDiff, Nat.reduceLT, Nat.reduceAdd, Nat.reduceMul, Nat.reduceSub, Nat.reduceEqDiff, Nat.reduceBEq, Int.reduceToNat, reduceCtorEq, ct18_17, body17, ct18_34, body34, e2]
    repeat ((with_reducible refine And.intro ?_ ?_); focus (first | (with_reducible trivial) | omega | (intro g; have q := f3 g; first | exact q | exact ⟨q.1, q.2.1⟩ | exact q.2.2 | omega) | grind))
    refine condM rfl trivial (fun hc => ?_) (fun hc => ?_)
    · replace H := cond_t hc H
      refine sq ct18_ok ?_
      simp only [go_sem, Nat.reduceLeDiff, Nat.reduceLT, Nat.reduceAdd, Nat.reduceMul, Nat.reduceSub, Nat.reduceEqDiff, Nat.reduceBEq, Int.reduceToNat, reduceCtorEq, ct18_17, body17, ct18_34, body34]
      refine rg ct18_ok ?_
      simp only [go_sem, Nat.reduceLeDiff, Nat.reduceLT, Nat.reduceAdd, Nat.reduceMul, Nat.reduceSub, Nat.reduceEqDiff, Nat.reduceBEq, Int.reduceToNat, reduceCtorEq, ct18_17, body17, ct18_34, body34]
      obtain rfl := Option.some.inj H
      rfl
    replace H := cond_f hc H
    refine rg ct18_ok ?_
    simp only [go_sem, Nat.reduceLeDiff, Nat.reduceLT, Nat.reduceAdd, Nat.reduceMul, Nat.reduceSub, Nat.reduceEqDiff, Nat.reduceBEq, Int.reduceToNat, reduceCtorEq, ct18_17, body17, ct18_34, body34]
    refine seqM ?_
    obtain ⟨r4, e5, H⟩ := Option.bind_eq_some_iff.1 H
    refine rg ct18_ok ?_
    simp only [go_sem, Nat.reduceLeDiff, Nat.reduceLT, Nat.reduceAdd, Nat.reduceMul, Nat.reduceSub, Nat.reduceEqDiff, Nat.reduceBEq, Int.reduceToNat, reduceCtorEq, ct18_17, body17, ct18_34, body34, e5]
    repeat ((with_reducible refine And.intro ?_ ?_); focus (first | (with_reducible trivial) | omega | grind))
    refine rg ct18_ok ?_
    simp only [go_sem, Nat.reduceLeDiff, Nat.reduceLT, Nat.reduceAdd, Nat.reduceMul, Nat.reduceSub, Nat.reduceEqDiff, Nat.reduceBEq, Int.reduceToNat, reduceCtorEq, ct18_17, body17, ct18_34, body34]
    obtain rfl := Option.some.inj H
    rfl
  · cases hb
/-! hotspot/hotspotref36.Valid -/
noncomputable def ct20 : Ct := tab []
theorem ct20_ok : CtOk Try.prog ct20 := tab_nil
noncomputable def F20 (p0 : TWakeRule) : Option (Bool) :=
  bif ((((((bLt p0.Id 0) || (bLt 255 p0.Id)) || (bLt p0.Group 0)) || (bLt 255 p0.Group)) || (bLt p0.Start 0)) || (bLt 1099511627776 p0.Start)) then (some false) else (bif ((((bLt p0.Every 0) || (bLt 4294967296 p0.Every)) || (bLt p0.Length 1)) || (bLt 4294967296 p0.Length)) then (some false) else (some ((bEq p0.Every 0) || (bLe p0.Length p0.Every))))
noncomputable def body20 : List AV → AR
  | [v0] => .pure (aK 5 k_TWakeRule v0 ∧ (F20 (g_TWakeRule (aL v0))).isSome = true) (.bool (gt (F20 (g_TWakeRule (aL v0)))))
  | _ => .fail
set_option maxHeartbeats 4000000 in
set_option maxRecDepth 20000 in
theorem ok20 : FnOk Try.prog 20 (pureC body20) := by
  refine pure_fnM body20 (rs := [.tmp 2]) Try.func20 (by kernel_rfl) rfl rfl ?_
  intro l ob v hb hob
  unfold body20 at hb
  split at hb
  · rename_i v0
    injection hb with q1 q2; subst q1 q2
    obtain ⟨hk0, hob⟩ := hob
    obtain ⟨r, H⟩ := Option.isSome_iff_exists.1 hob
    rw [H, gt_some]
    have hw0 := wA_TWakeRule hk0
    generalize g_TWakeRule (aL v0) = p0 at H hw0
    refine ⟨[.agg [.int .i64 p0.Id, .int .i64 p0.Start, .int .i64 p0.Every, .int .i64 p0.Length, .int .i64 p0.Group]], _, (fun E vs F => FR_wk1 hw0.1 F (fun vs F => F)), rfl, rfl, ?_⟩
    rw [Try.ntmps20]
    simp only [List.length_cons, List.length_nil, Nat.reduceAdd, Nat.reduceSub, List.replicate_succ, List.replicate_zero, List.cons_append, List.nil_append]
    unfold F20 at H
    try dsimp only at H
    refine sq ct20_ok ?_
    simp only [go_sem, Nat.reduceLeDiff, Nat.reduceLT, Nat.reduceAdd, Nat.reduceMul, Nat.reduceSub, Nat.reduceEqDiff, Nat.reduceBEq, Int.reduceToNat, reduceCtorEq]
    refine seqM ?_
    refine sq ct20_ok ?_
    simp only [go_sem, Nat.reduceLeDiff, Nat.reduceLT, Nat.reduceAdd, Nat.reduceMul, Nat.reduceSub, Nat.reduceEqDiff, Nat.reduceBEq, Int.reduceToNat, reduceCtorEq]
    repeat ((with_reducible refine And.intro ?_ ?_); focus (first | (with_reducible trivial) | omega | grind))
    refine condM rfl trivial (fun hc => ?_) (fun hc => ?_)
    · replace H := cond_t hc H
      refine sq ct20_ok ?_
      simp only [go_sem, Nat.reduceLeDiff, Nat.reduceLT, Nat.reduceAdd, Nat.reduceMul, Nat.reduceSub, Nat.reduceEqDiff, Nat.reduceBEq, Int.reduceToNat, reduceCtorEq]
      refine rg ct20_ok ?_
      simp only [go_sem, Nat.reduceLeDiff, Nat.reduceLT, Nat.reduceAdd, Nat.reduceMul, Nat.reduceSub, Nat.reduceEqDiff, Nat.reduceBEq, Int.reduceToNat, reduceCtorEq]
      obtain rfl := Option.some.inj H
      rfl
    replace H := cond_f hc H
    refine rg ct20_ok ?_
    simp only [go_sem, Nat.reduceLeDiff, Nat.reduceLT, Nat.reduceAdd, Nat.reduceMul, Nat.reduceSub, Nat.reduceEqDiff, Nat.reduceBEq, Int.reduceToNat, reduceCtorEq]
    refine seqM ?_
    refine sq ct20_ok ?_
    simp only [go_sem, Nat.reduceLeDiff, Nat.reduceLT, Nat.reduceAdd, Nat.reduceMul, Nat.reduceSub, Nat.reduceEqDiff, Nat.reduceBEq, Int.reduceToNat, reduceCtorEq]
    repeat ((with_reducible refine And.intro ?_ ?_); focus (first | (with_reducible trivial) | omega | grind))
    refine condM rfl trivial (fun hc => ?_) (fun hc => ?_)
    · replace H := cond_t hc H
      refine sq ct20_ok ?_
      simp only [go_sem, Nat.reduceLeDiff, Nat.reduceLT, Nat.reduceAdd, Nat.reduceMul, Nat.reduceSub, Nat.reduceEqDiff, Nat.reduceBEq, Int.reduceToNat, reduceCtorEq]
      refine rg ct20_ok ?_
      simp only [go_sem, Nat.reduceLeDiff, Nat.reduceLT, Nat.reduceAdd, Nat.reduceMul, Nat.reduceSub, Nat.reduceEqDiff, Nat.reduceBEq, Int.reduceToNat, reduceCtorEq]
      obtain rfl := Option.some.inj H
      rfl
    replace H := cond_f hc H
    refine rg ct20_ok ?_
    simp only [go_sem, Nat.reduceLeDiff, Nat.reduceLT, Nat.reduceAdd, Nat.reduceMul, Nat.reduceSub, Nat.reduceEqDiff, Nat.reduceBEq, Int.reduceToNat, reduceCtorEq]
    refine sq ct20_ok ?_
    simp only [go_sem, Nat.reduceLeDiff, Nat.reduceLT, Nat.reduceAdd, Nat.reduceMul, Nat.reduceSub, Nat.reduceEqDiff, Nat.reduceBEq, Int.reduceToNat, reduceCtorEq]
    repeat ((with_reducible refine And.intro ?_ ?_); focus (first | (with_reducible trivial) | omega | grind))
    refine rg ct20_ok ?_
    simp only [go_sem, Nat.reduceLeDiff, Nat.reduceLT, Nat.reduceAdd, Nat.reduceMul, Nat.reduceSub, Nat.reduceEqDiff, Nat.reduceBEq, Int.reduceToNat, reduceCtorEq]
    obtain rfl := Option.some.inj H
    rfl
  · cases hb
/-! hotspot/wake.Check -/
noncomputable def ct32 : Ct := tab [(17, pureC body17)]
theorem ct32_ok : CtOk Try.prog ct32 := tab_cons ok17 <| tab_nil
theorem ct32_17 (l : List AV) (h : List ABlk) : ct32 17 l h = pureC body17 l h := rfl
noncomputable def F32_L1 (p0 : TWakeTable) (v1_1 : Int) : Option (Lp (Int) ((Unit) ⊕ (Int))) :=
  bif (bLt v1_1 (p0.List.length : Nat)) then (need (inb v1_1 p0.List.length) <| (F17 (gd p0.List v1_1.toNat)).bind fun r5 => need (bif ((!(!bEq r5 0)) && (bLt 0 v1_1)) then inb (wr .i64 (v1_1 - 1)) p0.List.length else true) <| bif ((!bEq r5 0) || ((bLt 0 v1_1) && (bLe ((gd p0.List v1_1.toNat).Id) ((gd p0.List ((wr .i64 (v1_1 - 1)).toNat)).Id)))) then (some (.done (.inr 8))) else (some (.next (wr .i64 (v1_1 + 1))))) else (some (.done (.inl ())))
noncomputable def F32 (p0 : TWakeTable) : Option (Int) :=
  bif (bLt 32 (p0.List.length : Nat)) then (some 8) else (lp (loopD (fun s => F32_L1 p0 s) 0) (fun e => some 0) some)
noncomputable def body32 : List AV → AR
  | [v0] => .pure (aK 1 k_TWakeTable v0 ∧ (F32 (g_TWakeTable (aL v0))).isSome = true) (.int .i64 (gt (F32 (g_TWakeTable (aL v0)))))
  | _ => .fail
set_option maxHeartbeats 4000000 in
set_option maxRecDepth 20000 in
theorem ok32 : FnOk Try.prog 32 (pureC body32) := by
  refine pure_fnM body32 (rs := [.tmp 2]) Try.func32 (by kernel_rfl) rfl rfl ?_
  intro l ob v hb hob
  unfold body32 at hb
  split at hb
  · rename_i v0
    injection hb with q1 q2; subst q1 q2
    obtain ⟨hk0, hob⟩ := hob
    obtain ⟨r, H⟩ := Option.isSome_iff_exists.1 hob
    rw [H, gt_some]
    have hw0 := wA_TWakeTable hk0
    generalize g_TWakeTable (aL v0) = p0 at H hw0
    refine ⟨[.agg [.ro 5 p0.List.length false (enR c_TWakeRule p0.List)]], _, (fun E vs F => FR_wk1 hw0.1 F (fun vs F => F)), rfl, rfl, ?_⟩
    rw [Try.ntmps32]
    simp only [List.length_cons, List.length_nil, Nat.reduceAdd, Nat.reduceSub, List.replicate_succ, List.replicate_zero, List.cons_append, List.nil_append]
    unfold F32 at H
    try dsimp only at H
    refine sq ct32_ok ?_
    simp only [go_sem, Nat.reduceLeDiff, Nat.reduceLT, Nat.reduceAdd, Nat.reduceMul, Nat.reduceSub, Nat.reduceEqDiff, Nat.reduceBEq, Int.reduceToNat, reduceCtorEq, ct32_17, body17]
    refine seqM ?_
    refine sq ct32_ok ?_
    simp only [go_sem, Nat.reduceLeDiff, Nat.reduceLT, Nat.reduceAdd, Nat.reduceMul, Nat.reduceSub, Nat.reduceEqDiff, Nat.reduceBEq, Int.reduceToNat, reduceCtorEq, ct32_17, body17]
    repeat ((with_reducible refine And.intro ?_ ?_); focus (first | (with_reducible trivial) | omega | grind))
    refine condM rfl trivial (fun hc => ?_) (fun hc => ?_)
    · replace H := cond_t hc H
      refine sq ct32_ok ?_
      simp only [go_sem, Nat.reduceLeDiff, Nat.reduceLT, Nat.reduceAdd, Nat.reduceMul, Nat.reduceSub, Nat.reduceEqDiff, Nat.reduceBEq, Int.reduceToNat, reduceCtorEq, ct32_17, body17]
      refine rg ct32_ok ?_
      simp only [go_sem, Nat.reduceLeDiff, Nat.reduceLT, Nat.reduceAdd, Nat.reduceMul, Nat.reduceSub, Nat.reduceEqDiff, Nat.reduceBEq, Int.reduceToNat, reduceCtorEq, ct32_17, body17]
      obtain rfl := Option.some.inj H
      rfl
    replace H := cond_f hc H
    refine rg ct32_ok ?_
    simp only [go_sem, Nat.reduceLeDiff, Nat.reduceLT, Nat.reduceAdd, Nat.reduceMul, Nat.reduceSub, Nat.reduceEqDiff, Nat.reduceBEq, Int.reduceToNat, reduceCtorEq, ct32_17, body17]
    refine seqM ?_
    refine sq ct32_ok ?_
    simp only [go_sem, Nat.reduceLeDiff, Nat.reduceLT, Nat.reduceAdd, Nat.reduceMul, Nat.reduceSub, Nat.reduceEqDiff, Nat.reduceBEq, Int.reduceToNat, reduceCtorEq, ct32_17, body17]
    repeat ((with_reducible refine And.intro ?_ ?_); focus (first | (with_reducible trivial) | omega | grind))
    refine blkM ?_
    refine loop_den (fun s : Int => [.top, .ptr 0 0 0 0, .top, .top, .top, .top, .top, .top, .top, .top, .ro 5 p0.List.length false (enR c_TWakeRule p0.List), .int .i64 (p0.List.length : Nat), .int .i64 s, .top, .top, .top, .top, .top, .top, .top, .top, .top, .top, .top, .top, .top, .top, .top, .top, .top, .top, .top, .top, .top, .top, .top, .top]) (fun s => [.lit 37 [.ro 5 p0.List.length false (enR c_TWakeRule p0.List)]]) (fun e : Unit => [.top, .top, .top, .top, .top, .top, .top, .top, .top, .top, .top, .top, .top, .top, .top, .top, .top, .top, .top, .top, .top, .top, .top, .top, .top, .top, .top, .top, .top, .top, .top, .top, .top, .top, .top, .top, .top]) (fun e => [.dead]) H ?_ (fun v1_1 o H hn1_1 hn2_1 => ?_) (fun e H => ?_)
    · refine SubF_of ⟨[some 0], ?_, ?_, by rfl, by rfl⟩
      · simp [CvL, Cv, getM]
      · exact ⟨(by simp [CvB, CvL, Cv, blkAt, geth, getM]), trivial⟩
    · unfold F32_L1 at H
      try dsimp only at H ⊢
      refine sq ct32_ok ?_
      simp only [go_sem, Nat.reduceLeDiff, Nat.reduceLT, Nat.reduceAdd, Nat.reduceMul, Nat.reduceSub, Nat.reduceEqDiff, Nat.reduceBEq, Int.reduceToNat, reduceCtorEq, ct32_17, body17]
      refine seqM ?_
      refine condM' rfl trivial (fun hc => ?_) (fun hc => ?_)
      · replace H := cond_f hc H
        refine rg ct32_ok ?_
        simp only [go_sem, Nat.reduceLeDiff, Nat.reduceLT, Nat.reduceAdd, Nat.reduceMul, Nat.reduceSub, Nat.reduceEqDiff, Nat.reduceBEq, Int.reduceToNat, reduceCtorEq, ct32_17, body17]
        refine ⟨_, (Option.some.inj H).symm, ?_⟩
        refine SubF_of ⟨[some 0], ?_, ?_, by rfl, by rfl⟩
        · simp [CvL, Cv, getM]
        · exact ⟨CvB_dead, trivial⟩
      replace H := cond_t hc H
      refine rg ct32_ok ?_
      simp only [go_sem, Nat.reduceLeDiff, Nat.reduceLT, Nat.reduceAdd, Nat.reduceMul, Nat.reduceSub, Nat.reduceEqDiff, Nat.reduceBEq, Int.reduceToNat, reduceCtorEq, ct32_17, body17]
      refine seqM ?_
      refine blkM ?_
      refine seqM ?_
      obtain ⟨f1, H⟩ := need_some.1 H
      replace f1 := inb_iff.1 f1
      refine rg ct32_ok ?_
      simp only [go_sem, Nat.reduceLeDiff, Nat.reduceLT, Nat.reduceAdd, Nat.reduceMul, Nat.reduceSub, Nat.reduceEqDiff, Nat.reduceBEq, Int.reduceToNat, reduceCtorEq, ct32_17, body17, f1]
      repeat ((with_reducible refine And.intro ?_ ?_); focus (first | (with_reducible trivial) | omega | grind))
      refine seqM ?_
      obtain ⟨r5, e6, H⟩ := Option.bind_eq_some_iff.1 H
      obtain ⟨f7, H⟩ := need_some.1 H
      replace f7 := g_iff.1 f7
      replace f7 := fun g => inb_iff.1 (f7 g)
      refine draw_quiet shT_ok ct32_ok (by kernel_rfl) (by kernel_rfl) ?_
      simp only [go_sem, Nat.reduceLeDiff, Nat.reduceLT, Nat.reduceAdd, Nat.reduceMul, Nat.reduceSub, Nat.reduceEqDiff, Nat.reduceBEq, Int.reduceToNat, reduceCtorEq, ct32_17, body17, e6]
      repeat ((with_reducible refine And.intro ?_ ?_); focus (first | (with_reducible trivial) | omega | (intro g; have q := f7 g; first | exact q | exact ⟨q.1, q.2.1⟩ | exact q.2.2 | omega) | grind))
      refine condM rfl trivial (fun hc => ?_) (fun hc => ?_)
      · replace H := cond_t hc H
        refine sq ct32_ok ?_
        simp only [go_sem, Nat.reduceLeDiff, Nat.reduceLT, Nat.reduceAdd, Nat.reduceMul, Nat.reduceSub, Nat.reduceEqDiff, Nat.reduceBEq, Int.reduceToNat, reduceCtorEq, ct32_17, body17]
        refine rg ct32_ok ?_
        simp only [go_sem, Nat.reduceLeDiff, Nat.reduceLT, Nat.reduceAdd, Nat.reduceMul, Nat.reduceSub, Nat.reduceEqDiff, Nat.reduceBEq, Int.reduceToNat, reduceCtorEq, ct32_17, body17]
        have H := hn2_1 _ (Option.some.inj H).symm
        obtain rfl := Option.some.inj H
        rfl
      replace H := cond_f hc H
      refine rg ct32_ok ?_
      simp only [go_sem, Nat.reduceLeDiff, Nat.reduceLT, Nat.reduceAdd, Nat.reduceMul, Nat.reduceSub, Nat.reduceEqDiff, Nat.reduceBEq, Int.reduceToNat, reduceCtorEq, ct32_17, body17]
      refine rg ct32_ok ?_
      simp only [go_sem, Nat.reduceLeDiff, Nat.reduceLT, Nat.reduceAdd, Nat.reduceMul, Nat.reduceSub, Nat.reduceEqDiff, Nat.reduceBEq, Int.reduceToNat, reduceCtorEq, ct32_17, body17]
      refine ⟨_, (Option.some.inj H).symm, ?_⟩
      refine SubF_of ⟨[some 0], ?_, ?_, by rfl, by rfl⟩
      · simp [CvL, Cv, getM]
      · exact ⟨(by simp [CvB, CvL, Cv, blkAt, geth, getM]), trivial⟩
    · try dsimp only at H ⊢
      try simp only [m_normal, k_normal, b_normal, kL_normal, r_normal]
      refine sq ct32_ok ?_
      simp only [go_sem, Nat.reduceLeDiff, Nat.reduceLT, Nat.reduceAdd, Nat.reduceMul, Nat.reduceSub, Nat.reduceEqDiff, Nat.reduceBEq, Int.reduceToNat, reduceCtorEq, ct32_17, body17]
      refine rg ct32_ok ?_
      simp only [go_sem, Nat.reduceLeDiff, Nat.reduceLT, Nat.reduceAdd, Nat.reduceMul, Nat.reduceSub, Nat.reduceEqDiff, Nat.reduceBEq, Int.reduceToNat, reduceCtorEq, ct32_17, body17]
      obtain rfl := Option.some.inj H
      rfl
  · cases hb
/-! hotspot/wake.Answer$1 -/
noncomputable def ct36_0 : Ct := tab [(34, pureC body34)]
theorem ct36_0_ok : CtOk Try.prog ct36_0 := tab_cons ok34 <| tab_nil
theorem ct36_0_34 (l : List AV) (h : List ABlk) : ct36_0 34 l h = pureC body34 l h := rfl
noncomputable def F36_0 (p0 : TWakeRule) (p1 : TWakeRule) : Option (Bool) :=
  need (bif ((!bEq p0.Id p1.Id) && ((bEq p0.Group 0) || (!bEq p0.Group p1.Group))) then ((F34 p0 p1).isSome) else true) <| some (((!bEq p0.Id p1.Id) && ((bEq p0.Group 0) || (!bEq p0.Group p1.Group))) && (gt (F34 p0 p1)))
noncomputable def body36_0 : List AV → AR
  | [v0, v1] => .pure (aK 5 k_TWakeRule v0 ∧ rK 5 k_TWakeRule v1 ∧ (F36_0 (g_TWakeRule (aL v0)) (g_TWakeRule (rG v1))).isSome = true) (.bool (gt (F36_0 (g_TWakeRule (aL v0)) (g_TWakeRule (rG v1)))))
  | _ => .fail
set_option maxHeartbeats 4000000 in
set_option maxRecDepth 20000 in
theorem ok36_0 : FnOk Try.prog 36 (pureC body36_0) := by
  refine pure_fnM body36_0 (rs := [.tmp 3]) Try.func36 (by kernel_rfl) rfl rfl ?_
  intro l ob v hb hob
  unfold body36_0 at hb
  split at hb
  · rename_i v0 v1
    injection hb with q1 q2; subst q1 q2
    obtain ⟨hk0, hk1, hob⟩ := hob
    obtain ⟨r, H⟩ := Option.isSome_iff_exists.1 hob
    rw [H, gt_some]
    have hw0 := wA_TWakeRule hk0
    have hw1 := rK_wk (f := c_TWakeRule) (g := g_TWakeRule) (fun r h => w_TWakeRule h) hk1
    generalize g_TWakeRule (aL v0) = p0 at H hw0
    generalize g_TWakeRule (rG v1) = p1 at H hw1
    refine ⟨[.agg [.int .i64 p0.Id, .int .i64 p0.Start, .int .i64 p0.Every, .int .i64 p0.Length, .int .i64 p0.Group], .rptr 5 1 0 0 (enR c_TWakeRule [p1])], _, (fun E vs F => FR_wk1 hw0.1 F (fun vs F => FR_wk1 hw1.1 F (fun vs F => F))), rfl, rfl, ?_⟩
    rw [Try.ntmps36]
    simp only [List.length_cons, List.length_nil, Nat.reduceAdd, Nat.reduceSub, List.replicate_succ, List.replicate_zero, List.cons_append, List.nil_append]
    unfold F36_0 at H
    try dsimp only at H
    refine sq ct36_0_ok ?_
    simp only [go_sem, Nat.reduceLeDiff, Nat.reduceLT, Nat.reduceAdd, Nat.reduceMul, Nat.reduceSub, Nat.reduceEqDiff, Nat.reduceBEq, Int.reduceToNat, reduceCtorEq, ct36_0_34, body34]
    refine seqM ?_
    obtain ⟨f1, H⟩ := need_some.1 H
    replace f1 := g_iff.1 f1
    refine rg ct36_0_ok ?_
    simp only [go_sem, Nat.reduceLeDiff, Nat.reduceLT, Nat.reduceAdd, Nat.reduceMul, Nat.reduceSub, Nat.reduceEqDiff, Nat.reduceBEq, Int.reduceToNat, reduceCtorEq, ct36_0_34, body34]
    repeat ((with_reducible refine And.intro ?_ ?_); focus (first | (with_reducible trivial) | omega | (intro g; have q := f1 g; first | exact q | exact ⟨q.1, q.2.1⟩ | exact q.2.2 | omega) | grind))
    refine rg ct36_0_ok ?_
    simp only [go_sem, Nat.reduceLeDiff, Nat.reduceLT, Nat.reduceAdd, Nat.reduceMul, Nat.reduceSub, Nat.reduceEqDiff, Nat.reduceBEq, Int.reduceToNat, reduceCtorEq, ct36_0_34, body34]
    obtain rfl := Option.some.inj H
    rfl
  · cases hb
/-! slices.IndexFunc[[]hotspot/api.WakeRule,hotspot/api.WakeRule] -/
noncomputable def ct47_0 : Ct := tab [(36, pureC body36_0)]
theorem ct47_0_ok : CtOk Try.prog ct47_0 := tab_cons ok36_0 <| tab_nil
theorem ct47_0_36 (l : List AV) (h : List ABlk) : ct47_0 36 l h = pureC body36_0 l h := rfl
noncomputable def F47_0_L1 (p0 : List TWakeRule) (p1 : TWakeRule) (v1_1 : Int) : Option (Lp (Int) ((Unit) ⊕ (Int))) :=
  bif (bLt v1_1 (p0.length : Nat)) then (need (inb v1_1 p0.length) <| (F36_0 (gd p0 v1_1.toNat) p1).bind fun r2 => bif r2 then (some (.done (.inr v1_1))) else (some (.next (wr .i64 (v1_1 + 1))))) else (some (.done (.inl ())))
noncomputable def F47_0 (p0 : List TWakeRule) (p1 : TWakeRule) : Option (Int) :=
  lp (loopD (fun s => F47_0_L1 p0 p1 s) 0) (fun e => some (-1)) some
noncomputable def body47_0 : List AV → AR
  | [v0, .fn 36 [v1]] => .pure (lK k_TWakeRule 5 v0 ∧ rK 5 k_TWakeRule v1 ∧ (F47_0 (lA g_TWakeRule v0) (g_TWakeRule (rG v1))).isSome = true) (.int .i64 (gt (F47_0 (lA g_TWakeRule v0) (g_TWakeRule (rG v1)))))
  | _ => .fail
set_option maxHeartbeats 4000000 in
set_option maxRecDepth 20000 in
theorem ok47_0 : FnOk Try.prog 47 (pureC body47_0) := by
  refine pure_fnM body47_0 (rs := [.tmp 4]) Try.func47 (by kernel_rfl) rfl rfl ?_
  intro l ob v hb hob
  unfold body47_0 at hb
  split at hb
  · rename_i v0 v1
    injection hb with q1 q2; subst q1 q2
    obtain ⟨hk0, hk1, hob⟩ := hob
    obtain ⟨r, H⟩ := Option.isSome_iff_exists.1 hob
    rw [H, gt_some]
    have hw0 := lK_wk (fun r h => w_TWakeRule h) hk0
    have hw1 := rK_wk (f := c_TWakeRule) (g := g_TWakeRule) (fun r h => w_TWakeRule h) hk1
    generalize lA g_TWakeRule v0 = p0 at H hw0
    generalize g_TWakeRule (rG v1) = p1 at H hw1
    refine ⟨[.ro 5 p0.length false (enR c_TWakeRule p0), .fn 36 [.rptr 5 1 0 0 (enR c_TWakeRule [p1])]], _, (fun E vs F => FR_wk1 hw0.1 F (fun vs F => FR_wk1 (fn_wk (LW_cons hw1.1 LW_nil)) F (fun vs F => F))), rfl, rfl, ?_⟩
    rw [Try.ntmps47]
    simp only [List.length_cons, List.length_nil, Nat.reduceAdd, Nat.reduceSub, List.replicate_succ, List.replicate_zero, List.cons_append, List.nil_append]
    unfold F47_0 at H
    try dsimp only at H
    refine sq ct47_0_ok ?_
    simp only [go_sem, Nat.reduceLeDiff, Nat.reduceLT, Nat.reduceAdd, Nat.reduceMul, Nat.reduceSub, Nat.reduceEqDiff, Nat.reduceBEq, Int.reduceToNat, reduceCtorEq, ct47_0_36, body36_0]
    refine seqM ?_
    refine sq ct47_0_ok ?_
    simp only [go_sem, Nat.reduceLeDiff, Nat.reduceLT, Nat.reduceAdd, Nat.reduceMul, Nat.reduceSub, Nat.reduceEqDiff, Nat.reduceBEq, Int.reduceToNat, reduceCtorEq, ct47_0_36, body36_0]
    repeat ((with_reducible refine And.intro ?_ ?_); focus (first | (with_reducible trivial) | omega | grind))
    refine blkM ?_
    refine loop_den (fun s : Int => [.ro 5 p0.length false (enR c_TWakeRule p0), .fn 36 [.rptr 5 1 0 0 (enR c_TWakeRule [p1])], .top, .top, .top, .top, .top, .int .i64 (p0.length : Nat), .int .i64 s, .top, .top, .top, .top, .top, .top, .top, .top, .top, .top]) (fun s => []) (fun e : Unit => [.top, .top, .top, .top, .top, .top, .top, .top, .top, .top, .top, .top, .top, .top, .top, .top, .top, .top, .top]) (fun e => []) H ?_ (fun v1_1 o H hn1_1 hn2_1 => ?_) (fun e H => ?_)
    · refine SubF_of ⟨[], ?_, ?_, by rfl, by rfl⟩
      · simp [CvL, Cv, getM]
      · trivial
    · unfold F47_0_L1 at H
      try dsimp only at H ⊢
      refine sq ct47_0_ok ?_
      simp only [go_sem, Nat.reduceLeDiff, Nat.reduceLT, Nat.reduceAdd, Nat.reduceMul, Nat.reduceSub, Nat.reduceEqDiff, Nat.reduceBEq, Int.reduceToNat, reduceCtorEq, ct47_0_36, body36_0]
      refine seqM ?_
      refine condM' rfl trivial (fun hc => ?_) (fun hc => ?_)
      · replace H := cond_f hc H
        refine rg ct47_0_ok ?_
        simp only [go_sem, Nat.reduceLeDiff, Nat.reduceLT, Nat.reduceAdd, Nat.reduceMul, Nat.reduceSub, Nat.reduceEqDiff, Nat.reduceBEq, Int.reduceToNat, reduceCtorEq, ct47_0_36, body36_0]
        refine ⟨_, (Option.some.inj H).symm, ?_⟩
        refine SubF_of ⟨[], ?_, ?_, by rfl, by rfl⟩
        · simp [CvL, Cv, getM]
        · trivial
      replace H := cond_t hc H
      refine rg ct47_0_ok ?_
      simp only [go_sem, Nat.reduceLeDiff, Nat.reduceLT, Nat.reduceAdd, Nat.reduceMul, Nat.reduceSub, Nat.reduceEqDiff, Nat.reduceBEq, Int.reduceToNat, reduceCtorEq, ct47_0_36, body36_0]
      refine seqM ?_
      refine blkM ?_
      refine sq ct47_0_ok ?_
      simp only [go_sem, Nat.reduceLeDiff, Nat.reduceLT, Nat.reduceAdd, Nat.reduceMul, Nat.reduceSub, Nat.reduceEqDiff, Nat.reduceBEq, Int.reduceToNat, reduceCtorEq, ct47_0_36, body36_0]
      refine seqM ?_
      obtain ⟨f1, H⟩ := need_some.1 H
      replace f1 := inb_iff.1 f1
      obtain ⟨r2, e3, H⟩ := Option.bind_eq_some_iff.1 H
      refine rg ct47_0_ok ?_
      simp only [go_sem, Nat.reduceLeDiff, Nat.reduceLT, Nat.reduceAdd, Nat.reduceMul, Nat.reduceSub, Nat.reduceEqDiff, Nat.reduceBEq, Int.reduceToNat, reduceCtorEq, ct47_0_36, body36_0, f1, e3]
      repeat ((with_reducible refine And.intro ?_ ?_); focus (first | (with_reducible trivial) | omega | grind))
      refine condM rfl trivial (fun hc => ?_) (fun hc => ?_)
      · replace H := cond_t hc H
        refine sq ct47_0_ok ?_
        simp only [go_sem, Nat.reduceLeDiff, Nat.reduceLT, Nat.reduceAdd, Nat.reduceMul, Nat.reduceSub, Nat.reduceEqDiff, Nat.reduceBEq, Int.reduceToNat, reduceCtorEq, ct47_0_36, body36_0]
        refine rg ct47_0_ok ?_
        simp only [go_sem, Nat.reduceLeDiff, Nat.reduceLT, Nat.reduceAdd, Nat.reduceMul, Nat.reduceSub, Nat.reduceEqDiff, Nat.reduceBEq, Int.reduceToNat, reduceCtorEq, ct47_0_36, body36_0]
        have H := hn2_1 _ (Option.some.inj H).symm
        obtain rfl := Option.some.inj H
        rfl
      replace H := cond_f hc H
      refine rg ct47_0_ok ?_
      simp only [go_sem, Nat.reduceLeDiff, Nat.reduceLT, Nat.reduceAdd, Nat.reduceMul, Nat.reduceSub, Nat.reduceEqDiff, Nat.reduceBEq, Int.reduceToNat, reduceCtorEq, ct47_0_36, body36_0]
      refine rg ct47_0_ok ?_
      simp only [go_sem, Nat.reduceLeDiff, Nat.reduceLT, Nat.reduceAdd, Nat.reduceMul, Nat.reduceSub, Nat.reduceEqDiff, Nat.reduceBEq, Int.reduceToNat, reduceCtorEq, ct47_0_36, body36_0]
      refine ⟨_, (Option.some.inj H).symm, ?_⟩
      refine SubF_of ⟨[], ?_, ?_, by rfl, by rfl⟩
      · simp [CvL, Cv, getM]
      · trivial
    · try dsimp only at H ⊢
      try simp only [m_normal, k_normal, b_normal, kL_normal, r_normal]
      refine sq ct47_0_ok ?_
      simp only [go_sem, Nat.reduceLeDiff, Nat.reduceLT, Nat.reduceAdd, Nat.reduceMul, Nat.reduceSub, Nat.reduceEqDiff, Nat.reduceBEq, Int.reduceToNat, reduceCtorEq, ct47_0_36, body36_0]
      refine rg ct47_0_ok ?_
      simp only [go_sem, Nat.reduceLeDiff, Nat.reduceLT, Nat.reduceAdd, Nat.reduceMul, Nat.reduceSub, Nat.reduceEqDiff, Nat.reduceBEq, Int.reduceToNat, reduceCtorEq, ct47_0_36, body36_0]
      obtain rfl := Option.some.inj H
      rfl
  · cases hb
/-! slices.ContainsFunc[[]hotspot/api.WakeRule,hotspot/api.WakeRule] -/
noncomputable def ct37_0 : Ct := tab [(47, pureC body47_0)]
theorem ct37_0_ok : CtOk Try.prog ct37_0 := tab_cons ok47_0 <| tab_nil
theorem ct37_0_47 (l : List AV) (h : List ABlk) : ct37_0 47 l h = pureC body47_0 l h := rfl
noncomputable def F37_0 (p0 : List TWakeRule) (p1 : TWakeRule) : Option (Bool) :=
  (F47_0 p0 p1).bind fun r1 => some (bLe 0 r1)
noncomputable def body37_0 : List AV → AR
  | [v0, .fn 36 [v1]] => .pure (lK k_TWakeRule 5 v0 ∧ rK 5 k_TWakeRule v1 ∧ (F37_0 (lA g_TWakeRule v0) (g_TWakeRule (rG v1))).isSome = true) (.bool (gt (F37_0 (lA g_TWakeRule v0) (g_TWakeRule (rG v1)))))
  | _ => .fail
set_option maxHeartbeats 4000000 in
set_option maxRecDepth 20000 in
theorem ok37_0 : FnOk Try.prog 37 (pureC body37_0) := by
  refine pure_fnM body37_0 (rs := [.tmp 4]) Try.func37 (by kernel_rfl) rfl rfl ?_
  intro l ob v hb hob
  unfold body37_0 at hb
  split at hb
  · rename_i v0 v1
    injection hb with q1 q2; subst q1 q2
    obtain ⟨hk0, hk1, hob⟩ := hob
    obtain ⟨r, H⟩ := Option.isSome_iff_exists.1 hob
    rw [H, gt_some]
    have hw0 := lK_wk (fun r h => w_TWakeRule h) hk0
    have hw1 := rK_wk (f := c_TWakeRule) (g := g_TWakeRule) (fun r h => w_TWakeRule h) hk1
    generalize lA g_TWakeRule v0 = p0 at H hw0
    generalize g_TWakeRule (rG v1) = p1 at H hw1
    refine ⟨[.ro 5 p0.length false (enR c_TWakeRule p0), .fn 36 [.rptr 5 1 0 0 (enR c_TWakeRule [p1])]], _, (fun E vs F => FR_wk1 hw0.1 F (fun vs F => FR_wk1 (fn_wk (LW_cons hw1.1 LW_nil)) F (fun vs F => F))), rfl, rfl, ?_⟩
    rw [Try.ntmps37]
    simp only [List.length_cons, List.length_nil, Nat.reduceAdd, Nat.reduceSub, List.replicate_succ, List.replicate_zero, List.cons_append, List.nil_append]
    unfold F37_0 at H
    try dsimp only at H
    refine sq ct37_0_ok ?_
    simp only [go_sem, Nat.reduceLeDiff, Nat.reduceLT, Nat.reduceAdd, Nat.reduceMul, Nat.reduceSub, Nat.reduceEqDiff, Nat.reduceBEq, Int.reduceToNat, reduceCtorEq, ct37_0_47, body47_0]
    refine seqM ?_
    obtain ⟨r1, e2, H⟩ := Option.bind_eq_some_iff.1 H
    refine rg ct37_0_ok ?_
    simp only [go_sem, Nat.reduceLeDiff, Nat.reduceLT, Nat.reduceAdd, Nat.reduceMul, Nat.reduceSub, Nat.reduceEqDiff, Nat.reduceBEq, Int.reduceToNat, reduceCtorEq, ct37_0_47, body47_0, e2]
    repeat ((with_reducible refine And.intro ?_ ?_); focus (first | (with_reducible trivial) | omega | grind))
    refine rg ct37_0_ok ?_
    simp only [go_sem, Nat.reduceLeDiff, Nat.reduceLT, Nat.reduceAdd, Nat.reduceMul, Nat.reduceSub, Nat.reduceEqDiff, Nat.reduceBEq, Int.reduceToNat, reduceCtorEq, ct37_0_47, body47_0]
    obtain rfl := Option.some.inj H
    rfl
  · cases hb
/-! hotspot/wake.Answer -/
noncomputable def ct22 : Ct := tab [(17, pureC body17), (32, pureC body32), (37, pureC body37_0)]
theorem ct22_ok : CtOk Try.prog ct22 := tab_cons ok17 <| tab_cons ok32 <| tab_cons ok37_0 <| tab_nil
theorem ct22_17 (l : List AV) (h : List ABlk) : ct22 17 l h = pureC body17 l h := rfl
theorem ct22_32 (l : List AV) (h : List ABlk) : ct22 32 l h = pureC body32 l h := rfl
theorem ct22_37 (l : List AV) (h : List ABlk) : ct22 37 l h = pureC body37_0 l h := rfl
noncomputable def F22_L1 (p0 : TWakeTable) (p1 : TWakeRule) (v1_1 : Int) (v1_2 : Int) : Option (Lp (Int × Int) ((Unit) ⊕ (TWakeRule × Int))) :=
  bif (bLt v1_1 65) then ((F17 (TWakeRule.mk p1.Id v1_2 p1.Every p1.Length p1.Group)).bind fun r5 => need (bif (bEq r5 0) then ((F37_0 p0.List (TWakeRule.mk p1.Id v1_2 p1.Every p1.Length p1.Group)).isSome) else true) <| bif ((bEq r5 0) && (!(gt (F37_0 p0.List (TWakeRule.mk p1.Id v1_2 p1.Every p1.Length p1.Group))))) then (some (.done (.inr ((TWakeRule.mk p1.Id v1_2 p1.Every p1.Length p1.Group), 0)))) else (some (.next (wr .i64 (v1_1 + 1), wr .i64 (v1_2 + p1.Length))))) else (some (.done (.inl ())))
noncomputable def F22 (p0 : TWakeTable) (p1 : TWakeRule) : Option (TWakeRule × Int) :=
  (F32 p0).bind fun r1 => bif (!bEq r1 0) then (some ((TWakeRule.mk 0 0 0 0 0), r1)) else ((F17 p1).bind fun r3 => bif (!bEq r3 0) then (some ((TWakeRule.mk 0 0 0 0 0), 2)) else (lp (loopD (fun s => F22_L1 p0 p1 s.1 s.2) (0, p1.Start)) (fun e => some ((TWakeRule.mk 0 0 0 0 0), 22)) some))
noncomputable def body22 : List AV → AR
  | [v0, v1] => .pure (aK 1 k_TWakeTable v0 ∧ aK 5 k_TWakeRule v1 ∧ (F22 (g_TWakeTable (aL v0)) (g_TWakeRule (aL v1))).isSome = true) (.tup [.agg [.int .i64 (((gt (F22 (g_TWakeTable (aL v0)) (g_TWakeRule (aL v1)))).1).Id), .int .i64 (((gt (F22 (g_TWakeTable (aL v0)) (g_TWakeRule (aL v1)))).1).Start), .int .i64 (((gt (F22 (g_TWakeTable (aL v0)) (g_TWakeRule (aL v1)))).1).Every), .int .i64 (((gt (F22 (g_TWakeTable (aL v0)) (g_TWakeRule (aL v1)))).1).Length), .int .i64 (((gt (F22 (g_TWakeTable (aL v0)) (g_TWakeRule (aL v1)))).1).Group)], .int .i64 ((gt (F22 (g_TWakeTable (aL v0)) (g_TWakeRule (aL v1)))).2)])
  | _ => .fail
set_option maxHeartbeats 4000000 in
set_option maxRecDepth 20000 in
theorem ok22 : FnOk Try.prog 22 (pureC body22) := by
  refine pure_fnM body22 (rs := [.cell 4 23, .tmp 5]) Try.func22 (by kernel_rfl) rfl rfl ?_
  intro l ob v hb hob
  unfold body22 at hb
  split at hb
  · rename_i v0 v1
    injection hb with q1 q2; subst q1 q2
    obtain ⟨hk0, hk1, hob⟩ := hob
    obtain ⟨r, H⟩ := Option.isSome_iff_exists.1 hob
    rw [H, gt_some]
    have hw0 := wA_TWakeTable hk0
    have hw1 := wA_TWakeRule hk1
    generalize g_TWakeTable (aL v0) = p0 at H hw0
    generalize g_TWakeRule (aL v1) = p1 at H hw1
    refine ⟨[.agg [.ro 5 p0.List.length false (enR c_TWakeRule p0.List)], .agg [.int .i64 p1.Id, .int .i64 p1.Start, .int .i64 p1.Every, .int .i64 p1.Length, .int .i64 p1.Group]], _, (fun E vs F => FR_wk1 hw0.1 F (fun vs F => FR_wk1 hw1.1 F (fun vs F => F))), rfl, rfl, ?_⟩
    rw [Try.ntmps22]
    simp only [List.length_cons, List.length_nil, Nat.reduceAdd, Nat.reduceSub, List.replicate_succ, List.replicate_zero, List.cons_append, List.nil_append]
    unfold F22 at H
    try dsimp only at H
    refine sq ct22_ok ?_
    simp only [go_sem, Nat.reduceLeDiff, Nat.reduceLT, Nat.reduceAdd, Nat.reduceMul, Nat.reduceSub, Nat.reduceEqDiff, Nat.reduceBEq, Int.reduceToNat, reduceCtorEq, ct22_17, body17, ct22_32, body32, ct22_37, body37_0]
    refine seqM ?_
    refine seqM ?_
    obtain ⟨r1, e2, H⟩ := Option.bind_eq_some_iff.1 H
    refine rg ct22_ok ?_
    simp only [go_sem, Nat.reduceLeDiff, Nat.reduceLT, Nat.reduceAdd, Nat.reduceMul, Nat.reduceSub, Nat.reduceEqDiff, Nat.reduceBEq, Int.reduceToNat, reduceCtorEq, ct22_17, body17, ct22_32, body32, ct22_37, body37_0, e2]
    repeat ((with_reducible refine And.intro ?_ ?_); focus (first | (with_reducible trivial) | omega | grind))
    refine sq ct22_ok ?_
    simp only [go_sem, Nat.reduceLeDiff, Nat.reduceLT, Nat.reduceAdd, Nat.reduceMul, Nat.reduceSub, Nat.reduceEqDiff, Nat.reduceBEq, Int.reduceToNat, reduceCtorEq, ct22_17, body17, ct22_32, body32, ct22_37, body37_0]
    refine condM rfl trivial (fun hc => ?_) (fun hc => ?_)
    · replace H := cond_t hc H
      refine sq ct22_ok ?_
      simp only [go_sem, Nat.reduceLeDiff, Nat.reduceLT, Nat.reduceAdd, Nat.reduceMul, Nat.reduceSub, Nat.reduceEqDiff, Nat.reduceBEq, Int.reduceToNat, reduceCtorEq, ct22_17, body17, ct22_32, body32, ct22_37, body37_0]
      repeat ((with_reducible refine And.intro ?_ ?_); focus (first | (with_reducible trivial) | omega | grind))
      refine rg ct22_ok ?_
      simp only [go_sem, Nat.reduceLeDiff, Nat.reduceLT, Nat.reduceAdd, Nat.reduceMul, Nat.reduceSub, Nat.reduceEqDiff, Nat.reduceBEq, Int.reduceToNat, reduceCtorEq, ct22_17, body17, ct22_32, body32, ct22_37, body37_0]
      obtain rfl := Option.some.inj H
      rfl
    replace H := cond_f hc H
    refine rg ct22_ok ?_
    simp only [go_sem, Nat.reduceLeDiff, Nat.reduceLT, Nat.reduceAdd, Nat.reduceMul, Nat.reduceSub, Nat.reduceEqDiff, Nat.reduceBEq, Int.reduceToNat, reduceCtorEq, ct22_17, body17, ct22_32, body32, ct22_37, body37_0]
    refine seqM ?_
    refine seqM ?_
    obtain ⟨r3, e4, H⟩ := Option.bind_eq_some_iff.1 H
    refine rg ct22_ok ?_
    simp only [go_sem, Nat.reduceLeDiff, Nat.reduceLT, Nat.reduceAdd, Nat.reduceMul, Nat.reduceSub, Nat.reduceEqDiff, Nat.reduceBEq, Int.reduceToNat, reduceCtorEq, ct22_17, body17, ct22_32, body32, ct22_37, body37_0, e4]
    repeat ((with_reducible refine And.intro ?_ ?_); focus (first | (with_reducible trivial) | omega | grind))
    refine condM rfl trivial (fun hc => ?_) (fun hc => ?_)
    · replace H := cond_t hc H
      refine sq ct22_ok ?_
      simp only [go_sem, Nat.reduceLeDiff, Nat.reduceLT, Nat.reduceAdd, Nat.reduceMul, Nat.reduceSub, Nat.reduceEqDiff, Nat.reduceBEq, Int.reduceToNat, reduceCtorEq, ct22_17, body17, ct22_32, body32, ct22_37, body37_0]
      repeat ((with_reducible refine And.intro ?_ ?_); focus (first | (with_reducible trivial) | omega | grind))
      refine rg ct22_ok ?_
      simp only [go_sem, Nat.reduceLeDiff, Nat.reduceLT, Nat.reduceAdd, Nat.reduceMul, Nat.reduceSub, Nat.reduceEqDiff, Nat.reduceBEq, Int.reduceToNat, reduceCtorEq, ct22_17, body17, ct22_32, body32, ct22_37, body37_0]
      obtain rfl := Option.some.inj H
      rfl
    replace H := cond_f hc H
    refine rg ct22_ok ?_
    simp only [go_sem, Nat.reduceLeDiff, Nat.reduceLT, Nat.reduceAdd, Nat.reduceMul, Nat.reduceSub, Nat.reduceEqDiff, Nat.reduceBEq, Int.reduceToNat, reduceCtorEq, ct22_17, body17, ct22_32, body32, ct22_37, body37_0]
    refine sq ct22_ok ?_
    simp only [go_sem, Nat.reduceLeDiff, Nat.reduceLT, Nat.reduceAdd, Nat.reduceMul, Nat.reduceSub, Nat.reduceEqDiff, Nat.reduceBEq, Int.reduceToNat, reduceCtorEq, ct22_17, body17, ct22_32, body32, ct22_37, body37_0]
    refine seqM ?_
    refine sq ct22_ok ?_
    simp only [go_sem, Nat.reduceLeDiff, Nat.reduceLT, Nat.reduceAdd, Nat.reduceMul, Nat.reduceSub, Nat.reduceEqDiff, Nat.reduceBEq, Int.reduceToNat, reduceCtorEq, ct22_17, body17, ct22_32, body32, ct22_37, body37_0]
    refine blkM ?_
    refine loop_den (fun s : Int × Int => [.top, .top, .ptr 0 0 0 0, .ptr 1 0 0 0, .ptr 2 0 0 0, .top, .top, .fn 36 [.ptr 1 0 0 0], .top, .top, .top, .top, .top, .top, .top, .top, .top, .top, .top, .int .i64 s.1, .top, .top, .top, .top, .top, .top, .top, .top, .top, .top, .top, .top, .top, .top, .top, .top, .top, .top, .top, .top]) (fun s => [.lit 37 [.ro 5 p0.List.length false (enR c_TWakeRule p0.List)], .lit 23 [.int .i64 p1.Id, .int .i64 s.2, .int .i64 p1.Every, .int .i64 p1.Length, .int .i64 p1.Group], .lit 23 [.int .i64 0, .int .i64 0, .int .i64 0, .int .i64 0, .int .i64 0]]) (fun e : Unit => [.top, .top, .top, .top, .ptr 2 0 0 0, .top, .top, .top, .top, .top, .top, .top, .top, .top, .top, .top, .top, .top, .top, .top, .top, .top, .top, .top, .top, .top, .top, .top, .top, .top, .top, .top, .top, .top, .top, .top, .top, .top, .top, .top]) (fun e => [.dead, .dead, .lit 23 [.int .i64 0, .int .i64 0, .int .i64 0, .int .i64 0, .int .i64 0]]) H ?_ (fun s o H hn1_1 hn2_1 => ?_) (fun e H => ?_)
    · refine SubF_of ⟨[some 0, some 1, some 2], ?_, ?_, by rfl, by rfl⟩
      · simp [CvL, Cv, getM]
      · exact ⟨(by simp [CvB, CvL, Cv, blkAt, geth, getM]), (by simp [CvB, CvL, Cv, blkAt, geth, getM]), (by simp [CvB, CvL, Cv, blkAt, geth, getM]), trivial⟩
    · obtain ⟨v1_1, v1_2⟩ := s
      unfold F22_L1 at H
      try dsimp only at H ⊢
      refine sq ct22_ok ?_
      simp only [go_sem, Nat.reduceLeDiff, Nat.reduceLT, Nat.reduceAdd, Nat.reduceMul, Nat.reduceSub, Nat.reduceEqDiff, Nat.reduceBEq, Int.reduceToNat, reduceCtorEq, ct22_17, body17, ct22_32, body32, ct22_37, body37_0]
      refine seqM ?_
      refine condM' rfl trivial (fun hc => ?_) (fun hc => ?_)
      · replace H := cond_f hc H
        refine rg ct22_ok ?_
        simp only [go_sem, Nat.reduceLeDiff, Nat.reduceLT, Nat.reduceAdd, Nat.reduceMul, Nat.reduceSub, Nat.reduceEqDiff, Nat.reduceBEq, Int.reduceToNat, reduceCtorEq, ct22_17, body17, ct22_32, body32, ct22_37, body37_0]
        refine ⟨_, (Option.some.inj H).symm, ?_⟩
        refine SubF_of ⟨[some 0, some 1, some 2], ?_, ?_, by rfl, by rfl⟩
        · simp [CvL, Cv, getM]
        · exact ⟨CvB_dead, CvB_dead, (by simp [CvB, CvL, Cv, blkAt, geth, getM]), trivial⟩
      replace H := cond_t hc H
      refine rg ct22_ok ?_
      simp only [go_sem, Nat.reduceLeDiff, Nat.reduceLT, Nat.reduceAdd, Nat.reduceMul, Nat.reduceSub, Nat.reduceEqDiff, Nat.reduceBEq, Int.reduceToNat, reduceCtorEq, ct22_17, body17, ct22_32, body32, ct22_37, body37_0]
      refine seqM ?_
      refine blkM ?_
      refine seqM ?_
      refine seqM ?_
      obtain ⟨r5, e6, H⟩ := Option.bind_eq_some_iff.1 H
      obtain ⟨f7, H⟩ := need_some.1 H
      replace f7 := g_iff.1 f7
      refine rg ct22_ok ?_
      simp only [go_sem, Nat.reduceLeDiff, Nat.reduceLT, Nat.reduceAdd, Nat.reduceMul, Nat.reduceSub, Nat.reduceEqDiff, Nat.reduceBEq, Int.reduceToNat, reduceCtorEq, ct22_17, body17, ct22_32, body32, ct22_37, body37_0, e6]
      repeat ((with_reducible refine And.intro ?_ ?_); focus (first | (with_reducible trivial) | omega | (intro g; have q := f7 g; first | exact q | exact ⟨q.1, q.2.1⟩ | exact q.2.2 | omega) | grind))
      refine condM rfl trivial (fun hc => ?_) (fun hc => ?_)
      · replace H := cond_t hc H
        refine sq ct22_ok ?_
        simp only [go_sem, Nat.reduceLeDiff, Nat.reduceLT, Nat.reduceAdd, Nat.reduceMul, Nat.reduceSub, Nat.reduceEqDiff, Nat.reduceBEq, Int.reduceToNat, reduceCtorEq, ct22_17, body17, ct22_32, body32, ct22_37, body37_0]
        repeat ((with_reducible refine And.intro ?_ ?_); focus (first | (with_reducible trivial) | omega | grind))
        refine rg ct22_ok ?_
        simp only [go_sem, Nat.reduceLeDiff, Nat.reduceLT, Nat.reduceAdd, Nat.reduceMul, Nat.reduceSub, Nat.reduceEqDiff, Nat.reduceBEq, Int.reduceToNat, reduceCtorEq, ct22_17, body17, ct22_32, body32, ct22_37, body37_0]
        have H := hn2_1 _ (Option.some.inj H).symm
        obtain rfl := Option.some.inj H
        rfl
      replace H := cond_f hc H
      refine rg ct22_ok ?_
      simp only [go_sem, Nat.reduceLeDiff, Nat.reduceLT, Nat.reduceAdd, Nat.reduceMul, Nat.reduceSub, Nat.reduceEqDiff, Nat.reduceBEq, Int.reduceToNat, reduceCtorEq, ct22_17, body17, ct22_32, body32, ct22_37, body37_0]
      refine rg ct22_ok ?_
      simp only [go_sem, Nat.reduceLeDiff, Nat.reduceLT, Nat.reduceAdd, Nat.reduceMul, Nat.reduceSub, Nat.reduceEqDiff, Nat.reduceBEq, Int.reduceToNat, reduceCtorEq, ct22_17, body17, ct22_32, body32, ct22_37, body37_0]
      repeat ((with_reducible refine And.intro ?_ ?_); focus (first | (with_reducible trivial) | omega | grind))
      refine rg ct22_ok ?_
      simp only [go_sem, Nat.reduceLeDiff, Nat.reduceLT, Nat.reduceAdd, Nat.reduceMul, Nat.reduceSub, Nat.reduceEqDiff, Nat.reduceBEq, Int.reduceToNat, reduceCtorEq, ct22_17, body17, ct22_32, body32, ct22_37, body37_0]
      refine ⟨_, (Option.some.inj H).symm, ?_⟩
      refine SubF_of ⟨[some 0, some 1, some 2], ?_, ?_, by rfl, by rfl⟩
      · simp [CvL, Cv, getM]
      · exact ⟨(by simp [CvB, CvL, Cv, blkAt, geth, getM]), (by simp [CvB, CvL, Cv, blkAt, geth, getM]), (by simp [CvB, CvL, Cv, blkAt, geth, getM]), trivial⟩
    · try dsimp only at H ⊢
      try simp only [m_normal, k_normal, b_normal, kL_normal, r_normal]
      refine sq ct22_ok ?_
      simp only [go_sem, Nat.reduceLeDiff, Nat.reduceLT, Nat.reduceAdd, Nat.reduceMul, Nat.reduceSub, Nat.reduceEqDiff, Nat.reduceBEq, Int.reduceToNat, reduceCtorEq, ct22_17, body17, ct22_32, body32, ct22_37, body37_0]
      repeat ((with_reducible refine And.intro ?_ ?_); focus (first | (with_reducible trivial) | omega | grind))
      refine rg ct22_ok ?_
      simp only [go_sem, Nat.reduceLeDiff, Nat.reduceLT, Nat.reduceAdd, Nat.reduceMul, Nat.reduceSub, Nat.reduceEqDiff, Nat.reduceBEq, Int.reduceToNat, reduceCtorEq, ct22_17, body17, ct22_32, body32, ct22_37, body37_0]
      obtain rfl := Option.some.inj H
      rfl
  · cases hb
/-! hotspot/hotspotref36.ValidTable -/
noncomputable def ct33 : Ct := tab [(20, pureC body20)]
theorem ct33_ok : CtOk Try.prog ct33 := tab_cons ok20 <| tab_nil
theorem ct33_20 (l : List AV) (h : List ABlk) : ct33 20 l h = pureC body20 l h := rfl
noncomputable def F33_L1 (p0 : TWakeTable) (v1_1 : Int) : Option (Lp (Int) ((Unit) ⊕ (Bool))) :=
  bif (bLt v1_1 (p0.List.length : Nat)) then (need (inb v1_1 p0.List.length) <| (F20 (gd p0.List v1_1.toNat)).bind fun r7 => need (bif ((!(!r7)) && (bLt 0 v1_1)) then inb (wr .i64 (v1_1 - 1)) p0.List.length else true) <| need (bif ((!(!r7)) && (bLt 0 v1_1)) then inb v1_1 p0.List.length else true) <| bif ((!r7) || ((bLt 0 v1_1) && (bLe ((gd p0.List v1_1.toNat).Id) ((gd p0.List ((wr .i64 (v1_1 - 1)).toNat)).Id)))) then (some (.done (.inr false))) else (some (.next (wr .i64 (v1_1 + 1))))) else (some (.done (.inl ())))
noncomputable def F33 (p0 : TWakeTable) : Option (Bool) :=
  bif (bLt 32 (p0.List.length : Nat)) then (some false) else (lp (loopD (fun s => F33_L1 p0 s) 0) (fun e => some true) some)
noncomputable def body33 : List AV → AR
  | [v0] => .pure (aK 1 k_TWakeTable v0 ∧ (F33 (g_TWakeTable (aL v0))).isSome = true) (.bool (gt (F33 (g_TWakeTable (aL v0)))))
  | _ => .fail
set_option maxHeartbeats 4000000 in
set_option maxRecDepth 20000 in
theorem ok33 : FnOk Try.prog 33 (pureC body33) := by
  refine pure_fnM body33 (rs := [.tmp 2]) Try.func33 (by kernel_rfl) rfl rfl ?_
  intro l ob v hb hob
  unfold body33 at hb
  split at hb
  · rename_i v0
    injection hb with q1 q2; subst q1 q2
    obtain ⟨hk0, hob⟩ := hob
    obtain ⟨r, H⟩ := Option.isSome_iff_exists.1 hob
    rw [H, gt_some]
    have hw0 := wA_TWakeTable hk0
    generalize g_TWakeTable (aL v0) = p0 at H hw0
    refine ⟨[.agg [.ro 5 p0.List.length false (enR c_TWakeRule p0.List)]], _, (fun E vs F => FR_wk1 hw0.1 F (fun vs F => F)), rfl, rfl, ?_⟩
    rw [Try.ntmps33]
    simp only [List.length_cons, List.length_nil, Nat.reduceAdd, Nat.reduceSub, List.replicate_succ, List.replicate_zero, List.cons_append, List.nil_append]
    unfold F33 at H
    try dsimp only at H
    refine sq ct33_ok ?_
    simp only [go_sem, Nat.reduceLeDiff, Nat.reduceLT, Nat.reduceAdd, Nat.reduceMul, Nat.reduceSub, Nat.reduceEqDiff, Nat.reduceBEq, Int.reduceToNat, reduceCtorEq, ct33_20, body20]
    refine seqM ?_
    refine sq ct33_ok ?_
    simp only [go_sem, Nat.reduceLeDiff, Nat.reduceLT, Nat.reduceAdd, Nat.reduceMul, Nat.reduceSub, Nat.reduceEqDiff, Nat.reduceBEq, Int.reduceToNat, reduceCtorEq, ct33_20, body20]
    repeat ((with_reducible refine And.intro ?_ ?_); focus (first | (with_reducible trivial) | omega | grind))
    refine condM rfl trivial (fun hc => ?_) (fun hc => ?_)
    · replace H := cond_t hc H
      refine sq ct33_ok ?_
      simp only [go_sem, Nat.reduceLeDiff, Nat.reduceLT, Nat.reduceAdd, Nat.reduceMul, Nat.reduceSub, Nat.reduceEqDiff, Nat.reduceBEq, Int.reduceToNat, reduceCtorEq, ct33_20, body20]
      refine rg ct33_ok ?_
      simp only [go_sem, Nat.reduceLeDiff, Nat.reduceLT, Nat.reduceAdd, Nat.reduceMul, Nat.reduceSub, Nat.reduceEqDiff, Nat.reduceBEq, Int.reduceToNat, reduceCtorEq, ct33_20, body20]
      obtain rfl := Option.some.inj H
      rfl
    replace H := cond_f hc H
    refine rg ct33_ok ?_
    simp only [go_sem, Nat.reduceLeDiff, Nat.reduceLT, Nat.reduceAdd, Nat.reduceMul, Nat.reduceSub, Nat.reduceEqDiff, Nat.reduceBEq, Int.reduceToNat, reduceCtorEq, ct33_20, body20]
    refine seqM ?_
    refine sq ct33_ok ?_
    simp only [go_sem, Nat.reduceLeDiff, Nat.reduceLT, Nat.reduceAdd, Nat.reduceMul, Nat.reduceSub, Nat.reduceEqDiff, Nat.reduceBEq, Int.reduceToNat, reduceCtorEq, ct33_20, body20]
    refine blkM ?_
    refine loop_den (fun s : Int => [.top, .ptr 0 0 0 0, .top, .int .i64 s, .top, .top, .top, .top, .top, .top, .top, .top, .top, .top, .top, .top, .top, .top, .top, .top, .top, .top, .top, .top, .top, .top, .top, .top, .top, .top, .top, .top, .top, .top, .top, .top, .top, .top, .top, .top, .top, .top]) (fun s => [.lit 37 [.ro 5 p0.List.length false (enR c_TWakeRule p0.List)]]) (fun e : Unit => [.top, .top, .top, .top, .top, .top, .top, .top, .top, .top, .top, .top, .top, .top, .top, .top, .top, .top, .top, .top, .top, .top, .top, .top, .top, .top, .top, .top, .top, .top, .top, .top, .top, .top, .top, .top, .top, .top, .top, .top, .top, .top]) (fun e => [.dead]) H ?_ (fun v1_1 o H hn1_1 hn2_1 => ?_) (fun e H => ?_)
    · refine SubF_of ⟨[some 0], ?_, ?_, by rfl, by rfl⟩
      · simp [CvL, Cv, getM]
      · exact ⟨(by simp [CvB, CvL, Cv, blkAt, geth, getM]), trivial⟩
    · unfold F33_L1 at H
      try dsimp only at H ⊢
      refine seqM ?_
      refine sq ct33_ok ?_
      simp only [go_sem, Nat.reduceLeDiff, Nat.reduceLT, Nat.reduceAdd, Nat.reduceMul, Nat.reduceSub, Nat.reduceEqDiff, Nat.reduceBEq, Int.reduceToNat, reduceCtorEq, ct33_20, body20]
      repeat ((with_reducible refine And.intro ?_ ?_); focus (first | (with_reducible trivial) | omega | grind))
      refine condM' rfl trivial (fun hc => ?_) (fun hc => ?_)
      · replace H := cond_f hc H
        refine rg ct33_ok ?_
        simp only [go_sem, Nat.reduceLeDiff, Nat.reduceLT, Nat.reduceAdd, Nat.reduceMul, Nat.reduceSub, Nat.reduceEqDiff, Nat.reduceBEq, Int.reduceToNat, reduceCtorEq, ct33_20, body20]
        refine ⟨_, (Option.some.inj H).symm, ?_⟩
        refine SubF_of ⟨[some 0], ?_, ?_, by rfl, by rfl⟩
        · simp [CvL, Cv, getM]
        · exact ⟨CvB_dead, trivial⟩
      replace H := cond_t hc H
      refine rg ct33_ok ?_
      simp only [go_sem, Nat.reduceLeDiff, Nat.reduceLT, Nat.reduceAdd, Nat.reduceMul, Nat.reduceSub, Nat.reduceEqDiff, Nat.reduceBEq, Int.reduceToNat, reduceCtorEq, ct33_20, body20]
      refine seqM ?_
      refine blkM ?_
      refine seqM ?_
      obtain ⟨f6, H⟩ := need_some.1 H
      replace f6 := inb_iff.1 f6
      obtain ⟨r7, e8, H⟩ := Option.bind_eq_some_iff.1 H
      obtain ⟨f9, H⟩ := need_some.1 H
      replace f9 := g_iff.1 f9
      replace f9 := fun g => inb_iff.1 (f9 g)
      obtain ⟨f10, H⟩ := need_some.1 H
      replace f10 := g_iff.1 f10
      replace f10 := fun g => inb_iff.1 (f10 g)
      refine draw_quiet shT_ok ct33_ok (by kernel_rfl) (by kernel_rfl) ?_
      simp only [go_sem, Nat.reduceLeDiff, Nat.reduceLT, Nat.reduceAdd, Nat.reduceMul, Nat.reduceSub, Nat.reduceEqDiff, Nat.reduceBEq, Int.reduceToNat, reduceCtorEq, ct33_20, body20, f6, e8]
      repeat ((with_reducible refine And.intro ?_ ?_); focus (first | (with_reducible trivial) | omega | (intro g; have q := f9 g; first | exact q | exact ⟨q.1, q.2.1⟩ | exact q.2.2 | omega) | (intro g; have q := f10 g; first | exact q | exact ⟨q.1, q.2.1⟩ | exact q.2.2 | omega) | grind))
      refine condM rfl trivial (fun hc => ?_) (fun hc => ?_)
      · replace H := cond_t hc H
        refine sq ct33_ok ?_
        simp only [go_sem, Nat.reduceLeDiff, Nat.reduceLT, Nat.reduceAdd, Nat.reduceMul, Nat.reduceSub, Nat.reduceEqDiff, Nat.reduceBEq, Int.reduceToNat, reduceCtorEq, ct33_20, body20]
        refine rg ct33_ok ?_
        simp only [go_sem, Nat.reduceLeDiff, Nat.reduceLT, Nat.reduceAdd, Nat.reduceMul, Nat.reduceSub, Nat.reduceEqDiff, Nat.reduceBEq, Int.reduceToNat, reduceCtorEq, ct33_20, body20]
        have H := hn2_1 _ (Option.some.inj H).symm
        obtain rfl := Option.some.inj H
        rfl
      replace H := cond_f hc H
      refine rg ct33_ok ?_
      simp only [go_sem, Nat.reduceLeDiff, Nat.reduceLT, Nat.reduceAdd, Nat.reduceMul, Nat.reduceSub, Nat.reduceEqDiff, Nat.reduceBEq, Int.reduceToNat, reduceCtorEq, ct33_20, body20]
      refine rg ct33_ok ?_
      simp only [go_sem, Nat.reduceLeDiff, Nat.reduceLT, Nat.reduceAdd, Nat.reduceMul, Nat.reduceSub, Nat.reduceEqDiff, Nat.reduceBEq, Int.reduceToNat, reduceCtorEq, ct33_20, body20]
      refine ⟨_, (Option.some.inj H).symm, ?_⟩
      refine SubF_of ⟨[some 0], ?_, ?_, by rfl, by rfl⟩
      · simp [CvL, Cv, getM]
      · exact ⟨(by simp [CvB, CvL, Cv, blkAt, geth, getM]), trivial⟩
    · try dsimp only at H ⊢
      try simp only [m_normal, k_normal, b_normal, kL_normal, r_normal]
      refine sq ct33_ok ?_
      simp only [go_sem, Nat.reduceLeDiff, Nat.reduceLT, Nat.reduceAdd, Nat.reduceMul, Nat.reduceSub, Nat.reduceEqDiff, Nat.reduceBEq, Int.reduceToNat, reduceCtorEq, ct33_20, body20]
      refine rg ct33_ok ?_
      simp only [go_sem, Nat.reduceLeDiff, Nat.reduceLT, Nat.reduceAdd, Nat.reduceMul, Nat.reduceSub, Nat.reduceEqDiff, Nat.reduceBEq, Int.reduceToNat, reduceCtorEq, ct33_20, body20]
      obtain rfl := Option.some.inj H
      rfl
  · cases hb
/-! hotspot/hotspotref36.held -/
noncomputable def ct46 : Ct := tab []
theorem ct46_ok : CtOk Try.prog ct46 := tab_nil
noncomputable def F46 (p0 : TWakeRule) (p1 : Int) : Option (Bool) :=
  bif (bLt p1 p0.Start) then (some false) else (bif (bLt 0 p0.Every) then (need (!(bEq p0.Every 0)) <| some (bLt ((wr .i64 (p1 - p0.Start)).tmod p0.Every) p0.Length)) else (some (bLt (wr .i64 (p1 - p0.Start)) p0.Length)))
noncomputable def body46 : List AV → AR
  | [v0, v1] => .pure (aK 5 k_TWakeRule v0 ∧ iK .i64 v1 ∧ (F46 (g_TWakeRule (aL v0)) (iA v1)).isSome = true) (.bool (gt (F46 (g_TWakeRule (aL v0)) (iA v1))))
  | _ => .fail
set_option maxHeartbeats 4000000 in
set_option maxRecDepth 20000 in
theorem ok46 : FnOk Try.prog 46 (pureC body46) := by
  refine pure_fnM body46 (rs := [.tmp 4]) Try.func46 (by kernel_rfl) rfl rfl ?_
  intro l ob v hb hob
  unfold body46 at hb
  split at hb
  · rename_i v0 v1
    injection hb with q1 q2; subst q1 q2
    obtain ⟨hk0, hk1, hob⟩ := hob
    obtain ⟨r, H⟩ := Option.isSome_iff_exists.1 hob
    rw [H, gt_some]
    have hw0 := wA_TWakeRule hk0
    have hw1 := iK_wk hk1
    generalize g_TWakeRule (aL v0) = p0 at H hw0
    generalize iA v1 = p1 at H hw1
    refine ⟨[.agg [.int .i64 p0.Id, .int .i64 p0.Start, .int .i64 p0.Every, .int .i64 p0.Length, .int .i64 p0.Group], .int .i64 p1], _, (fun E vs F => FR_wk1 hw0.1 F (fun vs F => FR_wk1 hw1.1 F (fun vs F => F))), rfl, rfl, ?_⟩
    rw [Try.ntmps46]
    simp only [List.length_cons, List.length_nil, Nat.reduceAdd, Nat.reduceSub, List.replicate_succ, List.replicate_zero, List.cons_append, List.nil_append]
    unfold F46 at H
    try dsimp only at H
    refine sq ct46_ok ?_
    simp only [go_sem, Nat.reduceLeDiff, Nat.reduceLT, Nat.reduceAdd, Nat.reduceMul, Nat.reduceSub, Nat.reduceEqDiff, Nat.reduceBEq, Int.reduceToNat, reduceCtorEq]
    refine seqM ?_
    refine sq ct46_ok ?_
    simp only [go_sem, Nat.reduceLeDiff, Nat.reduceLT, Nat.reduceAdd, Nat.reduceMul, Nat.reduceSub, Nat.reduceEqDiff, Nat.reduceBEq, Int.reduceToNat, reduceCtorEq]
    refine condM rfl trivial (fun hc => ?_) (fun hc => ?_)
    · replace H := cond_t hc H
      refine sq ct46_ok ?_
      simp only [go_sem, Nat.reduceLeDiff, Nat.reduceLT, Nat.reduceAdd, Nat.reduceMul, Nat.reduceSub, Nat.reduceEqDiff, Nat.reduceBEq, Int.reduceToNat, reduceCtorEq]
      refine rg ct46_ok ?_
      simp only [go_sem, Nat.reduceLeDiff, Nat.reduceLT, Nat.reduceAdd, Nat.reduceMul, Nat.reduceSub, Nat.reduceEqDiff, Nat.reduceBEq, Int.reduceToNat, reduceCtorEq]
      obtain rfl := Option.some.inj H
      rfl
    replace H := cond_f hc H
    refine rg ct46_ok ?_
    simp only [go_sem, Nat.reduceLeDiff, Nat.reduceLT, Nat.reduceAdd, Nat.reduceMul, Nat.reduceSub, Nat.reduceEqDiff, Nat.reduceBEq, Int.reduceToNat, reduceCtorEq]
    refine sq ct46_ok ?_
    simp only [go_sem, Nat.reduceLeDiff, Nat.reduceLT, Nat.reduceAdd, Nat.reduceMul, Nat.reduceSub, Nat.reduceEqDiff, Nat.reduceBEq, Int.reduceToNat, reduceCtorEq]
    refine seqM ?_
    refine sq ct46_ok ?_
    simp only [go_sem, Nat.reduceLeDiff, Nat.reduceLT, Nat.reduceAdd, Nat.reduceMul, Nat.reduceSub, Nat.reduceEqDiff, Nat.reduceBEq, Int.reduceToNat, reduceCtorEq]
    refine condM' rfl trivial (fun hc => ?_) (fun hc => ?_)
    · replace H := cond_f hc H
      refine rg ct46_ok ?_
      simp only [go_sem, Nat.reduceLeDiff, Nat.reduceLT, Nat.reduceAdd, Nat.reduceMul, Nat.reduceSub, Nat.reduceEqDiff, Nat.reduceBEq, Int.reduceToNat, reduceCtorEq]
      refine sq ct46_ok ?_
      simp only [go_sem, Nat.reduceLeDiff, Nat.reduceLT, Nat.reduceAdd, Nat.reduceMul, Nat.reduceSub, Nat.reduceEqDiff, Nat.reduceBEq, Int.reduceToNat, reduceCtorEq]
      refine rg ct46_ok ?_
      simp only [go_sem, Nat.reduceLeDiff, Nat.reduceLT, Nat.reduceAdd, Nat.reduceMul, Nat.reduceSub, Nat.reduceEqDiff, Nat.reduceBEq, Int.reduceToNat, reduceCtorEq]
      obtain rfl := Option.some.inj H
      rfl
    replace H := cond_t hc H
    obtain ⟨f1, H⟩ := need_some.1 H
    replace f1 := ne0_iff.1 f1
    refine rg ct46_ok ?_
    simp only [go_sem, Nat.reduceLeDiff, Nat.reduceLT, Nat.reduceAdd, Nat.reduceMul, Nat.reduceSub, Nat.reduceEqDiff, Nat.reduceBEq, Int.reduceToNat, reduceCtorEq, f1]
    repeat ((with_reducible refine And.intro ?_ ?_); focus (first | (with_reducible trivial) | omega | grind))
    refine sq ct46_ok ?_
    simp only [go_sem, Nat.reduceLeDiff, Nat.reduceLT, Nat.reduceAdd, Nat.reduceMul, Nat.reduceSub, Nat.reduceEqDiff, Nat.reduceBEq, Int.reduceToNat, reduceCtorEq]
    refine rg ct46_ok ?_
    simp only [go_sem, Nat.reduceLeDiff, Nat.reduceLT, Nat.reduceAdd, Nat.reduceMul, Nat.reduceSub, Nat.reduceEqDiff, Nat.reduceBEq, Int.reduceToNat, reduceCtorEq]
    obtain rfl := Option.some.inj H
    rfl
  · cases hb
/-! hotspot/hotspotref36.inside -/
noncomputable def ct35 : Ct := tab [(46, pureC body46)]
theorem ct35_ok : CtOk Try.prog ct35 := tab_cons ok46 <| tab_nil
theorem ct35_46 (l : List AV) (h : List ABlk) : ct35 46 l h = pureC body46 l h := rfl
noncomputable def F35_L1 (p0 : TWakeRule) (p1 : TWakeRule) (v1_1 : Int) (v1_2 : Int) : Option (Lp (Int × Int) ((Unit) ⊕ (Bool))) :=
  bif (bLt v1_2 (wr .i64 ((wr .i64 ((wr .i64 ((maxI (wr .i64 ((wr .i64 (p1.Start + p1.Length)) - p0.Start)) 0).tdiv p0.Every)) + 2)) + p1.Every))) then ((F46 p1 v1_1).bind fun r3 => bif r3 then (some (.done (.inr true))) else (some (.next (wr .i64 (v1_1 + p0.Every), wr .i64 (v1_2 + 1))))) else (some (.done (.inl ())))
noncomputable def F35 (p0 : TWakeRule) (p1 : TWakeRule) : Option (Bool) :=
  bif (bLt 0 p0.Every) then (need (!(bEq p0.Every 0)) <| lp (loopD (fun s => F35_L1 p0 p1 s.1 s.2) (p0.Start, 0)) (fun e => some false) some) else ((F46 p1 p0.Start).bind fun r6 => bif r6 then (some true) else (some false))
noncomputable def body35 : List AV → AR
  | [v0, v1] => .pure (aK 5 k_TWakeRule v0 ∧ aK 5 k_TWakeRule v1 ∧ (F35 (g_TWakeRule (aL v0)) (g_TWakeRule (aL v1))).isSome = true) (.bool (gt (F35 (g_TWakeRule (aL v0)) (g_TWakeRule (aL v1)))))
  | _ => .fail
set_option maxHeartbeats 4000000 in
set_option maxRecDepth 20000 in
theorem ok35 : FnOk Try.prog 35 (pureC body35) := by
  refine pure_fnM body35 (rs := [.tmp 4]) Try.func35 (by kernel_rfl) rfl rfl ?_
  intro l ob v hb hob
  unfold body35 at hb
  split at hb
  · rename_i v0 v1
    injection hb with q1 q2; subst q1 q2
    obtain ⟨hk0, hk1, hob⟩ := hob
    obtain ⟨r, H⟩ := Option.isSome_iff_exists.1 hob
    rw [H, gt_some]
    have hw0 := wA_TWakeRule hk0
    have hw1 := wA_TWakeRule hk1
    generalize g_TWakeRule (aL v0) = p0 at H hw0
    generalize g_TWakeRule (aL v1) = p1 at H hw1
    refine ⟨[.agg [.int .i64 p0.Id, .int .i64 p0.Start, .int .i64 p0.Every, .int .i64 p0.Length, .int .i64 p0.Group], .agg [.int .i64 p1.Id, .int .i64 p1.Start, .int .i64 p1.Every, .int .i64 p1.Length, .int .i64 p1.Group]], _, (fun E vs F => FR_wk1 hw0.1 F (fun vs F => FR_wk1 hw1.1 F (fun vs F => F))), rfl, rfl, ?_⟩
    rw [Try.ntmps35]
    simp only [List.length_cons, List.length_nil, Nat.reduceAdd, Nat.reduceSub, List.replicate_succ, List.replicate_zero, List.cons_append, List.nil_append]
    unfold F35 at H
    try dsimp only at H
    refine sq ct35_ok ?_
    simp only [go_sem, Nat.reduceLeDiff, Nat.reduceLT, Nat.reduceAdd, Nat.reduceMul, Nat.reduceSub, Nat.reduceEqDiff, Nat.reduceBEq, Int.reduceToNat, reduceCtorEq, ct35_46, body46]
    refine sq ct35_ok ?_
    simp only [go_sem, Nat.reduceLeDiff, Nat.reduceLT, Nat.reduceAdd, Nat.reduceMul, Nat.reduceSub, Nat.reduceEqDiff, Nat.reduceBEq, Int.reduceToNat, reduceCtorEq, ct35_46, body46]
    refine seqM ?_
    refine sq ct35_ok ?_
    simp only [go_sem, Nat.reduceLeDiff, Nat.reduceLT, Nat.reduceAdd, Nat.reduceMul, Nat.reduceSub, Nat.reduceEqDiff, Nat.reduceBEq, Int.reduceToNat, reduceCtorEq, ct35_46, body46]
    refine condM' rfl trivial (fun hc => ?_) (fun hc => ?_)
    · replace H := cond_f hc H
      refine rg ct35_ok ?_
      simp only [go_sem, Nat.reduceLeDiff, Nat.reduceLT, Nat.reduceAdd, Nat.reduceMul, Nat.reduceSub, Nat.reduceEqDiff, Nat.reduceBEq, Int.reduceToNat, reduceCtorEq, ct35_46, body46]
      refine sq ct35_ok ?_
      simp only [go_sem, Nat.reduceLeDiff, Nat.reduceLT, Nat.reduceAdd, Nat.reduceMul, Nat.reduceSub, Nat.reduceEqDiff, Nat.reduceBEq, Int.reduceToNat, reduceCtorEq, ct35_46, body46]
      refine seqM ?_
      refine sq ct35_ok ?_
      simp only [go_sem, Nat.reduceLeDiff, Nat.reduceLT, Nat.reduceAdd, Nat.reduceMul, Nat.reduceSub, Nat.reduceEqDiff, Nat.reduceBEq, Int.reduceToNat, reduceCtorEq, ct35_46, body46]
      refine blkM ?_
      refine loop_roundsM 2 ?_
      refine rndM ?_
      refine seqM ?_
      refine sq ct35_ok ?_
      simp only [go_sem, Nat.reduceLeDiff, Nat.reduceLT, Nat.reduceAdd, Nat.reduceMul, Nat.reduceSub, Nat.reduceEqDiff, Nat.reduceBEq, Int.reduceToNat, reduceCtorEq, ct35_46, body46, (by decide : bLt (0) (1) = true)]
      refine condM rfl trivial (fun hc => ?_) (fun hc => ?_)
      rotate_left
      · cases hc
      refine rg ct35_ok ?_
      simp only [go_sem, Nat.reduceLeDiff, Nat.reduceLT, Nat.reduceAdd, Nat.reduceMul, Nat.reduceSub, Nat.reduceEqDiff, Nat.reduceBEq, Int.reduceToNat, reduceCtorEq, ct35_46, body46]
      refine seqM ?_
      refine blkM ?_
      refine seqM ?_
      refine seqM ?_
      obtain ⟨r6, e7, H⟩ := Option.bind_eq_some_iff.1 H
      refine rg ct35_ok ?_
      simp only [go_sem, Nat.reduceLeDiff, Nat.reduceLT, Nat.reduceAdd, Nat.reduceMul, Nat.reduceSub, Nat.reduceEqDiff, Nat.reduceBEq, Int.reduceToNat, reduceCtorEq, ct35_46, body46, e7]
      repeat ((with_reducible refine And.intro ?_ ?_); focus (first | (with_reducible trivial) | omega | grind))
      refine condM rfl trivial (fun hc => ?_) (fun hc => ?_)
      · replace H := cond_t hc H
        refine sq ct35_ok ?_
        simp only [go_sem, Nat.reduceLeDiff, Nat.reduceLT, Nat.reduceAdd, Nat.reduceMul, Nat.reduceSub, Nat.reduceEqDiff, Nat.reduceBEq, Int.reduceToNat, reduceCtorEq, ct35_46, body46]
        refine rg ct35_ok ?_
        simp only [go_sem, Nat.reduceLeDiff, Nat.reduceLT, Nat.reduceAdd, Nat.reduceMul, Nat.reduceSub, Nat.reduceEqDiff, Nat.reduceBEq, Int.reduceToNat, reduceCtorEq, ct35_46, body46]
        obtain rfl := Option.some.inj H
        rfl
      replace H := cond_f hc H
      refine rg ct35_ok ?_
      simp only [go_sem, Nat.reduceLeDiff, Nat.reduceLT, Nat.reduceAdd, Nat.reduceMul, Nat.reduceSub, Nat.reduceEqDiff, Nat.reduceBEq, Int.reduceToNat, reduceCtorEq, ct35_46, body46]
      refine rg ct35_ok ?_
      simp only [go_sem, Nat.reduceLeDiff, Nat.reduceLT, Nat.reduceAdd, Nat.reduceMul, Nat.reduceSub, Nat.reduceEqDiff, Nat.reduceBEq, Int.reduceToNat, reduceCtorEq, ct35_46, body46]
      refine rg ct35_ok ?_
      simp only [go_sem, Nat.reduceLeDiff, Nat.reduceLT, Nat.reduceAdd, Nat.reduceMul, Nat.reduceSub, Nat.reduceEqDiff, Nat.reduceBEq, Int.reduceToNat, reduceCtorEq, ct35_46, body46, (by decide : wr IntKind.i64 ((0 : Int) + 1) = 1)]
      refine rndM ?_
      refine seqM ?_
      refine sq ct35_ok ?_
      simp only [go_sem, Nat.reduceLeDiff, Nat.reduceLT, Nat.reduceAdd, Nat.reduceMul, Nat.reduceSub, Nat.reduceEqDiff, Nat.reduceBEq, Int.reduceToNat, reduceCtorEq, ct35_46, body46, (by decide : bLt (1) (1) = false)]
      refine condM rfl trivial (fun hc => ?_) (fun hc => ?_)
      · cases hc
      refine rg ct35_ok ?_
      simp only [go_sem, Nat.reduceLeDiff, Nat.reduceLT, Nat.reduceAdd, Nat.reduceMul, Nat.reduceSub, Nat.reduceEqDiff, Nat.reduceBEq, Int.reduceToNat, reduceCtorEq, ct35_46, body46]
      refine sq ct35_ok ?_
      simp only [go_sem, Nat.reduceLeDiff, Nat.reduceLT, Nat.reduceAdd, Nat.reduceMul, Nat.reduceSub, Nat.reduceEqDiff, Nat.reduceBEq, Int.reduceToNat, reduceCtorEq, ct35_46, body46]
      refine rg ct35_ok ?_
      simp only [go_sem, Nat.reduceLeDiff, Nat.reduceLT, Nat.reduceAdd, Nat.reduceMul, Nat.reduceSub, Nat.reduceEqDiff, Nat.reduceBEq, Int.reduceToNat, reduceCtorEq, ct35_46, body46]
      obtain rfl := Option.some.inj H
      rfl
    replace H := cond_t hc H
    obtain ⟨f2, H⟩ := need_some.1 H
    replace f2 := ne0_iff.1 f2
    refine draw_quiet shT_ok ct35_ok (by kernel_rfl) (by kernel_rfl) ?_
    simp only [go_sem, Nat.reduceLeDiff, Nat.reduceLT, Nat.reduceAdd, Nat.reduceMul, Nat.reduceSub, Nat.reduceEqDiff, Nat.reduceBEq, Int.reduceToNat, reduceCtorEq, ct35_46, body46, f2]
    repeat ((with_reducible refine And.intro ?_ ?_); focus (first | (with_reducible trivial) | omega | grind))
    refine sq ct35_ok ?_
    simp only [go_sem, Nat.reduceLeDiff, Nat.reduceLT, Nat.reduceAdd, Nat.reduceMul, Nat.reduceSub, Nat.reduceEqDiff, Nat.reduceBEq, Int.reduceToNat, reduceCtorEq, ct35_46, body46]
    refine seqM ?_
    refine sq ct35_ok ?_
    simp only [go_sem, Nat.reduceLeDiff, Nat.reduceLT, Nat.reduceAdd, Nat.reduceMul, Nat.reduceSub, Nat.reduceEqDiff, Nat.reduceBEq, Int.reduceToNat, reduceCtorEq, ct35_46, body46]
    refine blkM ?_
    refine loop_den (fun s : Int × Int => [.top, .top, .ptr 0 0 0 0, .ptr 1 0 0 0, .top, .int .i64 (wr .i64 ((wr .i64 ((wr .i64 ((maxI (wr .i64 ((wr .i64 (p1.Start + p1.Length)) - p0.Start)) 0).tdiv p0.Every)) + 2)) + p1.Every)), .int .i64 s.1, .int .i64 s.2, .top, .top, .top, .top, .top, .top, .top, .top, .top, .top, .top, .top, .top, .top, .top, .top, .top, .top, .top, .top, .top, .top, .top, .top, .top, .top, .top, .top, .top, .top, .top, .top, .top]) (fun s => [.lit 23 [.int .i64 p0.Id, .int .i64 p0.Start, .int .i64 p0.Every, .int .i64 p0.Length, .int .i64 p0.Group], .lit 23 [.int .i64 p1.Id, .int .i64 p1.Start, .int .i64 p1.Every, .int .i64 p1.Length, .int .i64 p1.Group]]) (fun e : Unit => [.top, .top, .top, .top, .top, .top, .top, .top, .top, .top, .top, .top, .top, .top, .top, .top, .top, .top, .top, .top, .top, .top, .top, .top, .top, .top, .top, .top, .top, .top, .top, .top, .top, .top, .top, .top, .top, .top, .top, .top, .top]) (fun e => [.dead, .dead]) H ?_ (fun s o H hn1_1 hn2_1 => ?_) (fun e H => ?_)
    · refine SubF_of ⟨[some 0, some 1], ?_, ?_, by rfl, by rfl⟩
      · simp [CvL, Cv, getM]
      · exact ⟨(by simp [CvB, CvL, Cv, blkAt, geth, getM]), (by simp [CvB, CvL, Cv, blkAt, geth, getM]), trivial⟩
    · obtain ⟨v1_1, v1_2⟩ := s
      unfold F35_L1 at H
      try dsimp only at H ⊢
      refine seqM ?_
      refine sq ct35_ok ?_
      simp only [go_sem, Nat.reduceLeDiff, Nat.reduceLT, Nat.reduceAdd, Nat.reduceMul, Nat.reduceSub, Nat.reduceEqDiff, Nat.reduceBEq, Int.reduceToNat, reduceCtorEq, ct35_46, body46]
      refine condM' rfl trivial (fun hc => ?_) (fun hc => ?_)
      · replace H := cond_f hc H
        refine rg ct35_ok ?_
        simp only [go_sem, Nat.reduceLeDiff, Nat.reduceLT, Nat.reduceAdd, Nat.reduceMul, Nat.reduceSub, Nat.reduceEqDiff, Nat.reduceBEq, Int.reduceToNat, reduceCtorEq, ct35_46, body46]
        refine ⟨_, (Option.some.inj H).symm, ?_⟩
        refine SubF_of ⟨[some 0, some 1], ?_, ?_, by rfl, by rfl⟩
        · simp [CvL, Cv, getM]
        · exact ⟨CvB_dead, CvB_dead, trivial⟩
      replace H := cond_t hc H
      refine rg ct35_ok ?_
      simp only [go_sem, Nat.reduceLeDiff, Nat.reduceLT, Nat.reduceAdd, Nat.reduceMul, Nat.reduceSub, Nat.reduceEqDiff, Nat.reduceBEq, Int.reduceToNat, reduceCtorEq, ct35_46, body46]
      refine seqM ?_
      refine blkM ?_
      refine seqM ?_
      refine seqM ?_
      obtain ⟨r3, e4, H⟩ := Option.bind_eq_some_iff.1 H
      refine rg ct35_ok ?_
      simp only [go_sem, Nat.reduceLeDiff, Nat.reduceLT, Nat.reduceAdd, Nat.reduceMul, Nat.reduceSub, Nat.reduceEqDiff, Nat.reduceBEq, Int.reduceToNat, reduceCtorEq, ct35_46, body46, e4]
      repeat ((with_reducible refine And.intro ?_ ?_); focus (first | (with_reducible trivial) | omega | grind))
      refine condM rfl trivial (fun hc => ?_) (fun hc => ?_)
      · replace H := cond_t hc H
        refine sq ct35_ok ?_
        simp only [go_sem, Nat.reduceLeDiff, Nat.reduceLT, Nat.reduceAdd, Nat.reduceMul, Nat.reduceSub, Nat.reduceEqDiff, Nat.reduceBEq, Int.reduceToNat, reduceCtorEq, ct35_46, body46]
        refine rg ct35_ok ?_
        simp only [go_sem, Nat.reduceLeDiff, Nat.reduceLT, Nat.reduceAdd, Nat.reduceMul, Nat.reduceSub, Nat.reduceEqDiff, Nat.reduceBEq, Int.reduceToNat, reduceCtorEq, ct35_46, body46]
        have H := hn2_1 _ (Option.some.inj H).symm
        obtain rfl := Option.some.inj H
        rfl
      replace H := cond_f hc H
      refine rg ct35_ok ?_
      simp only [go_sem, Nat.reduceLeDiff, Nat.reduceLT, Nat.reduceAdd, Nat.reduceMul, Nat.reduceSub, Nat.reduceEqDiff, Nat.reduceBEq, Int.reduceToNat, reduceCtorEq, ct35_46, body46]
      refine rg ct35_ok ?_
      simp only [go_sem, Nat.reduceLeDiff, Nat.reduceLT, Nat.reduceAdd, Nat.reduceMul, Nat.reduceSub, Nat.reduceEqDiff, Nat.reduceBEq, Int.reduceToNat, reduceCtorEq, ct35_46, body46]
      refine rg ct35_ok ?_
      simp only [go_sem, Nat.reduceLeDiff, Nat.reduceLT, Nat.reduceAdd, Nat.reduceMul, Nat.reduceSub, Nat.reduceEqDiff, Nat.reduceBEq, Int.reduceToNat, reduceCtorEq, ct35_46, body46]
      refine ⟨_, (Option.some.inj H).symm, ?_⟩
      refine SubF_of ⟨[some 0, some 1], ?_, ?_, by rfl, by rfl⟩
      · simp [CvL, Cv, getM]
      · exact ⟨(by simp [CvB, CvL, Cv, blkAt, geth, getM]), (by simp [CvB, CvL, Cv, blkAt, geth, getM]), trivial⟩
    · try dsimp only at H ⊢
      try simp only [m_normal, k_normal, b_normal, kL_normal, r_normal]
      refine sq ct35_ok ?_
      simp only [go_sem, Nat.reduceLeDiff, Nat.reduceLT, Nat.reduceAdd, Nat.reduceMul, Nat.reduceSub, Nat.reduceEqDiff, Nat.reduceBEq, Int.reduceToNat, reduceCtorEq, ct35_46, body46]
      refine rg ct35_ok ?_
      simp only [go_sem, Nat.reduceLeDiff, Nat.reduceLT, Nat.reduceAdd, Nat.reduceMul, Nat.reduceSub, Nat.reduceEqDiff, Nat.reduceBEq, Int.reduceToNat, reduceCtorEq, ct35_46, body46]
      obtain rfl := Option.some.inj H
      rfl
  · cases hb
/-! hotspot/hotspotref36.Overlap -/
noncomputable def ct21 : Ct := tab [(35, pureC body35)]
theorem ct21_ok : CtOk Try.prog ct21 := tab_cons ok35 <| tab_nil
theorem ct21_35 (l : List AV) (h : List ABlk) : ct21 35 l h = pureC body35 l h := rfl
noncomputable def F21 (p0 : TWakeRule) (p1 : TWakeRule) : Option (Bool) :=
  (F35 p0 p1).bind fun r1 => need (bif (!r1) then ((F35 p1 p0).isSome) else true) <| some (r1 || (gt (F35 p1 p0)))
noncomputable def body21 : List AV → AR
  | [v0, v1] => .pure (aK 5 k_TWakeRule v0 ∧ aK 5 k_TWakeRule v1 ∧ (F21 (g_TWakeRule (aL v0)) (g_TWakeRule (aL v1))).isSome = true) (.bool (gt (F21 (g_TWakeRule (aL v0)) (g_TWakeRule (aL v1)))))
  | _ => .fail
set_option maxHeartbeats 4000000 in
set_option maxRecDepth 20000 in
theorem ok21 : FnOk Try.prog 21 (pureC body21) := by
  refine pure_fnM body21 (rs := [.tmp 4]) Try.func21 (by kernel_rfl) rfl rfl ?_
  intro l ob v hb hob
  unfold body21 at hb
  split at hb
  · rename_i v0 v1
    injection hb with q1 q2; subst q1 q2
    obtain ⟨hk0, hk1, hob⟩ := hob
    obtain ⟨r, H⟩ := Option.isSome_iff_exists.1 hob
    rw [H, gt_some]
    have hw0 := wA_TWakeRule hk0
    have hw1 := wA_TWakeRule hk1
    generalize g_TWakeRule (aL v0) = p0 at H hw0
    generalize g_TWakeRule (aL v1) = p1 at H hw1
    refine ⟨[.agg [.int .i64 p0.Id, .int .i64 p0.Start, .int .i64 p0.Every, .int .i64 p0.Length, .int .i64 p0.Group], .agg [.int .i64 p1.Id, .int .i64 p1.Start, .int .i64 p1.Every, .int .i64 p1.Length, .int .i64 p1.Group]], _, (fun E vs F => FR_wk1 hw0.1 F (fun vs F => FR_wk1 hw1.1 F (fun vs F => F))), rfl, rfl, ?_⟩
    rw [Try.ntmps21]
    simp only [List.length_cons, List.length_nil, Nat.reduceAdd, Nat.reduceSub, List.replicate_succ, List.replicate_zero, List.cons_append, List.nil_append]
    unfold F21 at H
    try dsimp only at H
    refine sq ct21_ok ?_
    simp only [go_sem, Nat.reduceLeDiff, Nat.reduceLT, Nat.reduceAdd, Nat.reduceMul, Nat.reduceSub, Nat.reduceEqDiff, Nat.reduceBEq, Int.reduceToNat, reduceCtorEq, ct21_35, body35]
    refine seqM ?_
    obtain ⟨r1, e2, H⟩ := Option.bind_eq_some_iff.1 H
    obtain ⟨f3, H⟩ := need_some.1 H
    replace f3 := g_iff.1 f3
    refine rg ct21_ok ?_
    simp only [go_sem, Nat.reduceLeDiff, Nat.reduceLT, Nat.reduceAdd, Nat.reduceMul, Nat.reduceSub, Nat.reduceEqDiff, Nat.reduceBEq, Int.reduceToNat, reduceCtorEq, ct21_35, body35, e2]
    repeat ((with_reducible refine And.intro ?_ ?_); focus (first | (with_reducible trivial) | omega | (intro g; have q := f3 g; first | exact q | exact ⟨q.1, q.2.1⟩ | exact q.2.2 | omega) | grind))
    refine rg ct21_ok ?_
    simp only [go_sem, Nat.reduceLeDiff, Nat.reduceLT, Nat.reduceAdd, Nat.reduceMul, Nat.reduceSub, Nat.reduceEqDiff, Nat.reduceBEq, Int.reduceToNat, reduceCtorEq, ct21_35, body35]
    obtain rfl := Option.some.inj H
    rfl
  · cases hb
/-! hotspot/hotspotref36.Compatible -/
noncomputable def ct38 : Ct := tab [(21, pureC body21)]
theorem ct38_ok : CtOk Try.prog ct38 := tab_cons ok21 <| tab_nil
theorem ct38_21 (l : List AV) (h : List ABlk) : ct38 21 l h = pureC body21 l h := rfl
noncomputable def F38_L1 (p0 : TWakeTable) (p1 : TWakeRule) (v1_1 : Int) : Option (Lp (Int) ((Unit) ⊕ (Bool))) :=
  bif (bLt v1_1 (p0.List.length : Nat)) then (need (inb v1_1 p0.List.length) <| need (bif ((!bEq ((gd p0.List v1_1.toNat).Id) p1.Id) && ((bEq ((gd p0.List v1_1.toNat).Group) 0) || (!bEq ((gd p0.List v1_1.toNat).Group) p1.Group))) then ((F21 (gd p0.List v1_1.toNat) p1).isSome) else true) <| bif (((!bEq ((gd p0.List v1_1.toNat).Id) p1.Id) && ((bEq ((gd p0.List v1_1.toNat).Group) 0) || (!bEq ((gd p0.List v1_1.toNat).Group) p1.Group))) && (gt (F21 (gd p0.List v1_1.toNat) p1))) then (some (.done (.inr false))) else (some (.next (wr .i64 (v1_1 + 1))))) else (some (.done (.inl ())))
noncomputable def F38 (p0 : TWakeTable) (p1 : TWakeRule) : Option (Bool) :=
  lp (loopD (fun s => F38_L1 p0 p1 s) 0) (fun e => some true) some
noncomputable def body38 : List AV → AR
  | [v0, v1] => .pure (aK 1 k_TWakeTable v0 ∧ aK 5 k_TWakeRule v1 ∧ (F38 (g_TWakeTable (aL v0)) (g_TWakeRule (aL v1))).isSome = true) (.bool (gt (F38 (g_TWakeTable (aL v0)) (g_TWakeRule (aL v1)))))
  | _ => .fail
set_option maxHeartbeats 4000000 in
set_option maxRecDepth 20000 in
theorem ok38 : FnOk Try.prog 38 (pureC body38) := by
  refine pure_fnM body38 (rs := [.tmp 4]) Try.func38 (by kernel_rfl) rfl rfl ?_
  intro l ob v hb hob
  unfold body38 at hb
  split at hb
  · rename_i v0 v1
    injection hb with q1 q2; subst q1 q2
    obtain ⟨hk0, hk1, hob⟩ := hob
    obtain ⟨r, H⟩ := Option.isSome_iff_exists.1 hob
    rw [H, gt_some]
    have hw0 := wA_TWakeTable hk0
    have hw1 := wA_TWakeRule hk1
    generalize g_TWakeTable (aL v0) = p0 at H hw0
    generalize g_TWakeRule (aL v1) = p1 at H hw1
    refine ⟨[.agg [.ro 5 p0.List.length false (enR c_TWakeRule p0.List)], .agg [.int .i64 p1.Id, .int .i64 p1.Start, .int .i64 p1.Every, .int .i64 p1.Length, .int .i64 p1.Group]], _, (fun E vs F => FR_wk1 hw0.1 F (fun vs F => FR_wk1 hw1.1 F (fun vs F => F))), rfl, rfl, ?_⟩
    rw [Try.ntmps38]
    simp only [List.length_cons, List.length_nil, Nat.reduceAdd, Nat.reduceSub, List.replicate_succ, List.replicate_zero, List.cons_append, List.nil_append]
    unfold F38 at H
    try dsimp only at H
    refine sq ct38_ok ?_
    simp only [go_sem, Nat.reduceLeDiff, Nat.reduceLT, Nat.reduceAdd, Nat.reduceMul, Nat.reduceSub, Nat.reduceEqDiff, Nat.reduceBEq, Int.reduceToNat, reduceCtorEq, ct38_21, body21]
    refine seqM ?_
    refine sq ct38_ok ?_
    simp only [go_sem, Nat.reduceLeDiff, Nat.reduceLT, Nat.reduceAdd, Nat.reduceMul, Nat.reduceSub, Nat.reduceEqDiff, Nat.reduceBEq, Int.reduceToNat, reduceCtorEq, ct38_21, body21]
    refine blkM ?_
    refine loop_den (fun s : Int => [.top, .top, .ptr 0 0 0 0, .ptr 1 0 0 0, .top, .int .i64 s, .top, .top, .top, .top, .top, .top, .top, .top, .top, .top, .top, .top, .top, .top, .top, .top, .top, .top, .top, .top, .top, .top, .top, .top, .top, .top, .top, .top, .top, .top, .top, .top, .top, .top, .top]) (fun s => [.lit 37 [.ro 5 p0.List.length false (enR c_TWakeRule p0.List)], .lit 23 [.int .i64 p1.Id, .int .i64 p1.Start, .int .i64 p1.Every, .int .i64 p1.Length, .int .i64 p1.Group]]) (fun e : Unit => [.top, .top, .top, .top, .top, .top, .top, .top, .top, .top, .top, .top, .top, .top, .top, .top, .top, .top, .top, .top, .top, .top, .top, .top, .top, .top, .top, .top, .top, .top, .top, .top, .top, .top, .top, .top, .top, .top, .top, .top, .top]) (fun e => [.dead, .dead]) H ?_ (fun v1_1 o H hn1_1 hn2_1 => ?_) (fun e H => ?_)
    · refine SubF_of ⟨[some 0, some 1], ?_, ?_, by rfl, by rfl⟩
      · simp [CvL, Cv, getM]
      · exact ⟨(by simp [CvB, CvL, Cv, blkAt, geth, getM]), (by simp [CvB, CvL, Cv, blkAt, geth, getM]), trivial⟩
    · unfold F38_L1 at H
      try dsimp only at H ⊢
      refine seqM ?_
      refine sq ct38_ok ?_
      simp only [go_sem, Nat.reduceLeDiff, Nat.reduceLT, Nat.reduceAdd, Nat.reduceMul, Nat.reduceSub, Nat.reduceEqDiff, Nat.reduceBEq, Int.reduceToNat, reduceCtorEq, ct38_21, body21]
      repeat ((with_reducible refine And.intro ?_ ?_); focus (first | (with_reducible trivial) | omega | grind))
      refine condM' rfl trivial (fun hc => ?_) (fun hc => ?_)
      · replace H := cond_f hc H
        refine rg ct38_ok ?_
        simp only [go_sem, Nat.reduceLeDiff, Nat.reduceLT, Nat.reduceAdd, Nat.reduceMul, Nat.reduceSub, Nat.reduceEqDiff, Nat.reduceBEq, Int.reduceToNat, reduceCtorEq, ct38_21, body21]
        refine ⟨_, (Option.some.inj H).symm, ?_⟩
        refine SubF_of ⟨[some 0, some 1], ?_, ?_, by rfl, by rfl⟩
        · simp [CvL, Cv, getM]
        · exact ⟨CvB_dead, CvB_dead, trivial⟩
      replace H := cond_t hc H
      refine rg ct38_ok ?_
      simp only [go_sem, Nat.reduceLeDiff, Nat.reduceLT, Nat.reduceAdd, Nat.reduceMul, Nat.reduceSub, Nat.reduceEqDiff, Nat.reduceBEq, Int.reduceToNat, reduceCtorEq, ct38_21, body21]
      refine seqM ?_
      refine blkM ?_
      refine seqM ?_
      obtain ⟨f1, H⟩ := need_some.1 H
      replace f1 := inb_iff.1 f1
      refine rg ct38_ok ?_
      simp only [go_sem, Nat.reduceLeDiff, Nat.reduceLT, Nat.reduceAdd, Nat.reduceMul, Nat.reduceSub, Nat.reduceEqDiff, Nat.reduceBEq, Int.reduceToNat, reduceCtorEq, ct38_21, body21, f1]
      repeat ((with_reducible refine And.intro ?_ ?_); focus (first | (with_reducible trivial) | omega | grind))
      refine seqM ?_
      obtain ⟨f2, H⟩ := need_some.1 H
      replace f2 := g_iff.1 f2
      refine rg ct38_ok ?_
      simp only [go_sem, Nat.reduceLeDiff, Nat.reduceLT, Nat.reduceAdd, Nat.reduceMul, Nat.reduceSub, Nat.reduceEqDiff, Nat.reduceBEq, Int.reduceToNat, reduceCtorEq, ct38_21, body21]
      repeat ((with_reducible refine And.intro ?_ ?_); focus (first | (with_reducible trivial) | omega | (intro g; have q := f2 g; first | exact q | exact ⟨q.1, q.2.1⟩ | exact q.2.2 | omega) | grind))
      refine condM rfl trivial (fun hc => ?_) (fun hc => ?_)
      · replace H := cond_t hc H
        refine sq ct38_ok ?_
        simp only [go_sem, Nat.reduceLeDiff, Nat.reduceLT, Nat.reduceAdd, Nat.reduceMul, Nat.reduceSub, Nat.reduceEqDiff, Nat.reduceBEq, Int.reduceToNat, reduceCtorEq, ct38_21, body21]
        refine rg ct38_ok ?_
        simp only [go_sem, Nat.reduceLeDiff, Nat.reduceLT, Nat.reduceAdd, Nat.reduceMul, Nat.reduceSub, Nat.reduceEqDiff, Nat.reduceBEq, Int.reduceToNat, reduceCtorEq, ct38_21, body21]
        have H := hn2_1 _ (Option.some.inj H).symm
        obtain rfl := Option.some.inj H
        rfl
      replace H := cond_f hc H
      refine rg ct38_ok ?_
      simp only [go_sem, Nat.reduceLeDiff, Nat.reduceLT, Nat.reduceAdd, Nat.reduceMul, Nat.reduceSub, Nat.reduceEqDiff, Nat.reduceBEq, Int.reduceToNat, reduceCtorEq, ct38_21, body21]
      refine rg ct38_ok ?_
      simp only [go_sem, Nat.reduceLeDiff, Nat.reduceLT, Nat.reduceAdd, Nat.reduceMul, Nat.reduceSub, Nat.reduceEqDiff, Nat.reduceBEq, Int.reduceToNat, reduceCtorEq, ct38_21, body21]
      refine ⟨_, (Option.some.inj H).symm, ?_⟩
      refine SubF_of ⟨[some 0, some 1], ?_, ?_, by rfl, by rfl⟩
      · simp [CvL, Cv, getM]
      · exact ⟨(by simp [CvB, CvL, Cv, blkAt, geth, getM]), (by simp [CvB, CvL, Cv, blkAt, geth, getM]), trivial⟩
    · try dsimp only at H ⊢
      try simp only [m_normal, k_normal, b_normal, kL_normal, r_normal]
      refine sq ct38_ok ?_
      simp only [go_sem, Nat.reduceLeDiff, Nat.reduceLT, Nat.reduceAdd, Nat.reduceMul, Nat.reduceSub, Nat.reduceEqDiff, Nat.reduceBEq, Int.reduceToNat, reduceCtorEq, ct38_21, body21]
      refine rg ct38_ok ?_
      simp only [go_sem, Nat.reduceLeDiff, Nat.reduceLT, Nat.reduceAdd, Nat.reduceMul, Nat.reduceSub, Nat.reduceEqDiff, Nat.reduceBEq, Int.reduceToNat, reduceCtorEq, ct38_21, body21]
      obtain rfl := Option.some.inj H
      rfl
  · cases hb
/-! hotspot/hotspotref36.Answer -/
noncomputable def ct23 : Ct := tab [(20, pureC body20), (33, pureC body33), (38, pureC body38)]
theorem ct23_ok : CtOk Try.prog ct23 := tab_cons ok20 <| tab_cons ok33 <| tab_cons ok38 <| tab_nil
theorem ct23_20 (l : List AV) (h : List ABlk) : ct23 20 l h = pureC body20 l h := rfl
theorem ct23_33 (l : List AV) (h : List ABlk) : ct23 33 l h = pureC body33 l h := rfl
theorem ct23_38 (l : List AV) (h : List ABlk) : ct23 38 l h = pureC body38 l h := rfl
noncomputable def F23_L1 (p0 : TWakeTable) (p1 : TWakeRule) (v1_1 : Int) : Option (Lp (Int) ((Unit) ⊕ (TWakeRule × Int))) :=
  bif (bLe v1_1 64) then ((F20 (TWakeRule.mk p1.Id (wr .i64 (p1.Start + (wr .i64 (v1_1 * p1.Length)))) p1.Every p1.Length p1.Group)).bind fun r5 => need (bif r5 then ((F38 p0 (TWakeRule.mk p1.Id (wr .i64 (p1.Start + (wr .i64 (v1_1 * p1.Length)))) p1.Every p1.Length p1.Group)).isSome) else true) <| bif (r5 && (gt (F38 p0 (TWakeRule.mk p1.Id (wr .i64 (p1.Start + (wr .i64 (v1_1 * p1.Length)))) p1.Every p1.Length p1.Group)))) then (some (.done (.inr ((TWakeRule.mk p1.Id (wr .i64 (p1.Start + (wr .i64 (v1_1 * p1.Length)))) p1.Every p1.Length p1.Group), 0)))) else (some (.next (wr .i64 (v1_1 + 1))))) else (some (.done (.inl ())))
noncomputable def F23 (p0 : TWakeTable) (p1 : TWakeRule) : Option (TWakeRule × Int) :=
  (F33 p0).bind fun r1 => bif (!r1) then (some ((TWakeRule.mk 0 0 0 0 0), 8)) else ((F20 p1).bind fun r3 => bif (!r3) then (some ((TWakeRule.mk 0 0 0 0 0), 2)) else (lp (loopD (fun s => F23_L1 p0 p1 s) 0) (fun e => some ((TWakeRule.mk 0 0 0 0 0), 22)) some))
noncomputable def body23 : List AV → AR
  | [v0, v1] => .pure (aK 1 k_TWakeTable v0 ∧ aK 5 k_TWakeRule v1 ∧ (F23 (g_TWakeTable (aL v0)) (g_TWakeRule (aL v1))).isSome = true) (.tup [.agg [.int .i64 (((gt (F23 (g_TWakeTable (aL v0)) (g_TWakeRule (aL v1)))).1).Id), .int .i64 (((gt (F23 (g_TWakeTable (aL v0)) (g_TWakeRule (aL v1)))).1).Start), .int .i64 (((gt (F23 (g_TWakeTable (aL v0)) (g_TWakeRule (aL v1)))).1).Every), .int .i64 (((gt (F23 (g_TWakeTable (aL v0)) (g_TWakeRule (aL v1)))).1).Length), .int .i64 (((gt (F23 (g_TWakeTable (aL v0)) (g_TWakeRule (aL v1)))).1).Group)], .int .i64 ((gt (F23 (g_TWakeTable (aL v0)) (g_TWakeRule (aL v1)))).2)])
  | _ => .fail
set_option maxHeartbeats 4000000 in
set_option maxRecDepth 20000 in
theorem ok23 : FnOk Try.prog 23 (pureC body23) := by
  refine pure_fnM body23 (rs := [.cell 4 23, .tmp 5]) Try.func23 (by kernel_rfl) rfl rfl ?_
  intro l ob v hb hob
  unfold body23 at hb
  split at hb
  · rename_i v0 v1
    injection hb with q1 q2; subst q1 q2
    obtain ⟨hk0, hk1, hob⟩ := hob
    obtain ⟨r, H⟩ := Option.isSome_iff_exists.1 hob
    rw [H, gt_some]
    have hw0 := wA_TWakeTable hk0
    have hw1 := wA_TWakeRule hk1
    generalize g_TWakeTable (aL v0) = p0 at H hw0
    generalize g_TWakeRule (aL v1) = p1 at H hw1
    refine ⟨[.agg [.ro 5 p0.List.length false (enR c_TWakeRule p0.List)], .agg [.int .i64 p1.Id, .int .i64 p1.Start, .int .i64 p1.Every, .int .i64 p1.Length, .int .i64 p1.Group]], _, (fun E vs F => FR_wk1 hw0.1 F (fun vs F => FR_wk1 hw1.1 F (fun vs F => F))), rfl, rfl, ?_⟩
    rw [Try.ntmps23]
    simp only [List.length_cons, List.length_nil, Nat.reduceAdd, Nat.reduceSub, List.replicate_succ, List.replicate_zero, List.cons_append, List.nil_append]
    unfold F23 at H
    try dsimp only at H
    refine sq ct23_ok ?_
    simp only [go_sem, Nat.reduceLeDiff, Nat.reduceLT, Nat.reduceAdd, Nat.reduceMul, Nat.reduceSub, Nat.reduceEqDiff, Nat.reduceBEq, Int.reduceToNat, reduceCtorEq, ct23_20, body20, ct23_33, body33, ct23_38, body38]
    refine seqM ?_
    refine seqM ?_
    obtain ⟨r1, e2, H⟩ := Option.bind_eq_some_iff.1 H
    refine rg ct23_ok ?_
    simp only [go_sem, Nat.reduceLeDiff, Nat.reduceLT, Nat.reduceAdd, Nat.reduceMul, Nat.reduceSub, Nat.reduceEqDiff, Nat.reduceBEq, Int.reduceToNat, reduceCtorEq, ct23_20, body20, ct23_33, body33, ct23_38, body38, e2]
    repeat ((with_reducible refine And.intro ?_ ?_); focus (first | (with_reducible trivial) | omega | grind))
    refine condM rfl trivial (fun hc => ?_) (fun hc => ?_)
    · replace H := cond_t hc H
      refine sq ct23_ok ?_
      simp only [go_sem, Nat.reduceLeDiff, Nat.reduceLT, Nat.reduceAdd, Nat.reduceMul, Nat.reduceSub, Nat.reduceEqDiff, Nat.reduceBEq, Int.reduceToNat, reduceCtorEq, ct23_20, body20, ct23_33, body33, ct23_38, body38]
      repeat ((with_reducible refine And.intro ?_ ?_); focus (first | (with_reducible trivial) | omega | grind))
      refine rg ct23_ok ?_
      simp only [go_sem, Nat.reduceLeDiff, Nat.reduceLT, Nat.reduceAdd, Nat.reduceMul, Nat.reduceSub, Nat.reduceEqDiff, Nat.reduceBEq, Int.reduceToNat, reduceCtorEq, ct23_20, body20, ct23_33, body33, ct23_38, body38]
      obtain rfl := Option.some.inj H
      rfl
    replace H := cond_f hc H
    refine rg ct23_ok ?_
    simp only [go_sem, Nat.reduceLeDiff, Nat.reduceLT, Nat.reduceAdd, Nat.reduceMul, Nat.reduceSub, Nat.reduceEqDiff, Nat.reduceBEq, Int.reduceToNat, reduceCtorEq, ct23_20, body20, ct23_33, body33, ct23_38, body38]
    refine seqM ?_
    refine seqM ?_
    obtain ⟨r3, e4, H⟩ := Option.bind_eq_some_iff.1 H
    refine rg ct23_ok ?_
    simp only [go_sem, Nat.reduceLeDiff, Nat.reduceLT, Nat.reduceAdd, Nat.reduceMul, Nat.reduceSub, Nat.reduceEqDiff, Nat.reduceBEq, Int.reduceToNat, reduceCtorEq, ct23_20, body20, ct23_33, body33, ct23_38, body38, e4]
    repeat ((with_reducible refine And.intro ?_ ?_); focus (first | (with_reducible trivial) | omega | grind))
    refine condM rfl trivial (fun hc => ?_) (fun hc => ?_)
    · replace H := cond_t hc H
      refine sq ct23_ok ?_
      simp only [go_sem, Nat.reduceLeDiff, Nat.reduceLT, Nat.reduceAdd, Nat.reduceMul, Nat.reduceSub, Nat.reduceEqDiff, Nat.reduceBEq, Int.reduceToNat, reduceCtorEq, ct23_20, body20, ct23_33, body33, ct23_38, body38]
      repeat ((with_reducible refine And.intro ?_ ?_); focus (first | (with_reducible trivial) | omega | grind))
      refine rg ct23_ok ?_
      simp only [go_sem, Nat.reduceLeDiff, Nat.reduceLT, Nat.reduceAdd, Nat.reduceMul, Nat.reduceSub, Nat.reduceEqDiff, Nat.reduceBEq, Int.reduceToNat, reduceCtorEq, ct23_20, body20, ct23_33, body33, ct23_38, body38]
      obtain rfl := Option.some.inj H
      rfl
    replace H := cond_f hc H
    refine rg ct23_ok ?_
    simp only [go_sem, Nat.reduceLeDiff, Nat.reduceLT, Nat.reduceAdd, Nat.reduceMul, Nat.reduceSub, Nat.reduceEqDiff, Nat.reduceBEq, Int.reduceToNat, reduceCtorEq, ct23_20, body20, ct23_33, body33, ct23_38, body38]
    refine seqM ?_
    refine sq ct23_ok ?_
    simp only [go_sem, Nat.reduceLeDiff, Nat.reduceLT, Nat.reduceAdd, Nat.reduceMul, Nat.reduceSub, Nat.reduceEqDiff, Nat.reduceBEq, Int.reduceToNat, reduceCtorEq, ct23_20, body20, ct23_33, body33, ct23_38, body38]
    refine blkM ?_
    refine loop_den (fun s : Int => [.top, .top, .ptr 0 0 0 0, .ptr 1 0 0 0, .ptr 2 0 0 0, .top, .int .i64 s, .top, .top, .top, .top, .top, .top, .top, .top, .top, .top, .top, .top, .top, .top, .top, .top, .top, .top, .top, .top, .top, .top, .top, .top, .top, .top, .top, .top, .top, .top, .top]) (fun s => [.lit 37 [.ro 5 p0.List.length false (enR c_TWakeRule p0.List)], .lit 23 [.int .i64 p1.Id, .int .i64 p1.Start, .int .i64 p1.Every, .int .i64 p1.Length, .int .i64 p1.Group], .lit 23 [.int .i64 0, .int .i64 0, .int .i64 0, .int .i64 0, .int .i64 0]]) (fun e : Unit => [.top, .top, .top, .top, .ptr 2 0 0 0, .top, .top, .top, .top, .top, .top, .top, .top, .top, .top, .top, .top, .top, .top, .top, .top, .top, .top, .top, .top, .top, .top, .top, .top, .top, .top, .top, .top, .top, .top, .top, .top, .top]) (fun e => [.dead, .dead, .lit 23 [.int .i64 0, .int .i64 0, .int .i64 0, .int .i64 0, .int .i64 0]]) H ?_ (fun v1_1 o H hn1_1 hn2_1 => ?_) (fun e H => ?_)
    · refine SubF_of ⟨[some 0, some 1, some 2], ?_, ?_, by rfl, by rfl⟩
      · simp [CvL, Cv, getM]
      · exact ⟨(by simp [CvB, CvL, Cv, blkAt, geth, getM]), (by simp [CvB, CvL, Cv, blkAt, geth, getM]), (by simp [CvB, CvL, Cv, blkAt, geth, getM]), trivial⟩
    · unfold F23_L1 at H
      try dsimp only at H ⊢
      refine seqM ?_
      refine sq ct23_ok ?_
      simp only [go_sem, Nat.reduceLeDiff, Nat.reduceLT, Nat.reduceAdd, Nat.reduceMul, Nat.reduceSub, Nat.reduceEqDiff, Nat.reduceBEq, Int.reduceToNat, reduceCtorEq, ct23_20, body20, ct23_33, body33, ct23_38, body38]
      refine condM' rfl trivial (fun hc => ?_) (fun hc => ?_)
      · replace H := cond_f hc H
        refine rg ct23_ok ?_
        simp only [go_sem, Nat.reduceLeDiff, Nat.reduceLT, Nat.reduceAdd, Nat.reduceMul, Nat.reduceSub, Nat.reduceEqDiff, Nat.reduceBEq, Int.reduceToNat, reduceCtorEq, ct23_20, body20, ct23_33, body33, ct23_38, body38]
        refine ⟨_, (Option.some.inj H).symm, ?_⟩
        refine SubF_of ⟨[some 0, some 1, some 2], ?_, ?_, by rfl, by rfl⟩
        · simp [CvL, Cv, getM]
        · exact ⟨CvB_dead, CvB_dead, (by simp [CvB, CvL, Cv, blkAt, geth, getM]), trivial⟩
      replace H := cond_t hc H
      refine rg ct23_ok ?_
      simp only [go_sem, Nat.reduceLeDiff, Nat.reduceLT, Nat.reduceAdd, Nat.reduceMul, Nat.reduceSub, Nat.reduceEqDiff, Nat.reduceBEq, Int.reduceToNat, reduceCtorEq, ct23_20, body20, ct23_33, body33, ct23_38, body38]
      refine seqM ?_
      refine blkM ?_
      refine sq ct23_ok ?_
      simp only [go_sem, Nat.reduceLeDiff, Nat.reduceLT, Nat.reduceAdd, Nat.reduceMul, Nat.reduceSub, Nat.reduceEqDiff, Nat.reduceBEq, Int.reduceToNat, reduceCtorEq, ct23_20, body20, ct23_33, body33, ct23_38, body38]
      repeat ((with_reducible refine And.intro ?_ ?_); focus (first | (with_reducible trivial) | omega | grind))
      refine sq ct23_ok ?_
      simp only [go_sem, Nat.reduceLeDiff, Nat.reduceLT, Nat.reduceAdd, Nat.reduceMul, Nat.reduceSub, Nat.reduceEqDiff, Nat.reduceBEq, Int.reduceToNat, reduceCtorEq, ct23_20, body20, ct23_33, body33, ct23_38, body38]
      repeat ((with_reducible refine And.intro ?_ ?_); focus (first | (with_reducible trivial) | omega | grind))
      refine seqM ?_
      obtain ⟨r5, e6, H⟩ := Option.bind_eq_some_iff.1 H
      obtain ⟨f7, H⟩ := need_some.1 H
      replace f7 := g_iff.1 f7
      refine rg ct23_ok ?_
      simp only [go_sem, Nat.reduceLeDiff, Nat.reduceLT, Nat.reduceAdd, Nat.reduceMul, Nat.reduceSub, Nat.reduceEqDiff, Nat.reduceBEq, Int.reduceToNat, reduceCtorEq, ct23_20, body20, ct23_33, body33, ct23_38, body38, e6]
      repeat ((with_reducible refine And.intro ?_ ?_); focus (first | (with_reducible trivial) | omega | (intro g; have q := f7 g; first | exact q | exact ⟨q.1, q.2.1⟩ | exact q.2.2 | omega) | grind))
      refine condM rfl trivial (fun hc => ?_) (fun hc => ?_)
      · replace H := cond_t hc H
        refine sq ct23_ok ?_
        simp only [go_sem, Nat.reduceLeDiff, Nat.reduceLT, Nat.reduceAdd, Nat.reduceMul, Nat.reduceSub, Nat.reduceEqDiff, Nat.reduceBEq, Int.reduceToNat, reduceCtorEq, ct23_20, body20, ct23_33, body33, ct23_38, body38]
        repeat ((with_reducible refine And.intro ?_ ?_); focus (first | (with_reducible trivial) | omega | grind))
        refine rg ct23_ok ?_
        simp only [go_sem, Nat.reduceLeDiff, Nat.reduceLT, Nat.reduceAdd, Nat.reduceMul, Nat.reduceSub, Nat.reduceEqDiff, Nat.reduceBEq, Int.reduceToNat, reduceCtorEq, ct23_20, body20, ct23_33, body33, ct23_38, body38]
        have H := hn2_1 _ (Option.some.inj H).symm
        obtain rfl := Option.some.inj H
        rfl
      replace H := cond_f hc H
      refine rg ct23_ok ?_
      simp only [go_sem, Nat.reduceLeDiff, Nat.reduceLT, Nat.reduceAdd, Nat.reduceMul, Nat.reduceSub, Nat.reduceEqDiff, Nat.reduceBEq, Int.reduceToNat, reduceCtorEq, ct23_20, body20, ct23_33, body33, ct23_38, body38]
      refine rg ct23_ok ?_
      simp only [go_sem, Nat.reduceLeDiff, Nat.reduceLT, Nat.reduceAdd, Nat.reduceMul, Nat.reduceSub, Nat.reduceEqDiff, Nat.reduceBEq, Int.reduceToNat, reduceCtorEq, ct23_20, body20, ct23_33, body33, ct23_38, body38]
      refine ⟨_, (Option.some.inj H).symm, ?_⟩
      refine SubF_of ⟨[some 0, some 1, some 2], ?_, ?_, by rfl, by rfl⟩
      · simp [CvL, Cv, getM]
      · exact ⟨(by simp [CvB, CvL, Cv, blkAt, geth, getM]), (by simp [CvB, CvL, Cv, blkAt, geth, getM]), (by simp [CvB, CvL, Cv, blkAt, geth, getM]), trivial⟩
    · try dsimp only at H ⊢
      try simp only [m_normal, k_normal, b_normal, kL_normal, r_normal]
      refine sq ct23_ok ?_
      simp only [go_sem, Nat.reduceLeDiff, Nat.reduceLT, Nat.reduceAdd, Nat.reduceMul, Nat.reduceSub, Nat.reduceEqDiff, Nat.reduceBEq, Int.reduceToNat, reduceCtorEq, ct23_20, body20, ct23_33, body33, ct23_38, body38]
      repeat ((with_reducible refine And.intro ?_ ?_); focus (first | (with_reducible trivial) | omega | grind))
      refine rg ct23_ok ?_
      simp only [go_sem, Nat.reduceLeDiff, Nat.reduceLT, Nat.reduceAdd, Nat.reduceMul, Nat.reduceSub, Nat.reduceEqDiff, Nat.reduceBEq, Int.reduceToNat, reduceCtorEq, ct23_20, body20, ct23_33, body33, ct23_38, body38]
      obtain rfl := Option.some.inj H
      rfl
  · cases hb
/-! hotspot/hotspotlaw36.WakeOverlaps -/
noncomputable def ct7 : Ct := tab [(11, pureC body11), (18, pureC body18), (19, pureC body19), (20, pureC body20), (21, pureC body21), (22, pureC body22), (23, pureC body23)]
theorem ct7_ok : CtOk Try.prog ct7 := tab_cons ok11 <| tab_cons ok18 <| tab_cons ok19 <| tab_cons ok20 <| tab_cons ok21 <| tab_cons ok22 <| tab_cons ok23 <| tab_nil
theorem ct7_11 (l : List AV) (h : List ABlk) : ct7 11 l h = pureC body11 l h := rfl
theorem ct7_18 (l : List AV) (h : List ABlk) : ct7 18 l h = pureC body18 l h := rfl
theorem ct7_19 (l : List AV) (h : List ABlk) : ct7 19 l h = pureC body19 l h := rfl
theorem ct7_20 (l : List AV) (h : List ABlk) : ct7 20 l h = pureC body20 l h := rfl
theorem ct7_21 (l : List AV) (h : List ABlk) : ct7 21 l h = pureC body21 l h := rfl
theorem ct7_22 (l : List AV) (h : List ABlk) : ct7 22 l h = pureC body22 l h := rfl
theorem ct7_23 (l : List AV) (h : List ABlk) : ct7 23 l h = pureC body23 l h := rfl
noncomputable def F7 (p0 : TWakeTable) (p1 : TWakeRule) (p2 : TWakeRule) : Option (Bool) :=
  (F19 p0).bind fun r1 => need (bif (!(!r1)) then ((F11 p1).isSome) else true) <| need (bif (!((!r1) || (!(gt (F11 p1))))) then ((F11 p2).isSome) else true) <| bif (((!r1) || (!(gt (F11 p1)))) || (!(gt (F11 p2)))) then (some true) else ((F18 p1 p2).bind fun r5 => (F20 p1).bind fun r7 => need (bif (!(!r7)) then ((F20 p2).isSome) else true) <| bif ((!r7) || (!(gt (F20 p2)))) then ((F22 p0 p1).bind fun r10 => (F23 p0 p1).bind fun r12 => some ((((bB r5.1 false) && (bEq r5.2 2)) && (bEq r10.1.Id r12.1.Id && (bEq r10.1.Start r12.1.Start && (bEq r10.1.Every r12.1.Every && (bEq r10.1.Length r12.1.Length && (bEq r10.1.Group r12.1.Group)))))) && (bEq r10.2 r12.2))) else ((F21 p1 p2).bind fun r14 => (F22 p0 p1).bind fun r16 => (F23 p0 p1).bind fun r18 => some ((((bB r5.1 r14) && (bEq r5.2 0)) && (bEq r16.1.Id r18.1.Id && (bEq r16.1.Start r18.1.Start && (bEq r16.1.Every r18.1.Every && (bEq r16.1.Length r18.1.Length && (bEq r16.1.Group r18.1.Group)))))) && (bEq r16.2 r18.2))))
noncomputable def body7 : List AV → AR
  | [v0, v1, v2] => .pure (aK 1 k_TWakeTable v0 ∧ aK 5 k_TWakeRule v1 ∧ aK 5 k_TWakeRule v2 ∧ (F7 (g_TWakeTable (aL v0)) (g_TWakeRule (aL v1)) (g_TWakeRule (aL v2))).isSome = true) (.bool (gt (F7 (g_TWakeTable (aL v0)) (g_TWakeRule (aL v1)) (g_TWakeRule (aL v2)))))
  | _ => .fail
set_option maxHeartbeats 4000000 in
set_option maxRecDepth 20000 in
theorem ok7 : FnOk Try.prog 7 (pureC body7) := by
  refine pure_fnM body7 (rs := [.tmp 6]) Try.func7 (by kernel_rfl) rfl rfl ?_
  intro l ob v hb hob
  unfold body7 at hb
  split at hb
  · rename_i v0 v1 v2
    injection hb with q1 q2; subst q1 q2
    obtain ⟨hk0, hk1, hk2, hob⟩ := hob
    obtain ⟨r, H⟩ := Option.isSome_iff_exists.1 hob
    rw [H, gt_some]
    have hw0 := wA_TWakeTable hk0
    have hw1 := wA_TWakeRule hk1
    have hw2 := wA_TWakeRule hk2
    generalize g_TWakeTable (aL v0) = p0 at H hw0
    generalize g_TWakeRule (aL v1) = p1 at H hw1
    generalize g_TWakeRule (aL v2) = p2 at H hw2
    refine ⟨[.agg [.ro 5 p0.List.length false (enR c_TWakeRule p0.List)], .agg [.int .i64 p1.Id, .int .i64 p1.Start, .int .i64 p1.Every, .int .i64 p1.Length, .int .i64 p1.Group], .agg [.int .i64 p2.Id, .int .i64 p2.Start, .int .i64 p2.Every, .int .i64 p2.Length, .int .i64 p2.Group]], _, (fun E vs F => FR_wk1 hw0.1 F (fun vs F => FR_wk1 hw1.1 F (fun vs F => FR_wk1 hw2.1 F (fun vs F => F)))), rfl, rfl, ?_⟩
    rw [Try.ntmps7]
    simp only [List.length_cons, List.length_nil, Nat.reduceAdd, Nat.reduceSub, List.replicate_succ, List.replicate_zero, List.cons_append, List.nil_append]
    unfold F7 at H
    try dsimp only at H
    refine sq ct7_ok ?_
    simp only [go_sem, Nat.reduceLeDiff, Nat.reduceLT, Nat.reduceAdd, Nat.reduceMul, Nat.reduceSub, Nat.reduceEqDiff, Nat.reduceBEq, Int.reduceToNat, reduceCtorEq, ct7_11, body11, ct7_18, body18, ct7_19, body19, ct7_20, body20, ct7_21, body21, ct7_22, body22, ct7_23, body23]
    refine seqM ?_
    refine seqM ?_
    obtain ⟨r1, e2, H⟩ := Option.bind_eq_some_iff.1 H
    obtain ⟨f3, H⟩ := need_some.1 H
    replace f3 := g_iff.1 f3
    obtain ⟨f4, H⟩ := need_some.1 H
    replace f4 := g_iff.1 f4
    refine rg ct7_ok ?_
    simp only [go_sem, Nat.reduceLeDiff, Nat.reduceLT, Nat.reduceAdd, Nat.reduceMul, Nat.reduceSub, Nat.reduceEqDiff, Nat.reduceBEq, Int.reduceToNat, reduceCtorEq, ct7_11, body11, ct7_18, body18, ct7_19, body19, ct7_20, body20, ct7_21, body21, ct7_22, body22, ct7_23, body23, e2]
    repeat ((with_reducible refine And.intro ?_ ?_); focus (first | (with_reducible trivial) | omega | (intro g; have q := f3 g; first | exact q | exact ⟨q.1, q.2.1⟩ | exact q.2.2 | omega) | (intro g; have q := f4 g; first | exact q | exact ⟨q.1, q.2.1⟩ | exact q.2.2 | omega) | grind))
    refine condM rfl trivial (fun hc => ?_) (fun hc => ?_)
    · replace H := cond_t hc H
      refine sq ct7_ok ?_
      simp only [go_sem, Nat.reduceLeDiff, Nat.reduceLT, Nat.reduceAdd, Nat.reduceMul, Nat.reduceSub, Nat.reduceEqDiff, Nat.reduceBEq, Int.reduceToNat, reduceCtorEq, ct7_11, body11, ct7_18, body18, ct7_19, body19, ct7_20, body20, ct7_21, body21, ct7_22, body22, ct7_23, body23]
      refine rg ct7_ok ?_
      simp only [go_sem, Nat.reduceLeDiff, Nat.reduceLT, Nat.reduceAdd, Nat.reduceMul, Nat.reduceSub, Nat.reduceEqDiff, Nat.reduceBEq, Int.reduceToNat, reduceCtorEq, ct7_11, body11, ct7_18, body18, ct7_19, body19, ct7_20, body20, ct7_21, body21, ct7_22, body22, ct7_23, body23]
      obtain rfl := Option.some.inj H
      rfl
    replace H := cond_f hc H
    refine rg ct7_ok ?_
    simp only [go_sem, Nat.reduceLeDiff, Nat.reduceLT, Nat.reduceAdd, Nat.reduceMul, Nat.reduceSub, Nat.reduceEqDiff, Nat.reduceBEq, Int.reduceToNat, reduceCtorEq, ct7_11, body11, ct7_18, body18, ct7_19, body19, ct7_20, body20, ct7_21, body21, ct7_22, body22, ct7_23, body23]
    refine seqM ?_
    obtain ⟨r5, e6, H⟩ := Option.bind_eq_some_iff.1 H
    refine rg ct7_ok ?_
    simp only [go_sem, Nat.reduceLeDiff, Nat.reduceLT, Nat.reduceAdd, Nat.reduceMul, Nat.reduceSub, Nat.reduceEqDiff, Nat.reduceBEq, Int.reduceToNat, reduceCtorEq, ct7_11, body11, ct7_18, body18, ct7_19, body19, ct7_20, body20, ct7_21, body21, ct7_22, body22, ct7_23, body23, e6]
    repeat ((with_reducible refine And.intro ?_ ?_); focus (first | (with_reducible trivial) | omega | grind))
    refine sq ct7_ok ?_
    simp only [go_sem, Nat.reduceLeDiff, Nat.reduceLT, Nat.reduceAdd, Nat.reduceMul, Nat.reduceSub, Nat.reduceEqDiff, Nat.reduceBEq, Int.reduceToNat, reduceCtorEq, ct7_11, body11, ct7_18, body18, ct7_19, body19, ct7_20, body20, ct7_21, body21, ct7_22, body22, ct7_23, body23]
    refine seqM ?_
    refine seqM ?_
    obtain ⟨r7, e8, H⟩ := Option.bind_eq_some_iff.1 H
    obtain ⟨f9, H⟩ := need_some.1 H
    replace f9 := g_iff.1 f9
    refine rg ct7_ok ?_
    simp only [go_sem, Nat.reduceLeDiff, Nat.reduceLT, Nat.reduceAdd, Nat.reduceMul, Nat.reduceSub, Nat.reduceEqDiff, Nat.reduceBEq, Int.reduceToNat, reduceCtorEq, ct7_11, body11, ct7_18, body18, ct7_19, body19, ct7_20, body20, ct7_21, body21, ct7_22, body22, ct7_23, body23, e8]
    repeat ((with_reducible refine And.intro ?_ ?_); focus (first | (with_reducible trivial) | omega | (intro g; have q := f9 g; first | exact q | exact ⟨q.1, q.2.1⟩ | exact q.2.2 | omega) | grind))
    refine condM rfl trivial (fun hc => ?_) (fun hc => ?_)
    · replace H := cond_t hc H
      refine rg ct7_ok ?_
      simp only [go_sem, Nat.reduceLeDiff, Nat.reduceLT, Nat.reduceAdd, Nat.reduceMul, Nat.reduceSub, Nat.reduceEqDiff, Nat.reduceBEq, Int.reduceToNat, reduceCtorEq, ct7_11, body11, ct7_18, body18, ct7_19, body19, ct7_20, body20, ct7_21, body21, ct7_22, body22, ct7_23, body23]
      refine seqM ?_
      obtain ⟨r10, e11, H⟩ := Option.bind_eq_some_iff.1 H
      refine rg ct7_ok ?_
      simp only [go_sem, Nat.reduceLeDiff, Nat.reduceLT, Nat.reduceAdd, Nat.reduceMul, Nat.reduceSub, Nat.reduceEqDiff, Nat.reduceBEq, Int.reduceToNat, reduceCtorEq, ct7_11, body11, ct7_18, body18, ct7_19, body19, ct7_20, body20, ct7_21, body21, ct7_22, body22, ct7_23, body23, e11]
      repeat ((with_reducible refine And.intro ?_ ?_); focus (first | (with_reducible trivial) | omega | grind))
      refine seqM ?_
      obtain ⟨r12, e13, H⟩ := Option.bind_eq_some_iff.1 H
      refine rg ct7_ok ?_
      simp only [go_sem, Nat.reduceLeDiff, Nat.reduceLT, Nat.reduceAdd, Nat.reduceMul, Nat.reduceSub, Nat.reduceEqDiff, Nat.reduceBEq, Int.reduceToNat, reduceCtorEq, ct7_11, body11, ct7_18, body18, ct7_19, body19, ct7_20, body20, ct7_21, body21, ct7_22, body22, ct7_23, body23, e13]
      repeat ((with_reducible refine And.intro ?_ ?_); focus (first | (with_reducible trivial) | omega | grind))
      refine sq ct7_ok ?_
      simp only [go_sem, Nat.reduceLeDiff, Nat.reduceLT, Nat.reduceAdd, Nat.reduceMul, Nat.reduceSub, Nat.reduceEqDiff, Nat.reduceBEq, Int.reduceToNat, reduceCtorEq, ct7_11, body11, ct7_18, body18, ct7_19, body19, ct7_20, body20, ct7_21, body21, ct7_22, body22, ct7_23, body23]
      repeat ((with_reducible refine And.intro ?_ ?_); focus (first | (with_reducible trivial) | omega | grind))
      refine rg ct7_ok ?_
      simp only [go_sem, Nat.reduceLeDiff, Nat.reduceLT, Nat.reduceAdd, Nat.reduceMul, Nat.reduceSub, Nat.reduceEqDiff, Nat.reduceBEq, Int.reduceToNat, reduceCtorEq, ct7_11, body11, ct7_18, body18, ct7_19, body19, ct7_20, body20, ct7_21, body21, ct7_22, body22, ct7_23, body23]
      obtain rfl := Option.some.inj H
      rfl
    replace H := cond_f hc H
    obtain ⟨r14, e15, H⟩ := Option.bind_eq_some_iff.1 H
    refine rg ct7_ok ?_
    simp only [go_sem, Nat.reduceLeDiff, Nat.reduceLT, Nat.reduceAdd, Nat.reduceMul, Nat.reduceSub, Nat.reduceEqDiff, Nat.reduceBEq, Int.reduceToNat, reduceCtorEq, ct7_11, body11, ct7_18, body18, ct7_19, body19, ct7_20, body20, ct7_21, body21, ct7_22, body22, ct7_23, body23, e15]
    repeat ((with_reducible refine And.intro ?_ ?_); focus (first | (with_reducible trivial) | omega | grind))
    refine seqM ?_
    obtain ⟨r16, e17, H⟩ := Option.bind_eq_some_iff.1 H
    refine rg ct7_ok ?_
    simp only [go_sem, Nat.reduceLeDiff, Nat.reduceLT, Nat.reduceAdd, Nat.reduceMul, Nat.reduceSub, Nat.reduceEqDiff, Nat.reduceBEq, Int.reduceToNat, reduceCtorEq, ct7_11, body11, ct7_18, body18, ct7_19, body19, ct7_20, body20, ct7_21, body21, ct7_22, body22, ct7_23, body23, e17]
    repeat ((with_reducible refine And.intro ?_ ?_); focus (first | (with_reducible trivial) | omega | grind))
    refine seqM ?_
    obtain ⟨r18, e19, H⟩ := Option.bind_eq_some_iff.1 H
    refine rg ct7_ok ?_
    simp only [go_sem, Nat.reduceLeDiff, Nat.reduceLT, Nat.reduceAdd, Nat.reduceMul, Nat.reduceSub, Nat.reduceEqDiff, Nat.reduceBEq, Int.reduceToNat, reduceCtorEq, ct7_11, body11, ct7_18, body18, ct7_19, body19, ct7_20, body20, ct7_21, body21, ct7_22, body22, ct7_23, body23, e19]
    repeat ((with_reducible refine And.intro ?_ ?_); focus (first | (with_reducible trivial) | omega | grind))
    refine sq ct7_ok ?_
    simp only [go_sem, Nat.reduceLeDiff, Nat.reduceLT, Nat.reduceAdd, Nat.reduceMul, Nat.reduceSub, Nat.reduceEqDiff, Nat.reduceBEq, Int.reduceToNat, reduceCtorEq, ct7_11, body11, ct7_18, body18, ct7_19, body19, ct7_20, body20, ct7_21, body21, ct7_22, body22, ct7_23, body23]
    repeat ((with_reducible refine And.intro ?_ ?_); focus (first | (with_reducible trivial) | omega | grind))
    refine rg ct7_ok ?_
    simp only [go_sem, Nat.reduceLeDiff, Nat.reduceLT, Nat.reduceAdd, Nat.reduceMul, Nat.reduceSub, Nat.reduceEqDiff, Nat.reduceBEq, Int.reduceToNat, reduceCtorEq, ct7_11, body11, ct7_18, body18, ct7_19, body19, ct7_20, body20, ct7_21, body21, ct7_22, body22, ct7_23, body23]
    obtain rfl := Option.some.inj H
    rfl
  · cases hb
end Go.Proofs.Ytpgcekjnpieibaa
