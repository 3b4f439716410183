/-
  What WakeNames reaches.
-/
import Derived.Test.YtpgcekjnpieibaaB
namespace Go.Proofs.Ytpgcekjnpieibaa
open Go.Am
set_option linter.unusedVariables false
set_option linter.unusedSimpArgs false
attribute [local go_sem] w_skip w_label w_goto w_scope k_goto b_goto l_goto s_normal s_exit s_ret s_goto w_region w_draw w_seq w_cond w_block w_exit w_ret w_loop k_normal k_exit k_ret b_normal b_exit b_ret l_normal l_exit l_ret m_normal m_exit m_ret m_goto kL_normal kL_exit kL_ret kS_normal kS_exit kS_ret kS_goto r_normal r_ret o_nil o_cons q_nil q_cons nxt gval gvd gvl gvw dstOf evO ogOp ogC og ogL ogP ogO rho rhoO strip optOk getL setL setT absC absV absL pO hO evLoad ldB geth seth evStore stRes stB evBox evAlloc evFieldAddr evField evIndexAddr evBin2 binI binB binNR binU nilR_isEmpty nilR_t nilR_0 nilR_s evInt evStr evUn evConv cvO evPick mrg evExtract evNil evCall mapR evBuiltin evLen2 vcells vcOk atom tabF cnd retK resFin resL resA resC resCons evBuild evBuildP placeS placeA fillA fillOk putL getP nxtQ pureC_eq pureR genC_eq genR roV roL roOb roObL roW roWL roWOb roWObL nref nrefL binA binN eqSh eqRes evIndex evIndex2 evIndexS evSlice evSlice2 evSliceS evBound evConv2 cvS evAppend appRes srcOf evMake evBuildSlice repL evFn evMin evMax freshC freshR sub_enR0 Bool.or_false Bool.false_or Bool.or_true Bool.true_or Bool.and_false Bool.false_and Option.map_some Option.map_none Option.getD_some Option.getD_none Option.bind_some Option.bind_none Option.or_some Option.or_none Option.none_or List.nil_append List.cons_append List.append_nil cond_true cond_false List.length_cons List.length_nil beq_self_eq_true Bool.and_true Bool.true_and Bool.not_true Bool.not_false true_and and_true and_self true_implies implies_true ne_eq not_false_eq_true Bool.false_eq_true Bool.true_eq_false false_implies Nat.lt_irrefl Nat.le_refl Nat.succ_ne_self imp_self Bool.cond_false_right Bool.cond_true_left decide_true decide_false Bool.not_eq_true' Bool.not_eq_false' Bool.not_not Nat.zero_mul Nat.zero_add Nat.add_zero Nat.mul_one Nat.one_mul Bool.cond_self tsz3 tby3 tagg3 tslice3 tarr3 tzero3 tzn3 tplaces3 tint3 tstr3 tnoint3 tbool3 tany3 tintk3 tbytes3 tsz4 tby4 tagg4 tslice4 tarr4 tzero4 tzn4 tplaces4 tint4 tstr4 tnoint4 tbool4 tany4 tintk4 tbytes4 tsz23 tby23 tagg23 tslice23 tarr23 tzero23 tzn23 tplaces23 tint23 tstr23 tnoint23 tbool23 tany23 tintk23 tbytes23 tfld23_0 tfld23_1 tfld23_2 tfld23_3 tfld23_4 tsz24 tby24 tagg24 tslice24 tarr24 tzero24 tzn24 tplaces24 tint24 tstr24 tnoint24 tbool24 tany24 tintk24 tbytes24 tsz29 tby29 tagg29 tslice29 tarr29 tzero29 tzn29 tplaces29 tint29 tstr29 tnoint29 tbool29 tany29 tintk29 tbytes29 tsz35 tby35 tagg35 tslice35 tarr35 tzero35 tzn35 tplaces35 tint35 tstr35 tnoint35 tbool35 tany35 tintk35 tbytes35 tsz37 tby37 tagg37 tslice37 tarr37 tzero37 tzn37 tplaces37 tint37 tstr37 tnoint37 tbool37 tany37 tintk37 tbytes37 tfld37_0 tsz51 tby51 tagg51 tslice51 tarr51 tzero51 tzn51 tplaces51 tint51 tstr51 tnoint51 tbool51 tany51 tintk51 tbytes51 tsz61 tby61 tagg61 tslice61 tarr61 tzero61 tzn61 tplaces61 tint61 tstr61 tnoint61 tbool61 tany61 tintk61 tbytes61 tsz71 tby71 tagg71 tslice71 tarr71 tzero71 tzn71 tplaces71 tint71 tstr71 tnoint71 tbool71 tany71 tintk71 tbytes71 tsz74 tby74 tagg74 tslice74 tarr74 tzero74 tzn74 tplaces74 tint74 tstr74 tnoint74 tbool74 tany74 tintk74 tbytes74 e_i64_0 fit_i64 de_i64 g_i64 k_i64 e_b_0 fit_b de_b g_b k_b e_TWakeRule_0 e_TWakeRule_1 e_TWakeRule_2 e_TWakeRule_3 e_TWakeRule_4 fit_TWakeRule de_TWakeRule g_TWakeRule k_TWakeRule eta_TWakeRule e_lTWakeRule_0 fit_lTWakeRule de_lTWakeRule g_lTWakeRule k_lTWakeRule e_TWakeTable_0 fit_TWakeTable de_TWakeTable g_TWakeTable k_TWakeTable eta_TWakeTable e_li64_0 fit_li64 de_li64 g_li64 k_li64 e_u64_0 fit_u64 de_u64 g_u64 k_u64 deR_0 Fit_0 Option.isSome_some gt_some gd_one rK rG aL aK iK bK sK lK iA bA sA lA or_true true_or Int.toNat_natCast shT_23 Int.toNat_zero Int.cast_ofNat_Int
/-! hotspot/wake.CheckRule -/
noncomputable def F17 (p0 : TWakeRule) : Option (Int) :=
  bif ((((!((((bLe 0 p0.Id) && (bLe p0.Id 255)) && (bLe 0 p0.Group)) && (bLe p0.Group 255))) || (!(((((bLe 0 p0.Every) && (bLe p0.Every 4294967296)) && (bLe 1 p0.Length)) && (bLe p0.Length 4294967296)) && ((bEq p0.Every 0) || (bLe p0.Length p0.Every))))) || (bLt p0.Start 0)) || (bLt 1099511627776 p0.Start)) then (some 8) else (some 0)
noncomputable def body17 : List AV → AR
  | [v0] => .pure (aK 5 k_TWakeRule v0 ∧ (F17 (g_TWakeRule (aL v0))).isSome = true) (.int .i64 (gt (F17 (g_TWakeRule (aL v0)))))
  | _ => .fail
set_option maxHeartbeats 4000000 in
set_option maxRecDepth 20000 in
theorem ok17 : FnOk Try.prog 17 (pureC body17) := by
  refine pure_fnM body17 (rs := [.tmp 2]) Try.func17 (by kernel_rfl) rfl rfl ?_
  intro l ob v hb hob
  unfold body17 at hb
  split at hb
  · rename_i v0
    injection hb with q1 q2; subst q1 q2
    obtain ⟨hk0, hob⟩ := hob
    obtain ⟨r, H⟩ := Option.isSome_iff_exists.1 hob
    rw [H, gt_some]
    have hw0 := wA_TWakeRule hk0
    generalize g_TWakeRule (aL v0) = p0 at H hw0
    refine ⟨[.agg [.int .i64 p0.Id, .int .i64 p0.Start, .int .i64 p0.Every, .int .i64 p0.Length, .int .i64 p0.Group]], _, (fun E vs F => FR_wk1 hw0.1 F (fun vs F => F)), rfl, rfl, ?_⟩
    rw [Try.ntmps17]
    simp only [List.length_cons, List.length_nil, Nat.reduceAdd, Nat.reduceSub, List.replicate_succ, List.replicate_zero, List.cons_append, List.nil_append]
    unfold F17 at H
    try dsimp only at H
    refine sq ctNo_ok ?_
    simp only [go_sem, Nat.reduceLeDiff, Nat.reduceLT, Nat.reduceAdd, Nat.reduceMul, Nat.reduceSub, Nat.reduceEqDiff, Nat.reduceBEq, Int.reduceToNat, reduceCtorEq]
    refine sq ctNo_ok ?_
    simp only [go_sem, Nat.reduceLeDiff, Nat.reduceLT, Nat.reduceAdd, Nat.reduceMul, Nat.reduceSub, Nat.reduceEqDiff, Nat.reduceBEq, Int.reduceToNat, reduceCtorEq]
    repeat ((with_reducible refine And.intro ?_ ?_); focus (first | (with_reducible trivial) | omega | grind))
    refine sq ctNo_ok ?_
    simp only [go_sem, Nat.reduceLeDiff, Nat.reduceLT, Nat.reduceAdd, Nat.reduceMul, Nat.reduceSub, Nat.reduceEqDiff, Nat.reduceBEq, Int.reduceToNat, reduceCtorEq]
    repeat ((with_reducible refine And.intro ?_ ?_); focus (first | (with_reducible trivial) | omega | grind))
    refine seqM ?_
    refine sq ctNo_ok ?_
    simp only [go_sem, Nat.reduceLeDiff, Nat.reduceLT, Nat.reduceAdd, Nat.reduceMul, Nat.reduceSub, Nat.reduceEqDiff, Nat.reduceBEq, Int.reduceToNat, reduceCtorEq]
    repeat ((with_reducible refine And.intro ?_ ?_); focus (first | (with_reducible trivial) | omega | grind))
    refine condM rfl trivial (fun hc => ?_) (fun hc => ?_)
    · replace H := cond_t hc H
      refine sq ctNo_ok ?_
      simp only [go_sem, Nat.reduceLeDiff, Nat.reduceLT, Nat.reduceAdd, Nat.reduceMul, Nat.reduceSub, Nat.reduceEqDiff, Nat.reduceBEq, Int.reduceToNat, reduceCtorEq]
      refine rg ctNo_ok ?_
      simp only [go_sem, Nat.reduceLeDiff, Nat.reduceLT, Nat.reduceAdd, Nat.reduceMul, Nat.reduceSub, Nat.reduceEqDiff, Nat.reduceBEq, Int.reduceToNat, reduceCtorEq]
      obtain rfl := Option.some.inj H
      first | rfl | simp only [Bool.and_false, Bool.false_and, Bool.and_true, Bool.true_and]
    replace H := cond_f hc H
    refine rg ctNo_ok ?_
    simp only [go_sem, Nat.reduceLeDiff, Nat.reduceLT, Nat.reduceAdd, Nat.reduceMul, Nat.reduceSub, Nat.reduceEqDiff, Nat.reduceBEq, Int.reduceToNat, reduceCtorEq]
    refine sq ctNo_ok ?_
    simp only [go_sem, Nat.reduceLeDiff, Nat.reduceLT, Nat.reduceAdd, Nat.reduceMul, Nat.reduceSub, Nat.reduceEqDiff, Nat.reduceBEq, Int.reduceToNat, reduceCtorEq]
    refine rg ctNo_ok ?_
    simp only [go_sem, Nat.reduceLeDiff, Nat.reduceLT, Nat.reduceAdd, Nat.reduceMul, Nat.reduceSub, Nat.reduceEqDiff, Nat.reduceBEq, Int.reduceToNat, reduceCtorEq]
    obtain rfl := Option.some.inj H
    first | rfl | simp only [Bool.and_false, Bool.false_and, Bool.and_true, Bool.true_and]
  · cases hb
/-! hotspot/wake.Awake -/
noncomputable def ct14t0 : Ct := tab [(17, pureC body17)]
theorem ct14t0_ok : CtOk Try.prog ct14t0 := tab_cons ok17 <| tab_nil
theorem ct14t0_17 (l : List AV) (h : List ABlk) : ct14t0 17 l h = pureC body17 l h := rfl
noncomputable def F14 (p0 : TWakeRule) (p1 : Int) : Option (Bool) :=
  (F17 p0).bind fun r1 => bif ((!bEq r1 0) || (bLt p1 p0.Start)) then (some false) else (bif (bLt 0 p0.Every) then (need (!(bEq (wr .u64 p0.Every) 0)) <| some (bLt ((wr .u64 ((wr .u64 p1) - (wr .u64 p0.Start))).tmod (wr .u64 p0.Every)) (wr .u64 p0.Length))) else (some (bLt (wr .u64 ((wr .u64 p1) - (wr .u64 p0.Start))) (wr .u64 p0.Length))))
noncomputable def body14 : List AV → AR
  | [v0, v1] => .pure (aK 5 k_TWakeRule v0 ∧ iK .i64 v1 ∧ (F14 (g_TWakeRule (aL v0)) (iA v1)).isSome = true) (.bool (gt (F14 (g_TWakeRule (aL v0)) (iA v1))))
  | _ => .fail
set_option maxHeartbeats 4000000 in
set_option maxRecDepth 20000 in
theorem ok14 : FnOk Try.prog 14 (pureC body14) := by
  refine pure_fnM body14 (rs := [.tmp 4]) Try.func14 (by kernel_rfl) rfl rfl ?_
  intro l ob v hb hob
  unfold body14 at hb
  split at hb
  · rename_i v0 v1
    injection hb with q1 q2; subst q1 q2
    obtain ⟨hk0, hk1, hob⟩ := hob
    obtain ⟨r, H⟩ := Option.isSome_iff_exists.1 hob
    rw [H, gt_some]
    have hw0 := wA_TWakeRule hk0
    have hw1 := iK_wk hk1
    generalize g_TWakeRule (aL v0) = p0 at H hw0
    generalize iA v1 = p1 at H hw1
    refine ⟨[.agg [.int .i64 p0.Id, .int .i64 p0.Start, .int .i64 p0.Every, .int .i64 p0.Length, .int .i64 p0.Group], .int .i64 p1], _, (fun E vs F => FR_wk1 hw0.1 F (fun vs F => FR_wk1 hw1.1 F (fun vs F => F))), rfl, rfl, ?_⟩
    rw [Try.ntmps14]
    simp only [List.length_cons, List.length_nil, Nat.reduceAdd, Nat.reduceSub, List.replicate_succ, List.replicate_zero, List.cons_append, List.nil_append]
    unfold F14 at H
    try dsimp only at H
    refine sq ctNo_ok ?_
    simp only [go_sem, Nat.reduceLeDiff, Nat.reduceLT, Nat.reduceAdd, Nat.reduceMul, Nat.reduceSub, Nat.reduceEqDiff, Nat.reduceBEq, Int.reduceToNat, reduceCtorEq]
    refine seqM ?_
    refine seqM ?_
    obtain ⟨r1, e2, H⟩ := Option.bind_eq_some_iff.1 H
    refine rg ct14t0_ok ?_
    simp only [go_sem, Nat.reduceLeDiff, Nat.reduceLT, Nat.reduceAdd, Nat.reduceMul, Nat.reduceSub, Nat.reduceEqDiff, Nat.reduceBEq, Int.reduceToNat, reduceCtorEq, ct14t0_17, body17, e2]
    repeat ((with_reducible refine And.intro ?_ ?_); focus (first | (with_reducible trivial) | omega | grind))
    refine condM rfl trivial (fun hc => ?_) (fun hc => ?_)
    · replace H := cond_t hc H
      refine sq ctNo_ok ?_
      simp only [go_sem, Nat.reduceLeDiff, Nat.reduceLT, Nat.reduceAdd, Nat.reduceMul, Nat.reduceSub, Nat.reduceEqDiff, Nat.reduceBEq, Int.reduceToNat, reduceCtorEq]
      refine rg ctNo_ok ?_
      simp only [go_sem, Nat.reduceLeDiff, Nat.reduceLT, Nat.reduceAdd, Nat.reduceMul, Nat.reduceSub, Nat.reduceEqDiff, Nat.reduceBEq, Int.reduceToNat, reduceCtorEq]
      obtain rfl := Option.some.inj H
      first | rfl | simp only [Bool.and_false, Bool.false_and, Bool.and_true, Bool.true_and]
    replace H := cond_f hc H
    refine rg ctNo_ok ?_
    simp only [go_sem, Nat.reduceLeDiff, Nat.reduceLT, Nat.reduceAdd, Nat.reduceMul, Nat.reduceSub, Nat.reduceEqDiff, Nat.reduceBEq, Int.reduceToNat, reduceCtorEq]
    refine sq ctNo_ok ?_
    simp only [go_sem, Nat.reduceLeDiff, Nat.reduceLT, Nat.reduceAdd, Nat.reduceMul, Nat.reduceSub, Nat.reduceEqDiff, Nat.reduceBEq, Int.reduceToNat, reduceCtorEq]
    repeat ((with_reducible refine And.intro ?_ ?_); focus (first | (with_reducible trivial) | omega | grind))
    refine seqM ?_
    refine sq ctNo_ok ?_
    simp only [go_sem, Nat.reduceLeDiff, Nat.reduceLT, Nat.reduceAdd, Nat.reduceMul, Nat.reduceSub, Nat.reduceEqDiff, Nat.reduceBEq, Int.reduceToNat, reduceCtorEq]
    refine condM' rfl trivial (fun hc => ?_) (fun hc => ?_)
    · replace H := cond_f hc H
      refine rg ctNo_ok ?_
      simp only [go_sem, Nat.reduceLeDiff, Nat.reduceLT, Nat.reduceAdd, Nat.reduceMul, Nat.reduceSub, Nat.reduceEqDiff, Nat.reduceBEq, Int.reduceToNat, reduceCtorEq]
      refine sq ctNo_ok ?_
      simp only [go_sem, Nat.reduceLeDiff, Nat.reduceLT, Nat.reduceAdd, Nat.reduceMul, Nat.reduceSub, Nat.reduceEqDiff, Nat.reduceBEq, Int.reduceToNat, reduceCtorEq]
      repeat ((with_reducible refine And.intro ?_ ?_); focus (first | (with_reducible trivial) | omega | grind))
      refine rg ctNo_ok ?_
      simp only [go_sem, Nat.reduceLeDiff, Nat.reduceLT, Nat.reduceAdd, Nat.reduceMul, Nat.reduceSub, Nat.reduceEqDiff, Nat.reduceBEq, Int.reduceToNat, reduceCtorEq]
      obtain rfl := Option.some.inj H
      first | rfl | simp only [Bool.and_false, Bool.false_and, Bool.and_true, Bool.true_and]
    replace H := cond_t hc H
    obtain ⟨f3, H⟩ := need_some.1 H
    replace f3 := ne0_iff.1 f3
    refine rg ctNo_ok ?_
    simp only [go_sem, Nat.reduceLeDiff, Nat.reduceLT, Nat.reduceAdd, Nat.reduceMul, Nat.reduceSub, Nat.reduceEqDiff, Nat.reduceBEq, Int.reduceToNat, reduceCtorEq, f3]
    repeat ((with_reducible refine And.intro ?_ ?_); focus (first | (with_reducible trivial) | omega | grind))
    refine sq ctNo_ok ?_
    simp only [go_sem, Nat.reduceLeDiff, Nat.reduceLT, Nat.reduceAdd, Nat.reduceMul, Nat.reduceSub, Nat.reduceEqDiff, Nat.reduceBEq, Int.reduceToNat, reduceCtorEq]
    repeat ((with_reducible refine And.intro ?_ ?_); focus (first | (with_reducible trivial) | omega | grind))
    refine rg ctNo_ok ?_
    simp only [go_sem, Nat.reduceLeDiff, Nat.reduceLT, Nat.reduceAdd, Nat.reduceMul, Nat.reduceSub, Nat.reduceEqDiff, Nat.reduceBEq, Int.reduceToNat, reduceCtorEq]
    obtain rfl := Option.some.inj H
    first | rfl | simp only [Bool.and_false, Bool.false_and, Bool.and_true, Bool.true_and]
  · cases hb
/-! hotspot/wake.Check -/
noncomputable def ct32t0 : Ct := tab [(17, pureC body17)]
theorem ct32t0_ok : CtOk Try.prog ct32t0 := tab_cons ok17 <| tab_nil
theorem ct32t0_17 (l : List AV) (h : List ABlk) : ct32t0 17 l h = pureC body17 l h := rfl
noncomputable def F32_L1 (p0 : TWakeTable) (v1_1 : Int) : Option (Lp (Int) ((Unit) ⊕ (Int))) :=
  bif (bLt v1_1 (p0.List.length : Nat)) then (need (inb v1_1 p0.List.length) <| (F17 (gd p0.List v1_1.toNat)).bind fun r5 => need (bif ((!(!bEq r5 0)) && (bLt 0 v1_1)) then inb (wr .i64 (v1_1 - 1)) p0.List.length else true) <| bif ((!bEq r5 0) || ((bLt 0 v1_1) && (bLe ((gd p0.List v1_1.toNat).Id) ((gd p0.List ((wr .i64 (v1_1 - 1)).toNat)).Id)))) then (some (.done (.inr 8))) else (some (.next (wr .i64 (v1_1 + 1))))) else (some (.done (.inl ())))
noncomputable def F32 (p0 : TWakeTable) : Option (Int) :=
  bif (bLt 32 (p0.List.length : Nat)) then (some 8) else (lp (loopD (fun s => F32_L1 p0 s) 0) (fun e => some 0) some)
noncomputable def body32 : List AV → AR
  | [v0] => .pure (aK 1 k_TWakeTable v0 ∧ (F32 (g_TWakeTable (aL v0))).isSome = true) (.int .i64 (gt (F32 (g_TWakeTable (aL v0)))))
  | _ => .fail
set_option maxHeartbeats 4000000 in
set_option maxRecDepth 20000 in
theorem ok32 : FnOk Try.prog 32 (pureC body32) := by
  refine pure_fnM body32 (rs := [.tmp 2]) Try.func32 (by kernel_rfl) rfl rfl ?_
  intro l ob v hb hob
  unfold body32 at hb
  split at hb
  · rename_i v0
    injection hb with q1 q2; subst q1 q2
    obtain ⟨hk0, hob⟩ := hob
    obtain ⟨r, H⟩ := Option.isSome_iff_exists.1 hob
    rw [H, gt_some]
    have hw0 := wA_TWakeTable hk0
    generalize g_TWakeTable (aL v0) = p0 at H hw0
    refine ⟨[.agg [.ro 5 p0.List.length false (enR c_TWakeRule p0.List)]], _, (fun E vs F => FR_wk1 hw0.1 F (fun vs F => F)), rfl, rfl, ?_⟩
    rw [Try.ntmps32]
    simp only [List.length_cons, List.length_nil, Nat.reduceAdd, Nat.reduceSub, List.replicate_succ, List.replicate_zero, List.cons_append, List.nil_append]
    unfold F32 at H
    try dsimp only at H
    refine sq ctNo_ok ?_
    simp only [go_sem, Nat.reduceLeDiff, Nat.reduceLT, Nat.reduceAdd, Nat.reduceMul, Nat.reduceSub, Nat.reduceEqDiff, Nat.reduceBEq, Int.reduceToNat, reduceCtorEq]
    refine seqM ?_
    refine sq ctNo_ok ?_
    simp only [go_sem, Nat.reduceLeDiff, Nat.reduceLT, Nat.reduceAdd, Nat.reduceMul, Nat.reduceSub, Nat.reduceEqDiff, Nat.reduceBEq, Int.reduceToNat, reduceCtorEq]
    repeat ((with_reducible refine And.intro ?_ ?_); focus (first | (with_reducible trivial) | omega | grind))
    refine condM rfl trivial (fun hc => ?_) (fun hc => ?_)
    · replace H := cond_t hc H
      refine sq ctNo_ok ?_
      simp only [go_sem, Nat.reduceLeDiff, Nat.reduceLT, Nat.reduceAdd, Nat.reduceMul, Nat.reduceSub, Nat.reduceEqDiff, Nat.reduceBEq, Int.reduceToNat, reduceCtorEq]
      refine rg ctNo_ok ?_
      simp only [go_sem, Nat.reduceLeDiff, Nat.reduceLT, Nat.reduceAdd, Nat.reduceMul, Nat.reduceSub, Nat.reduceEqDiff, Nat.reduceBEq, Int.reduceToNat, reduceCtorEq]
      obtain rfl := Option.some.inj H
      first | rfl | simp only [Bool.and_false, Bool.false_and, Bool.and_true, Bool.true_and]
    replace H := cond_f hc H
    refine rg ctNo_ok ?_
    simp only [go_sem, Nat.reduceLeDiff, Nat.reduceLT, Nat.reduceAdd, Nat.reduceMul, Nat.reduceSub, Nat.reduceEqDiff, Nat.reduceBEq, Int.reduceToNat, reduceCtorEq]
    refine seqM ?_
    refine sq ctNo_ok ?_
    simp only [go_sem, Nat.reduceLeDiff, Nat.reduceLT, Nat.reduceAdd, Nat.reduceMul, Nat.reduceSub, Nat.reduceEqDiff, Nat.reduceBEq, Int.reduceToNat, reduceCtorEq]
    repeat ((with_reducible refine And.intro ?_ ?_); focus (first | (with_reducible trivial) | omega | grind))
    refine blkM ?_
    refine loop_den (fun s : Int => [.top, .ptr 0 0 0 0, .top, .top, .top, .top, .top, .top, .top, .top, .ro 5 p0.List.length false (enR c_TWakeRule p0.List), .int .i64 (p0.List.length : Nat), .int .i64 s, .top, .top, .top, .top, .top, .top, .top, .top, .top, .top, .top, .top, .top, .top, .top, .top, .top, .top, .top, .top, .top, .top, .top, .top]) (fun s => [.lit 37 [.ro 5 p0.List.length false (enR c_TWakeRule p0.List)]]) (fun e : Unit => [.top, .top, .top, .top, .top, .top, .top, .top, .top, .top, .top, .top, .top, .top, .top, .top, .top, .top, .top, .top, .top, .top, .top, .top, .top, .top, .top, .top, .top, .top, .top, .top, .top, .top, .top, .top, .top]) (fun e => [.dead]) H ?_ (fun v1_1 o H hn1_1 hn2_1 => ?_) (fun e H => ?_)
    · refine SubF_of ⟨[some 0], ?_, ?_, by rfl, by rfl⟩
      · simp [CvL, Cv, getM]
      · exact ⟨(by simp [CvB, CvL, Cv, blkAt, geth, getM]), trivial⟩
    · unfold F32_L1 at H
      try dsimp only at H ⊢
      refine sq ctNo_ok ?_
      simp only [go_sem, Nat.reduceLeDiff, Nat.reduceLT, Nat.reduceAdd, Nat.reduceMul, Nat.reduceSub, Nat.reduceEqDiff, Nat.reduceBEq, Int.reduceToNat, reduceCtorEq]
      refine seqM ?_
      refine condM' rfl trivial (fun hc => ?_) (fun hc => ?_)
      · replace H := cond_f hc H
        refine rg ctNo_ok ?_
        simp only [go_sem, Nat.reduceLeDiff, Nat.reduceLT, Nat.reduceAdd, Nat.reduceMul, Nat.reduceSub, Nat.reduceEqDiff, Nat.reduceBEq, Int.reduceToNat, reduceCtorEq]
        refine ⟨_, (Option.some.inj H).symm, ?_⟩
        refine SubF_of ⟨[some 0], ?_, ?_, by rfl, by rfl⟩
        · simp [CvL, Cv, getM]
        · exact ⟨CvB_dead, trivial⟩
      replace H := cond_t hc H
      refine rg ctNo_ok ?_
      simp only [go_sem, Nat.reduceLeDiff, Nat.reduceLT, Nat.reduceAdd, Nat.reduceMul, Nat.reduceSub, Nat.reduceEqDiff, Nat.reduceBEq, Int.reduceToNat, reduceCtorEq]
      refine seqM ?_
      refine blkM ?_
      refine seqM ?_
      obtain ⟨f1, H⟩ := need_some.1 H
      replace f1 := inb_iff.1 f1
      refine rg ctNo_ok ?_
      simp only [go_sem, Nat.reduceLeDiff, Nat.reduceLT, Nat.reduceAdd, Nat.reduceMul, Nat.reduceSub, Nat.reduceEqDiff, Nat.reduceBEq, Int.reduceToNat, reduceCtorEq, f1]
      repeat ((with_reducible refine And.intro ?_ ?_); focus (first | (with_reducible trivial) | omega | grind))
      refine seqM ?_
      obtain ⟨r5, e6, H⟩ := Option.bind_eq_some_iff.1 H
      obtain ⟨f7, H⟩ := need_some.1 H
      replace f7 := g_iff.1 f7
      replace f7 := fun g => inb_iff.1 (f7 g)
      refine draw_quiet shT_ok ct32t0_ok (by kernel_rfl) (by kernel_rfl) ?_
      simp only [go_sem, Nat.reduceLeDiff, Nat.reduceLT, Nat.reduceAdd, Nat.reduceMul, Nat.reduceSub, Nat.reduceEqDiff, Nat.reduceBEq, Int.reduceToNat, reduceCtorEq, ct32t0_17, body17, e6]
      repeat ((with_reducible refine And.intro ?_ ?_); focus (first | (with_reducible trivial) | omega | (intro g; have q := f7 g; first | exact q | exact ⟨q.1, q.2.1⟩ | exact q.2.2 | omega) | grind))
      refine condM rfl trivial (fun hc => ?_) (fun hc => ?_)
      · replace H := cond_t hc H
        refine sq ctNo_ok ?_
        simp only [go_sem, Nat.reduceLeDiff, Nat.reduceLT, Nat.reduceAdd, Nat.reduceMul, Nat.reduceSub, Nat.reduceEqDiff, Nat.reduceBEq, Int.reduceToNat, reduceCtorEq]
        refine rg ctNo_ok ?_
        simp only [go_sem, Nat.reduceLeDiff, Nat.reduceLT, Nat.reduceAdd, Nat.reduceMul, Nat.reduceSub, Nat.reduceEqDiff, Nat.reduceBEq, Int.reduceToNat, reduceCtorEq]
        have H := hn2_1 _ (Option.some.inj H).symm
        obtain rfl := Option.some.inj H
        first | rfl | simp only [Bool.and_false, Bool.false_and, Bool.and_true, Bool.true_and]
      replace H := cond_f hc H
      refine rg ctNo_ok ?_
      simp only [go_sem, Nat.reduceLeDiff, Nat.reduceLT, Nat.reduceAdd, Nat.reduceMul, Nat.reduceSub, Nat.reduceEqDiff, Nat.reduceBEq, Int.reduceToNat, reduceCtorEq]
      refine rg ctNo_ok ?_
      simp only [go_sem, Nat.reduceLeDiff, Nat.reduceLT, Nat.reduceAdd, Nat.reduceMul, Nat.reduceSub, Nat.reduceEqDiff, Nat.reduceBEq, Int.reduceToNat, reduceCtorEq]
      refine ⟨_, (Option.some.inj H).symm, ?_⟩
      refine SubF_of ⟨[some 0], ?_, ?_, by rfl, by rfl⟩
      · simp [CvL, Cv, getM]
      · exact ⟨(by simp [CvB, CvL, Cv, blkAt, geth, getM]), trivial⟩
    · try dsimp only at H ⊢
      try simp only [m_normal, k_normal, b_normal, kL_normal, r_normal]
      refine sq ctNo_ok ?_
      simp only [go_sem, Nat.reduceLeDiff, Nat.reduceLT, Nat.reduceAdd, Nat.reduceMul, Nat.reduceSub, Nat.reduceEqDiff, Nat.reduceBEq, Int.reduceToNat, reduceCtorEq]
      refine rg ctNo_ok ?_
      simp only [go_sem, Nat.reduceLeDiff, Nat.reduceLT, Nat.reduceAdd, Nat.reduceMul, Nat.reduceSub, Nat.reduceEqDiff, Nat.reduceBEq, Int.reduceToNat, reduceCtorEq]
      obtain rfl := Option.some.inj H
      first | rfl | simp only [Bool.and_false, Bool.false_and, Bool.and_true, Bool.true_and]
  · cases hb
/-! hotspot/wake.find$1 -/
noncomputable def F49 (p0 : TWakeRule) (p1 : Int) : Option (Int) :=
  some (wr .i64 (p0.Id - p1))
noncomputable def body49 : List AV → AR
  | [v0, v1] => .pure (aK 5 k_TWakeRule v0 ∧ iK .i64 v1 ∧ (F49 (g_TWakeRule (aL v0)) (iA v1)).isSome = true) (.int .i64 (gt (F49 (g_TWakeRule (aL v0)) (iA v1))))
  | _ => .fail
set_option maxHeartbeats 4000000 in
set_option maxRecDepth 20000 in
theorem ok49 : FnOk Try.prog 49 (pureC body49) := by
  refine pure_fnM body49 (rs := [.tmp 4]) Try.func49 (by kernel_rfl) rfl rfl ?_
  intro l ob v hb hob
  unfold body49 at hb
  split at hb
  · rename_i v0 v1
    injection hb with q1 q2; subst q1 q2
    obtain ⟨hk0, hk1, hob⟩ := hob
    obtain ⟨r, H⟩ := Option.isSome_iff_exists.1 hob
    rw [H, gt_some]
    have hw0 := wA_TWakeRule hk0
    have hw1 := iK_wk hk1
    generalize g_TWakeRule (aL v0) = p0 at H hw0
    generalize iA v1 = p1 at H hw1
    refine ⟨[.agg [.int .i64 p0.Id, .int .i64 p0.Start, .int .i64 p0.Every, .int .i64 p0.Length, .int .i64 p0.Group], .int .i64 p1], _, (fun E vs F => FR_wk1 hw0.1 F (fun vs F => FR_wk1 hw1.1 F (fun vs F => F))), rfl, rfl, ?_⟩
    rw [Try.ntmps49]
    simp only [List.length_cons, List.length_nil, Nat.reduceAdd, Nat.reduceSub, List.replicate_succ, List.replicate_zero, List.cons_append, List.nil_append]
    unfold F49 at H
    try dsimp only at H
    refine sq ctNo_ok ?_
    simp only [go_sem, Nat.reduceLeDiff, Nat.reduceLT, Nat.reduceAdd, Nat.reduceMul, Nat.reduceSub, Nat.reduceEqDiff, Nat.reduceBEq, Int.reduceToNat, reduceCtorEq]
    refine sq ctNo_ok ?_
    simp only [go_sem, Nat.reduceLeDiff, Nat.reduceLT, Nat.reduceAdd, Nat.reduceMul, Nat.reduceSub, Nat.reduceEqDiff, Nat.reduceBEq, Int.reduceToNat, reduceCtorEq]
    refine rg ctNo_ok ?_
    simp only [go_sem, Nat.reduceLeDiff, Nat.reduceLT, Nat.reduceAdd, Nat.reduceMul, Nat.reduceSub, Nat.reduceEqDiff, Nat.reduceBEq, Int.reduceToNat, reduceCtorEq]
    obtain rfl := Option.some.inj H
    first | rfl | simp only [Bool.and_false, Bool.false_and, Bool.and_true, Bool.true_and]
  · cases hb
/-! slices.BinarySearchFunc[[]hotspot/api.WakeRule,hotspot/api.WakeRule,int] -/
noncomputable def ct48_0t0 : Ct := tab [(49, pureC body49)]
theorem ct48_0t0_ok : CtOk Try.prog ct48_0t0 := tab_cons ok49 <| tab_nil
theorem ct48_0t0_49 (l : List AV) (h : List ABlk) : ct48_0t0 49 l h = pureC body49 l h := rfl
noncomputable def F48_0_L1 (p0 : List TWakeRule) (p1 : Int) (v1_1 : Int) (v1_2 : Int) : Option (Lp (Int × Int) ((Int) ⊕ (Int × Bool))) :=
  bif (bLt v1_1 v1_2) then (need (inb (wr .i64 (shrI .u64 (wr .u64 (wr .i64 (v1_1 + v1_2))) 1)) p0.length) <| (F49 (gd p0 ((wr .i64 (shrI .u64 (wr .u64 (wr .i64 (v1_1 + v1_2))) 1)).toNat)) p1).bind fun r2 => bif (bLt r2 0) then (some (.next (wr .i64 ((wr .i64 (shrI .u64 (wr .u64 (wr .i64 (v1_1 + v1_2))) 1)) + 1), v1_2))) else (some (.next (v1_1, wr .i64 (shrI .u64 (wr .u64 (wr .i64 (v1_1 + v1_2))) 1))))) else (some (.done (.inl v1_1)))
noncomputable def F48_0 (p0 : List TWakeRule) (p1 : Int) : Option (Int × Bool) :=
  lp (loopD (fun s => F48_0_L1 p0 p1 s.1 s.2) (0, (p0.length : Nat))) (fun w1_3 => need (bif (bLt w1_3 (p0.length : Nat)) then inb w1_3 p0.length else true) <| need (bif (bLt w1_3 (p0.length : Nat)) then ((F49 (gd p0 w1_3.toNat) p1).isSome) else true) <| some (w1_3, ((bLt w1_3 (p0.length : Nat)) && (bEq (gt (F49 (gd p0 w1_3.toNat) p1)) 0)))) some
noncomputable def body48_0 : List AV → AR
  | [v0, v1, .fn 49 []] => .pure (lK k_TWakeRule 5 v0 ∧ iK .i64 v1 ∧ (F48_0 (lA g_TWakeRule v0) (iA v1)).isSome = true) (.tup [.int .i64 ((gt (F48_0 (lA g_TWakeRule v0) (iA v1))).1), .bool ((gt (F48_0 (lA g_TWakeRule v0) (iA v1))).2)])
  | _ => .fail
set_option maxHeartbeats 4000000 in
set_option maxRecDepth 20000 in
theorem ok48_0 : FnOk Try.prog 48 (pureC body48_0) := by
  refine pure_fnM body48_0 (rs := [.tmp 6, .tmp 7]) Try.func48 (by kernel_rfl) rfl rfl ?_
  intro l ob v hb hob
  unfold body48_0 at hb
  split at hb
  · rename_i v0 v1
    injection hb with q1 q2; subst q1 q2
    obtain ⟨hk0, hk1, hob⟩ := hob
    obtain ⟨r, H⟩ := Option.isSome_iff_exists.1 hob
    rw [H, gt_some]
    have hw0 := lK_wk (fun r h => w_TWakeRule h) hk0
    have hw1 := iK_wk hk1
    generalize lA g_TWakeRule v0 = p0 at H hw0
    generalize iA v1 = p1 at H hw1
    refine ⟨[.ro 5 p0.length false (enR c_TWakeRule p0), .int .i64 p1, .fn 49 []], _, (fun E vs F => FR_wk1 hw0.1 F (fun vs F => FR_wk1 hw1.1 F (fun vs F => FR_wk1 (fn_wk LW_nil) F (fun vs F => F)))), rfl, rfl, ?_⟩
    rw [Try.ntmps48]
    simp only [List.length_cons, List.length_nil, Nat.reduceAdd, Nat.reduceSub, List.replicate_succ, List.replicate_zero, List.cons_append, List.nil_append]
    unfold F48_0 at H
    try dsimp only at H
    refine sq ctNo_ok ?_
    simp only [go_sem, Nat.reduceLeDiff, Nat.reduceLT, Nat.reduceAdd, Nat.reduceMul, Nat.reduceSub, Nat.reduceEqDiff, Nat.reduceBEq, Int.reduceToNat, reduceCtorEq]
    refine sq ctNo_ok ?_
    simp only [go_sem, Nat.reduceLeDiff, Nat.reduceLT, Nat.reduceAdd, Nat.reduceMul, Nat.reduceSub, Nat.reduceEqDiff, Nat.reduceBEq, Int.reduceToNat, reduceCtorEq]
    repeat ((with_reducible refine And.intro ?_ ?_); focus (first | (with_reducible trivial) | omega | grind))
    refine sq ctNo_ok ?_
    simp only [go_sem, Nat.reduceLeDiff, Nat.reduceLT, Nat.reduceAdd, Nat.reduceMul, Nat.reduceSub, Nat.reduceEqDiff, Nat.reduceBEq, Int.reduceToNat, reduceCtorEq]
    refine seqM ?_
    refine blkM ?_
    refine loop_den (fun s : Int × Int => [.ro 5 p0.length false (enR c_TWakeRule p0), .int .i64 p1, .fn 49 [], .top, .top, .top, .top, .top, .int .i64 (p0.length : Nat), .int .i64 s.1, .int .i64 s.2, .top, .top, .top, .top, .top, .top, .top, .top, .top, .top, .top, .top, .top, .top, .top, .top, .top, .top, .top, .top, .top, .top, .top, .top, .top, .top, .top, .top, .top, .top, .top, .top, .top, .top, .top, .top, .top, .top]) (fun s => []) (fun e : Int => [.ro 5 p0.length false (enR c_TWakeRule p0), .int .i64 p1, .fn 49 [], .top, .top, .top, .top, .top, .int .i64 (p0.length : Nat), .int .i64 e, .top, .top, .top, .top, .top, .top, .top, .top, .top, .top, .top, .top, .top, .top, .top, .top, .top, .top, .top, .top, .top, .top, .top, .top, .top, .top, .top, .top, .top, .top, .top, .top, .top, .top, .top, .top, .top, .top, .top]) (fun e => []) H ?_ (fun s o H hn1_1 hn2_1 => ?_) (fun w1_3 H => ?_)
    · refine SubF_of ⟨[], ?_, ?_, by rfl, by rfl⟩
      · simp [CvL, Cv, getM]
      · trivial
    · obtain ⟨v1_1, v1_2⟩ := s
      unfold F48_0_L1 at H
      try dsimp only at H ⊢
      refine seqM ?_
      refine sq ctNo_ok ?_
      simp only [go_sem, Nat.reduceLeDiff, Nat.reduceLT, Nat.reduceAdd, Nat.reduceMul, Nat.reduceSub, Nat.reduceEqDiff, Nat.reduceBEq, Int.reduceToNat, reduceCtorEq]
      refine condM' rfl trivial (fun hc => ?_) (fun hc => ?_)
      · replace H := cond_f hc H
        refine rg ctNo_ok ?_
        simp only [go_sem, Nat.reduceLeDiff, Nat.reduceLT, Nat.reduceAdd, Nat.reduceMul, Nat.reduceSub, Nat.reduceEqDiff, Nat.reduceBEq, Int.reduceToNat, reduceCtorEq]
        refine ⟨_, (Option.some.inj H).symm, ?_⟩
        refine SubF_of ⟨[], ?_, ?_, by rfl, by rfl⟩
        · simp [CvL, Cv, getM]
        · trivial
      replace H := cond_t hc H
      refine rg ctNo_ok ?_
      simp only [go_sem, Nat.reduceLeDiff, Nat.reduceLT, Nat.reduceAdd, Nat.reduceMul, Nat.reduceSub, Nat.reduceEqDiff, Nat.reduceBEq, Int.reduceToNat, reduceCtorEq]
      refine blkM ?_
      refine sq ctNo_ok ?_
      simp only [go_sem, Nat.reduceLeDiff, Nat.reduceLT, Nat.reduceAdd, Nat.reduceMul, Nat.reduceSub, Nat.reduceEqDiff, Nat.reduceBEq, Int.reduceToNat, reduceCtorEq]
      repeat ((with_reducible refine And.intro ?_ ?_); focus (first | (with_reducible trivial) | omega | grind))
      refine seqM ?_
      obtain ⟨f1, H⟩ := need_some.1 H
      replace f1 := inb_iff.1 f1
      obtain ⟨r2, e3, H⟩ := Option.bind_eq_some_iff.1 H
      refine rg ct48_0t0_ok ?_
      simp only [go_sem, Nat.reduceLeDiff, Nat.reduceLT, Nat.reduceAdd, Nat.reduceMul, Nat.reduceSub, Nat.reduceEqDiff, Nat.reduceBEq, Int.reduceToNat, reduceCtorEq, ct48_0t0_49, body49, f1, e3]
      repeat ((with_reducible refine And.intro ?_ ?_); focus (first | (with_reducible trivial) | omega | grind))
      refine condM rfl trivial (fun hc => ?_) (fun hc => ?_)
      · replace H := cond_t hc H
        refine rg ctNo_ok ?_
        simp only [go_sem, Nat.reduceLeDiff, Nat.reduceLT, Nat.reduceAdd, Nat.reduceMul, Nat.reduceSub, Nat.reduceEqDiff, Nat.reduceBEq, Int.reduceToNat, reduceCtorEq]
        refine ⟨_, (Option.some.inj H).symm, ?_⟩
        refine SubF_of ⟨[], ?_, ?_, by rfl, by rfl⟩
        · simp [CvL, Cv, getM]
        · trivial
      replace H := cond_f hc H
      refine rg ctNo_ok ?_
      simp only [go_sem, Nat.reduceLeDiff, Nat.reduceLT, Nat.reduceAdd, Nat.reduceMul, Nat.reduceSub, Nat.reduceEqDiff, Nat.reduceBEq, Int.reduceToNat, reduceCtorEq]
      refine ⟨_, (Option.some.inj H).symm, ?_⟩
      refine SubF_of ⟨[], ?_, ?_, by rfl, by rfl⟩
      · simp [CvL, Cv, getM]
      · trivial
    · try dsimp only at H ⊢
      try simp only [m_normal, k_normal, b_normal, kL_normal, r_normal]
      refine seqM ?_
      obtain ⟨f4, H⟩ := need_some.1 H
      replace f4 := g_iff.1 f4
      replace f4 := fun g => inb_iff.1 (f4 g)
      obtain ⟨f5, H⟩ := need_some.1 H
      replace f5 := g_iff.1 f5
      refine rg ct48_0t0_ok ?_
      simp only [go_sem, Nat.reduceLeDiff, Nat.reduceLT, Nat.reduceAdd, Nat.reduceMul, Nat.reduceSub, Nat.reduceEqDiff, Nat.reduceBEq, Int.reduceToNat, reduceCtorEq, ct48_0t0_49, body49]
      repeat ((with_reducible refine And.intro ?_ ?_); focus (first | (with_reducible trivial) | omega | (intro g; have q := f4 g; first | exact q | exact ⟨q.1, q.2.1⟩ | exact q.2.2 | omega) | (intro g; have q := f5 g; first | exact q | exact ⟨q.1, q.2.1⟩ | exact q.2.2 | omega) | grind))
      refine rg ctNo_ok ?_
      simp only [go_sem, Nat.reduceLeDiff, Nat.reduceLT, Nat.reduceAdd, Nat.reduceMul, Nat.reduceSub, Nat.reduceEqDiff, Nat.reduceBEq, Int.reduceToNat, reduceCtorEq]
      obtain rfl := Option.some.inj H
      first | rfl | simp only [Bool.and_false, Bool.false_and, Bool.and_true, Bool.true_and]
  · cases hb
/-! hotspot/wake.find -/
noncomputable def ct39t0 : Ct := tab [(48, pureC body48_0)]
theorem ct39t0_ok : CtOk Try.prog ct39t0 := tab_cons ok48_0 <| tab_nil
theorem ct39t0_48 (l : List AV) (h : List ABlk) : ct39t0 48 l h = pureC body48_0 l h := rfl
noncomputable def F39 (p0 : TWakeTable) (p1 : Int) : Option (Int × Bool) :=
  (F48_0 p0.List p1).bind fun r1 => some (r1.1, r1.2)
noncomputable def body39 : List AV → AR
  | [v0, v1] => .pure (aK 1 k_TWakeTable v0 ∧ iK .i64 v1 ∧ (F39 (g_TWakeTable (aL v0)) (iA v1)).isSome = true) (.tup [.int .i64 ((gt (F39 (g_TWakeTable (aL v0)) (iA v1))).1), .bool ((gt (F39 (g_TWakeTable (aL v0)) (iA v1))).2)])
  | _ => .fail
set_option maxHeartbeats 4000000 in
set_option maxRecDepth 20000 in
theorem ok39 : FnOk Try.prog 39 (pureC body39) := by
  refine pure_fnM body39 (rs := [.tmp 4, .tmp 5]) Try.func39 (by kernel_rfl) rfl rfl ?_
  intro l ob v hb hob
  unfold body39 at hb
  split at hb
  · rename_i v0 v1
    injection hb with q1 q2; subst q1 q2
    obtain ⟨hk0, hk1, hob⟩ := hob
    obtain ⟨r, H⟩ := Option.isSome_iff_exists.1 hob
    rw [H, gt_some]
    have hw0 := wA_TWakeTable hk0
    have hw1 := iK_wk hk1
    generalize g_TWakeTable (aL v0) = p0 at H hw0
    generalize iA v1 = p1 at H hw1
    refine ⟨[.agg [.ro 5 p0.List.length false (enR c_TWakeRule p0.List)], .int .i64 p1], _, (fun E vs F => FR_wk1 hw0.1 F (fun vs F => FR_wk1 hw1.1 F (fun vs F => F))), rfl, rfl, ?_⟩
    rw [Try.ntmps39]
    simp only [List.length_cons, List.length_nil, Nat.reduceAdd, Nat.reduceSub, List.replicate_succ, List.replicate_zero, List.cons_append, List.nil_append]
    unfold F39 at H
    try dsimp only at H
    refine sq ctNo_ok ?_
    simp only [go_sem, Nat.reduceLeDiff, Nat.reduceLT, Nat.reduceAdd, Nat.reduceMul, Nat.reduceSub, Nat.reduceEqDiff, Nat.reduceBEq, Int.reduceToNat, reduceCtorEq]
    refine seqM ?_
    obtain ⟨r1, e2, H⟩ := Option.bind_eq_some_iff.1 H
    refine rg ct39t0_ok ?_
    simp only [go_sem, Nat.reduceLeDiff, Nat.reduceLT, Nat.reduceAdd, Nat.reduceMul, Nat.reduceSub, Nat.reduceEqDiff, Nat.reduceBEq, Int.reduceToNat, reduceCtorEq, ct39t0_48, body48_0, e2]
    repeat ((with_reducible refine And.intro ?_ ?_); focus (first | (with_reducible trivial) | omega | grind))
    refine rg ctNo_ok ?_
    simp only [go_sem, Nat.reduceLeDiff, Nat.reduceLT, Nat.reduceAdd, Nat.reduceMul, Nat.reduceSub, Nat.reduceEqDiff, Nat.reduceBEq, Int.reduceToNat, reduceCtorEq]
    obtain rfl := Option.some.inj H
    first | rfl | simp only [Bool.and_false, Bool.false_and, Bool.and_true, Bool.true_and]
  · cases hb
/-! slices.Clone[[]hotspot/api.WakeRule,hotspot/api.WakeRule] -/
noncomputable def F41 (p0 : List TWakeRule) : Option (List TWakeRule) :=
  need (capb 40 p0.length) <| some p0
noncomputable def body41 : List AV → Nat → AR
  | [v0], s => .heap (lK k_TWakeRule 5 v0 ∧ (F41 (lA g_TWakeRule v0)).isSome = true) (.sl s 5 0 (gt (F41 (lA g_TWakeRule v0))).length false) [.row 23 5 (gt (F41 (lA g_TWakeRule v0))).length (enR c_TWakeRule (gt (F41 (lA g_TWakeRule v0))))]
  | _, _ => .fail
set_option maxHeartbeats 4000000 in
set_option maxRecDepth 20000 in
theorem ok41 : FnOk Try.prog 41 (genC body41) := by
  refine gen_fn body41 (rs := [.tmp 2]) Try.func41 (by kernel_rfl) rfl rfl ?_
  intro l s ob v ns hb hob
  rcases hb with ⟨hb, rfl⟩ | hb
  · unfold body41 at hb
    split at hb <;> cases hb
  · unfold body41 at hb
    split at hb
    · rename_i v0
      injection hb with q1 q2 q3; subst q1 q2 q3
      obtain ⟨hk0, hob⟩ := hob
      obtain ⟨r, H⟩ := Option.isSome_iff_exists.1 hob
      rw [H, gt_some]
      have hw0 := lK_wk (fun r h => w_TWakeRule h) hk0
      generalize lA g_TWakeRule v0 = p0 at H hw0
      unfold F41 at H
      obtain ⟨f1, H⟩ := need_some.1 H
      replace f1 := capb_iff.1 f1
      obtain rfl := Option.some.inj H
      refine ⟨[.ro 5 p0.length false (enR c_TWakeRule p0)], .sl 0 5 0 p0.length false, [.row 23 5 p0.length (enR c_TWakeRule p0)], (fun E vs F => FR_wk1 hw0.1 F (fun vs F => F)), by simp only [ren, rnN_0], ⟨⟨rfl, rfl, rfl, fun x y _ _ => ren_nref _ (nfR_en nr_TWakeRule)⟩, trivial⟩, ?_⟩
      rw [Try.ntmps41]
      simp only [List.length_cons, List.length_nil, Nat.reduceAdd, Nat.reduceSub, List.replicate_succ, List.replicate_zero, List.cons_append, List.nil_append]
      refine rg ctNo_ok ?_
      have nfs : ∀ x y, nref (enR c_TWakeRule p0 x y) := fun x y => nfR_en nr_TWakeRule
      generalize hc : enR c_TWakeRule p0 = c at nfs hw0
      cases hn : p0.length with
      | zero =>
        simp only [go_sem, Nat.reduceLeDiff, Nat.reduceLT, Nat.reduceAdd, Nat.reduceMul, Nat.reduceSub, Nat.reduceEqDiff, Nat.reduceBEq, Int.reduceToNat, reduceCtorEq]
        have hp : p0 = [] := List.eq_nil_of_length_eq_zero hn
        subst hp; subst hc
        refine ⟨?_, ?_⟩
        · refine ⟨[], ?_, ?_, [none], ?_, ?_, rfl⟩
          · simp only [fzV, fzL, fzOb, fzObL, fzH, fzHF, fzB, fzObB, fzObH, inL, rowOb, geth, cond_true, cond_false, Bool.or_false, Bool.or_true, Bool.false_or, Bool.true_or, and_self, true_and, and_true, Nat.reduceEqDiff, Nat.reduceBEq, beq_self_eq_true, sub_enR0, Nat.reduceAdd, Nat.zero_add, Nat.le_refl, List.nil_append]
          · simp only [fzV, fzL, fzOb, fzObL, fzH, fzHF, fzB, fzObB, fzObH, inL, rowOb, geth, cond_true, cond_false, Bool.or_false, Bool.or_true, Bool.false_or, Bool.true_or, and_self, true_and, and_true, Nat.reduceEqDiff, Nat.reduceBEq, beq_self_eq_true, sub_enR0, Nat.reduceAdd, Nat.zero_add, Nat.le_refl, List.nil_append]
          · simp [fzV, Cv, CvL, getM]
          · simp only [fzV, fzL, fzOb, fzObL, fzH, fzHF, fzB, fzObB, fzObH, inL, rowOb, geth, cond_true, cond_false, Bool.or_false, Bool.or_true, Bool.false_or, Bool.true_or, and_self, true_and, and_true, Nat.reduceEqDiff, Nat.reduceBEq, beq_self_eq_true, sub_enR0, Nat.reduceAdd, Nat.zero_add, Nat.le_refl, List.nil_append, CvH, and_true]; exact CvB_none
        · refine ⟨by omega, [], ?_, ?_, [some 1], ?_, ?_, rfl⟩
          · simp only [fzV, fzL, fzOb, fzObL, fzH, fzHF, fzB, fzObB, fzObH, inL, rowOb, geth, cond_true, cond_false, Bool.or_false, Bool.or_true, Bool.false_or, Bool.true_or, and_self, true_and, and_true, Nat.reduceEqDiff, Nat.reduceBEq, beq_self_eq_true, sub_enR0, Nat.reduceAdd, Nat.zero_add, Nat.le_refl, List.nil_append]
          · simp only [fzV, fzL, fzOb, fzObL, fzH, fzHF, fzB, fzObB, fzObH, inL, rowOb, geth, cond_true, cond_false, Bool.or_false, Bool.or_true, Bool.false_or, Bool.true_or, and_self, true_and, and_true, Nat.reduceEqDiff, Nat.reduceBEq, beq_self_eq_true, sub_enR0, Nat.reduceAdd, Nat.zero_add, Nat.le_refl, List.nil_append]
          · simp [fzV, inL, Cv, CvL, getM]
          · simp only [fzV, fzL, fzOb, fzObL, fzH, fzHF, fzB, fzObB, fzObH, inL, rowOb, geth, cond_true, cond_false, Bool.or_false, Bool.or_true, Bool.false_or, Bool.true_or, and_self, true_and, and_true, Nat.reduceEqDiff, Nat.reduceBEq, beq_self_eq_true, sub_enR0, Nat.reduceAdd, Nat.zero_add, Nat.le_refl, List.nil_append, CvH, and_true]; exact CvB_row0 nr_TWakeRule
      | succ m =>
        simp only [go_sem, Nat.reduceLeDiff, Nat.reduceLT, Nat.reduceAdd, Nat.reduceMul, Nat.reduceSub, Nat.reduceEqDiff, Nat.reduceBEq, Int.reduceToNat, reduceCtorEq]
        refine ⟨by omega, [], ?_, ?_, [some 1], ?_, ?_, rfl⟩
        · simp only [fzV, fzL, fzOb, fzObL, fzH, fzHF, fzB, fzObB, fzObH, inL, rowOb, geth, cond_true, cond_false, Bool.or_false, Bool.or_true, Bool.false_or, Bool.true_or, and_self, true_and, and_true, Nat.reduceEqDiff, Nat.reduceBEq, beq_self_eq_true, sub_enR0, Nat.reduceAdd, Nat.zero_add, Nat.le_refl, List.nil_append]
        · simp only [fzV, fzL, fzOb, fzObL, fzH, fzHF, fzB, fzObB, fzObH, inL, rowOb, geth, cond_true, cond_false, Bool.or_false, Bool.or_true, Bool.false_or, Bool.true_or, and_self, true_and, and_true, Nat.reduceEqDiff, Nat.reduceBEq, beq_self_eq_true, sub_enR0, Nat.reduceAdd, Nat.zero_add, Nat.le_refl, List.nil_append]
        · simp [fzV, inL, Cv, CvL, getM]
        · simp only [fzV, fzL, fzOb, fzObL, fzH, fzHF, fzB, fzObB, fzObH, inL, rowOb, geth, cond_true, cond_false, Bool.or_false, Bool.or_true, Bool.false_or, Bool.true_or, and_self, true_and, and_true, Nat.reduceEqDiff, Nat.reduceBEq, beq_self_eq_true, sub_enR0, Nat.reduceAdd, Nat.zero_add, Nat.le_refl, List.nil_append, CvH, and_true]; rw [← hn, ← hc]; exact CvB_row nr_TWakeRule rfl (fun x y hx hy => by simp only [appC, Nat.not_lt_zero, if_false, Nat.sub_zero])
    · cases hb
/-! slices.Insert[[]hotspot/api.WakeRule,hotspot/api.WakeRule] -/
theorem ext40 : ExtOk Try.prog 50 ovC2 := ov_ext2 (t := 35) (tr := 4) (e := 23) (z := 5) Try.func50 (by kernel_rfl) (by kernel_rfl) (by kernel_rfl) (by kernel_rfl) (by kernel_rfl) (by kernel_rfl)
def ctI40 : Ct := tab [(50, ovC2)]
theorem ctI40_ok : CtOk Try.prog ctI40 := tab_ext ext40 tab_nil
theorem ctI40_eq (l : List AV) (h : List ABlk) : ctI40 50 l h = ovC2 l h := rfl
theorem tik40_0 : tintk Try.prog 2 = true := by kernel_rfl
theorem tik40_1 : tintk Try.prog 35 = false := by kernel_rfl
set_option maxHeartbeats 8000000 in
set_option maxRecDepth 20000 in
theorem okF40 : FnOk Try.prog 40 (insF 23 5) := by
  refine edit1_fn (sh := fun _ => none) (fun _ _ h => by cases h) ctI40_ok (insF 23 5) (rs := [.tmp 6]) Try.func40 (by kernel_rfl) rfl rfl insF_np ?_
  intro E h l vs ob v h' H F hc hob
  unfold insF at hc
  split at hc
  · rename_i b es' i n nl p b2 es3 i2 m nl2
    split at hc
    · rename_i e' es2 NN c hb
      split at hc
      · rename_i e4 es4 N2 d hb2
        injection hc with q1 q2 q3
        subst q1 q2 q3
        obtain ⟨rfl, rfl, rfl, rfl, rfl, hbb, hN, hN2, hpn, hmm, hbig, hfl, hfl2⟩ := hob
        obtain ⟨vs⟩ := vs
        match vs, F.1 with
        | [u1, u2, u3], _ =>
          have hne : geth h b ≠ .dead := by rw [hb]; exact fun e => by cases e
          obtain ⟨cap, hcap, hV⟩ := csl_of_sl (only_sl (F.2 0 _ u1 rfl rfl))
          have g2 := F.2 1 _ u2 rfl rfl
          have g3 := only_ro (b := b) H (F.2 2 _ u3 rfl rfl) hb2 hne hbb hN2 fun x y hx hy => (hfl2 x y hx hy).1
          obtain rfl := VR_int g2
          refine ⟨b, 23, 5, NN, c, n + m, insA i p m c (subC i2 d), [.csl 0 5 i n cap, .int .i64 p, .ro 5 m nl2 (subC i2 d)], hb, fun x y hx hy => (hfl x y hx hy).1, fun x y hx hy => ?_, rfl, rfl, ?_, ?_⟩
          · unfold insA subC
            split
            · exact hfl _ _ (by omega) hy
            · split
              · exact hfl2 _ _ (by omega) hy
              · exact hfl _ _ (by omega) hy
          · refine ⟨rfl, fun j a w ha hw => ?_⟩
            match j with
            | 0 => simp at ha hw; subst ha hw; exact hV
            | 1 => simp at ha hw; subst ha hw; exact .int _ _
            | 2 => simp at ha hw; subst ha hw; exact g3
            | j + 3 => simp at ha
          · rw [Try.ntmps40]
            show wpC _ _ _ _ _ [.csl 0 5 i n cap, .int .i64 p, .ro 5 m nl2 (subC i2 d), .top, .top, .top, .top, .top, .top, .top, .top, .top, .top, .top, .top, .top, .top, .top, .top, .top, .top, .top, .top, .top, .top, .top, .top, .top, .top, .top, .top, .top, .top, .top, .top, .top, .top, .top, .top, .top, .top, .top, .top, .top, .top, .top, .top, .top, .top, .top, .top, .top, .top, .top, .top, .top, .top, .top, .top, .top, .top, .top, .top, .top, .top, .top, .top, .top, .top, .top, .top, .top, .top, .top, .top, .top, .top, .top, .top, .top, .top, .top, .top, .top, .top, .top, .top, .top, .top, .top, .top, .top, .top, .top, .top] _
            have hm0 : 0 < m := by omega
            have hm1 : ((m : Int) == 0) = false := by simp; omega
            rcases Nat.lt_or_ge p n with hp | hp
            · have hpq : ((p : Int) == (n : Int)) = false := by simp; omega
              have w1 : wr .i64 ((n : Int) + (m : Int)) = ((n + m : Nat) : Int) := by unfold wr; rw [IntWalk.i64_in _ (by omega)]; omega
              have w2 : wr .i64 (((n + m : Nat) : Int) - (p : Int)) = ((n + m - p : Nat) : Int) := by unfold wr; rw [IntWalk.i64_in _ (by omega)]; omega
              have w3 : wr .i64 ((p : Int) + (m : Int)) = ((p + m : Nat) : Int) := by unfold wr; rw [IntWalk.i64_in _ (by omega)]; omega
              have hpm : p + (n + m - p) = n + m := by omega
              have mn1 : min m (n + m - p) = m := by omega
              have mn2 : min (n - p) (n + m - (p + m)) = n - p := by omega
              have mn3 : min (n + m - p) (n + m - (p + m)) = n - p := by omega
              have fin : ∀ x y, x < n + m → insA i p m c (subC i2 d) x y = insA i p m c (subC i2 d) x y := fun _ _ _ => rfl
              by_cases hroom : n + m ≤ cap
              · have hg : decide ((cap : Int) < ((n + m : Nat) : Int)) = false := by simp; omega
                simp only [go_sem, Nat.reduceLeDiff, Nat.reduceLT, Nat.reduceAdd, Nat.reduceMul, Nat.reduceSub, Nat.reduceEqDiff, Nat.reduceBEq, Int.reduceToNat, reduceCtorEq, evCopy, evCopyR, lenS, cutS, evClear, evClearR, evCap, evAppZ, tik40_0, tik40_1, bEq, Option.isSome_some, Option.isNone_some, Option.isSome_none, Option.isNone_none, Int.ofNat_eq_natCast, Int.toNat_natCast, hm1, hpq, hg, Nat.sub_zero, bLt, bLe, w1, w2, w3, hpm, mn1, mn2, mn3, ctI40_eq, ovC2, slB, Nat.add_zero, Nat.zero_add]
                refine ⟨by omega, by omega, by omega, by omega, ?_⟩
                refine draw_rule (sh := fun _ => none) (fun _ _ h => by cases h) ctI40_ok 0 (by kernel_rfl) (by kernel_rfl) ?_
                intro an han
                simp only [go_sem, Nat.reduceLeDiff, Nat.reduceLT, Nat.reduceAdd, Nat.reduceMul, Nat.reduceSub, Nat.reduceEqDiff, Nat.reduceBEq, Int.reduceToNat, reduceCtorEq, evCopy, evCopyR, lenS, cutS, evClear, evClearR, evCap, evAppZ, tik40_0, tik40_1, bEq, Option.isSome_some, Option.isNone_some, Option.isSome_none, Option.isNone_none, Int.ofNat_eq_natCast, Int.toNat_natCast, hm1, hpq, hg, Nat.sub_zero, bLt, bLe, w1, w2, w3, hpm, mn1, mn2, mn3, ctI40_eq, ovC2, slB, Nat.add_zero, Nat.zero_add, d_nil, d_cons, nxtD, refsOp, refs, refsL, mask, maskF, place, placeF, okLog, pairOk, hit, inL, slotsF, ren, renL, rnN, nrH, nrB, nrL, nr, dead0, deadS, List.replicate_zero, List.replicate_succ, Bool.or_false, Bool.false_or, Bool.or_true, Bool.true_or, Bool.and_false, Bool.false_and, Nat.sub_self, Nat.add_zero, Nat.zero_add, Nat.reduceSub, Nat.not_lt_zero, Nat.zero_le, Nat.lt_add_one]
                refine ⟨by omega, by omega, by omega, by omega, by omega, ?_⟩
                refine conv_move (b := 0) rfl (by omega) (by omega) fun x y hx hy => ?_
                unfold ovwC insA subC
                by_cases hxp : x < p
                · rw [if_neg (by omega), if_neg (by omega), if_pos hxp]
                · rw [if_neg hxp]
                  by_cases hxm : x < p + m
                  · rw [if_pos (by omega), if_pos hxm]
                    congr 1
                    omega
                  · rw [if_neg (by omega), if_pos (by omega), if_neg hxm]
                    congr 1
                    omega
              · have hg : decide ((cap : Int) < ((n + m : Nat) : Int)) = true := by simp; omega
                have hd : decide (cap < n + m) = true := by simp; omega
                simp only [go_sem, Nat.reduceLeDiff, Nat.reduceLT, Nat.reduceAdd, Nat.reduceMul, Nat.reduceSub, Nat.reduceEqDiff, Nat.reduceBEq, Int.reduceToNat, reduceCtorEq, evCopy, evCopyR, lenS, cutS, evClear, evClearR, evCap, evAppZ, tik40_0, tik40_1, bEq, Option.isSome_some, Option.isNone_some, Option.isSome_none, Option.isNone_none, Int.ofNat_eq_natCast, Int.toNat_natCast, hm1, hpq, hg, hd, Nat.sub_zero, bLt, bLe, w1, w2, w3, hpm, mn1, mn2, mn3, ctI40_eq, ovC2, slB, Nat.add_zero, Nat.zero_add]
                refine ⟨by omega, by omega, by omega, by omega, by omega, ?_⟩
                refine draw_rule (sh := fun _ => none) (fun _ _ h => by cases h) ctI40_ok 0 (by kernel_rfl) (by kernel_rfl) ?_
                intro an han
                simp only [go_sem, Nat.reduceLeDiff, Nat.reduceLT, Nat.reduceAdd, Nat.reduceMul, Nat.reduceSub, Nat.reduceEqDiff, Nat.reduceBEq, Int.reduceToNat, reduceCtorEq, evCopy, evCopyR, lenS, cutS, evClear, evClearR, evCap, evAppZ, tik40_0, tik40_1, bEq, Option.isSome_some, Option.isNone_some, Option.isSome_none, Option.isNone_none, Int.ofNat_eq_natCast, Int.toNat_natCast, hm1, hpq, hg, hd, Nat.sub_zero, bLt, bLe, w1, w2, w3, hpm, mn1, mn2, mn3, ctI40_eq, ovC2, slB, Nat.add_zero, Nat.zero_add, d_nil, d_cons, nxtD, refsOp, refs, refsL, mask, maskF, place, placeF, okLog, pairOk, hit, inL, slotsF, ren, renL, rnN, nrH, nrB, nrL, nr, dead0, deadS, List.replicate_zero, List.replicate_succ, Bool.or_false, Bool.false_or, Bool.or_true, Bool.true_or, Bool.and_false, Bool.false_and, Nat.sub_self, Nat.add_zero, Nat.zero_add, Nat.reduceSub, Nat.not_lt_zero, Nat.zero_le, Nat.lt_add_one]
                refine ⟨by omega, by omega, by omega, ?_⟩
                refine conv_two (by omega) fun x y hx hy => ?_
                unfold ovwC appC insA subC
                by_cases hxp : x < p
                · rw [if_neg (by omega), if_neg (by omega), if_pos hxp, if_pos hxp]
                · by_cases hxm : x < p + m
                  · rw [if_neg (by omega), if_pos (by omega), if_neg hxp, if_pos hxm]
                  · rw [if_pos (by omega), if_neg hxp, if_neg hxm]
                    congr 1
                    omega
            · obtain rfl : p = n := by omega
              have hpq : ((p : Int) == (p : Int)) = true := by simp
              by_cases hroom : p + m ≤ cap
              · have hd1 : decide (p + m ≤ cap) = true := by simpa using hroom
                simp only [go_sem, Nat.reduceLeDiff, Nat.reduceLT, Nat.reduceAdd, Nat.reduceMul, Nat.reduceSub, Nat.reduceEqDiff, Nat.reduceBEq, Int.reduceToNat, reduceCtorEq, evCopy, evCopyR, lenS, cutS, evClear, evClearR, evCap, evAppZ, tik40_0, tik40_1, bEq, Option.isSome_some, Option.isNone_some, Option.isSome_none, Option.isNone_none, Int.ofNat_eq_natCast, Int.toNat_natCast, hm1, hpq, hd1, Nat.sub_zero]
                refine ⟨by omega, by omega, ?_⟩
                refine conv_move (b := 0) rfl (by omega) (by omega) fun x y hx hy => ?_
                unfold ovwC insA
                by_cases hxp : x < p
                · rw [if_neg (by omega), if_pos hxp]
                · rw [if_pos (by omega), if_neg hxp, if_pos (by omega)]
                  congr 1
                  omega
              · have hd1 : decide (p + m ≤ cap) = false := by simpa using hroom
                simp only [go_sem, Nat.reduceLeDiff, Nat.reduceLT, Nat.reduceAdd, Nat.reduceMul, Nat.reduceSub, Nat.reduceEqDiff, Nat.reduceBEq, Int.reduceToNat, reduceCtorEq, evCopy, evCopyR, lenS, cutS, evClear, evClearR, evCap, evAppZ, tik40_0, tik40_1, bEq, Option.isSome_some, Option.isNone_some, Option.isSome_none, Option.isNone_none, Int.ofNat_eq_natCast, Int.toNat_natCast, hm1, hpq, hd1, Nat.sub_zero]
                refine ⟨by omega, by omega, ?_⟩
                refine conv_two (Nat.le_refl _) fun x y hx hy => ?_
                unfold appC insA subC
                by_cases hxp : x < p
                · rw [if_pos hxp, if_pos hxp]
                · rw [if_neg hxp, if_neg hxp, if_pos (by omega)]
      · cases hc
    · cases hc
  · cases hc
theorem ok40 : FnOk Try.prog 40 (insN 23 5) := insN_ok okF40
/-! hotspot/wake.Add -/
noncomputable def ct24t0 : Ct := tab [(32, pureC body32)]
theorem ct24t0_ok : CtOk Try.prog ct24t0 := tab_cons ok32 <| tab_nil
theorem ct24t0_32 (l : List AV) (h : List ABlk) : ct24t0 32 l h = pureC body32 l h := rfl
noncomputable def ct24t1 : Ct := tab [(39, pureC body39)]
theorem ct24t1_ok : CtOk Try.prog ct24t1 := tab_cons ok39 <| tab_nil
theorem ct24t1_39 (l : List AV) (h : List ABlk) : ct24t1 39 l h = pureC body39 l h := rfl
noncomputable def ct24t2 : Ct := tab [(17, pureC body17)]
theorem ct24t2_ok : CtOk Try.prog ct24t2 := tab_cons ok17 <| tab_nil
theorem ct24t2_17 (l : List AV) (h : List ABlk) : ct24t2 17 l h = pureC body17 l h := rfl
noncomputable def ct24t3 : Ct := tab [(40, insN 23 5), (41, genC body41)]
theorem ct24t3_ok : CtOk Try.prog ct24t3 := tab_cons ok40 <| tab_cons ok41 <| tab_nil
theorem ct24t3_40 (l : List AV) (h : List ABlk) : ct24t3 40 l h = insN 23 5 l h := rfl
theorem ct24t3_41 (l : List AV) (h : List ABlk) : ct24t3 41 l h = genC body41 l h := rfl
noncomputable def F24 (p0 : TWakeTable) (p1 : TWakeRule) : Option (TWakeTable × Int) :=
  (F32 p0).bind fun r1 => bif (!bEq r1 0) then (some ((TWakeTable.mk []), r1)) else ((F39 p0 p1.Id).bind fun r3 => (F17 p1).bind fun r5 => bif (!bEq r5 0) then (some ((TWakeTable.mk []), 2)) else (bif r3.2 then (some ((TWakeTable.mk []), 20)) else (bif (bEq (p0.List.length : Nat) 32) then (some ((TWakeTable.mk []), 22)) else ((F41 p0.List).bind fun r10 => need (insb r3.1 r10.length) <| (some [p1]).bind fun w13 => (some (insL r10 r3.1 [p1])).bind fun w15 => some ((TWakeTable.mk w15), 0)))))
noncomputable def body24 : List AV → Nat → AR
  | [v0, v1], _ => .pure (aK 1 k_TWakeTable v0 ∧ aK 5 k_TWakeRule v1 ∧ (F24 (g_TWakeTable (aL v0)) (g_TWakeRule (aL v1))).isSome = true) (.tup [.agg [.ro 5 ((((gt (F24 (g_TWakeTable (aL v0)) (g_TWakeRule (aL v1)))).1).List).length) false (enR c_TWakeRule (((gt (F24 (g_TWakeTable (aL v0)) (g_TWakeRule (aL v1)))).1).List))], .int .i64 ((gt (F24 (g_TWakeTable (aL v0)) (g_TWakeRule (aL v1)))).2)])
  | _, _ => .fail
set_option maxHeartbeats 4000000 in
set_option maxRecDepth 20000 in
theorem ok24 : FnOk Try.prog 24 (genC body24) := by
  refine gen_fn body24 (rs := [.cell 4 37, .tmp 5]) Try.func24 (by kernel_rfl) rfl rfl ?_
  intro l s ob v ns hb hob
  rcases hb with ⟨hb, rfl⟩ | hb
  · unfold body24 at hb
    split at hb
    · rename_i v0 v1
      injection hb with q1 q2; subst q1 q2
      obtain ⟨hk0, hk1, hob⟩ := hob
      obtain ⟨r, H⟩ := Option.isSome_iff_exists.1 hob
      rw [H, gt_some]
      have hw0 := wA_TWakeTable hk0
      have hw1 := wA_TWakeRule hk1
      generalize g_TWakeTable (aL v0) = p0 at H hw0
      generalize g_TWakeRule (aL v1) = p1 at H hw1
      refine ⟨[.agg [.ro 5 p0.List.length false (enR c_TWakeRule p0.List)], .agg [.int .i64 p1.Id, .int .i64 p1.Start, .int .i64 p1.Every, .int .i64 p1.Length, .int .i64 p1.Group]], .tup [.agg [.ro 5 r.1.List.length false (enR c_TWakeRule r.1.List)], .int .i64 r.2], [], (fun E vs F => FR_wk1 hw0.1 F (fun vs F => FR_wk1 hw1.1 F (fun vs F => F))), by simp only [ren, renL], trivial, ?_⟩
      rw [Try.ntmps24]
      simp only [List.length_cons, List.length_nil, Nat.reduceAdd, Nat.reduceSub, List.replicate_succ, List.replicate_zero, List.cons_append, List.nil_append]
      unfold F24 at H
      try dsimp only at H
      refine sq ctNo_ok ?_
      simp only [go_sem, Nat.reduceLeDiff, Nat.reduceLT, Nat.reduceAdd, Nat.reduceMul, Nat.reduceSub, Nat.reduceEqDiff, Nat.reduceBEq, Int.reduceToNat, reduceCtorEq]
      refine seqM ?_
      refine seqM ?_
      obtain ⟨r1, e2, H⟩ := Option.bind_eq_some_iff.1 H
      refine rg ct24t0_ok ?_
      simp only [go_sem, Nat.reduceLeDiff, Nat.reduceLT, Nat.reduceAdd, Nat.reduceMul, Nat.reduceSub, Nat.reduceEqDiff, Nat.reduceBEq, Int.reduceToNat, reduceCtorEq, ct24t0_32, body32, e2]
      repeat ((with_reducible refine And.intro ?_ ?_); focus (first | (with_reducible trivial) | omega | grind))
      refine sq ctNo_ok ?_
      simp only [go_sem, Nat.reduceLeDiff, Nat.reduceLT, Nat.reduceAdd, Nat.reduceMul, Nat.reduceSub, Nat.reduceEqDiff, Nat.reduceBEq, Int.reduceToNat, reduceCtorEq]
      refine condM rfl trivial (fun hc => ?_) (fun hc => ?_)
      · replace H := cond_t hc H
        refine sq ctNo_ok ?_
        simp only [go_sem, Nat.reduceLeDiff, Nat.reduceLT, Nat.reduceAdd, Nat.reduceMul, Nat.reduceSub, Nat.reduceEqDiff, Nat.reduceBEq, Int.reduceToNat, reduceCtorEq]
        repeat ((with_reducible refine And.intro ?_ ?_); focus (first | (with_reducible trivial) | omega | grind))
        refine rg ctNo_ok ?_
        simp only [go_sem, Nat.reduceLeDiff, Nat.reduceLT, Nat.reduceAdd, Nat.reduceMul, Nat.reduceSub, Nat.reduceEqDiff, Nat.reduceBEq, Int.reduceToNat, reduceCtorEq]
        obtain rfl := Option.some.inj H
        refine ⟨[0, 1, 2], ?_, ?_, [], ?_, ?_, rfl⟩
        · simp only [fzV, fzL, fzOb, fzObL, fzH, fzHF, fzB, fzObB, fzObH, inL, rowOb, geth, cond_true, cond_false, Bool.or_false, Bool.or_true, Bool.false_or, Bool.true_or, and_self, true_and, and_true, Nat.reduceEqDiff, Nat.reduceBEq, beq_self_eq_true, sub_enR0, Nat.reduceAdd, Nat.zero_add, Nat.le_refl, List.nil_append]
          try (and_intros <;> first | trivial | omega | (intro x y _ _; repeat (first | exact nfR_lit (by simp only [nrefL, nref, and_self]) | exact nfR_en nr_i64 | exact nfR_en nr_b | exact nfR_en nr_TWakeRule | exact nfR_en nr_lTWakeRule | exact nfR_en nr_TWakeTable | exact nfR_en nr_li64 | exact nfR_en nr_u64 | (refine nfR_app (fun x y => ?_) (fun x y => ?_)) | (refine nfR_ins (fun x y => ?_) (fun x y => ?_)) | (refine nfR_del (fun x y => ?_)))))
        · simp only [fzV, fzL, fzOb, fzObL, fzH, fzHF, fzB, fzObB, fzObH, inL, rowOb, geth, cond_true, cond_false, Bool.or_false, Bool.or_true, Bool.false_or, Bool.true_or, and_self, true_and, and_true, Nat.reduceEqDiff, Nat.reduceBEq, beq_self_eq_true, sub_enR0, Nat.reduceAdd, Nat.zero_add, Nat.le_refl, List.nil_append]
          try (and_intros <;> first | trivial | omega | (intro x y _ _; repeat (first | exact nfR_lit (by simp only [nrefL, nref, and_self]) | exact nfR_en nr_i64 | exact nfR_en nr_b | exact nfR_en nr_TWakeRule | exact nfR_en nr_lTWakeRule | exact nfR_en nr_TWakeTable | exact nfR_en nr_li64 | exact nfR_en nr_u64 | (refine nfR_app (fun x y => ?_) (fun x y => ?_)) | (refine nfR_ins (fun x y => ?_) (fun x y => ?_)) | (refine nfR_del (fun x y => ?_)))))
        · simp only [fzV, fzL, fzOb, fzObL, fzH, fzHF, fzB, fzObB, fzObH, inL, rowOb, geth, cond_true, cond_false, Bool.or_false, Bool.or_true, Bool.false_or, Bool.true_or, and_self, true_and, and_true, Nat.reduceEqDiff, Nat.reduceBEq, beq_self_eq_true, sub_enR0, Nat.reduceAdd, Nat.zero_add, Nat.le_refl, List.nil_append]
          exact Cv_tup (CvL_cons (Cv_agg (CvL_cons Cv_ronil CvL_nil)) (CvL_cons Cv_int CvL_nil))
        · simp only [fzV, fzL, fzOb, fzObL, fzH, fzHF, fzB, fzObB, fzObH, inL, rowOb, geth, cond_true, cond_false, Bool.or_false, Bool.or_true, Bool.false_or, Bool.true_or, and_self, true_and, and_true, Nat.reduceEqDiff, Nat.reduceBEq, beq_self_eq_true, sub_enR0, Nat.reduceAdd, Nat.zero_add, Nat.le_refl, List.nil_append, CvH]
      replace H := cond_f hc H
      refine rg ctNo_ok ?_
      simp only [go_sem, Nat.reduceLeDiff, Nat.reduceLT, Nat.reduceAdd, Nat.reduceMul, Nat.reduceSub, Nat.reduceEqDiff, Nat.reduceBEq, Int.reduceToNat, reduceCtorEq]
      refine seqM ?_
      obtain ⟨r3, e4, H⟩ := Option.bind_eq_some_iff.1 H
      refine rg ct24t1_ok ?_
      simp only [go_sem, Nat.reduceLeDiff, Nat.reduceLT, Nat.reduceAdd, Nat.reduceMul, Nat.reduceSub, Nat.reduceEqDiff, Nat.reduceBEq, Int.reduceToNat, reduceCtorEq, ct24t1_39, body39, e4]
      repeat ((with_reducible refine And.intro ?_ ?_); focus (first | (with_reducible trivial) | omega | grind))
      refine seqM ?_
      refine blkM ?_
      refine seqM ?_
      obtain ⟨r5, e6, H⟩ := Option.bind_eq_some_iff.1 H
      refine rg ct24t2_ok ?_
      simp only [go_sem, Nat.reduceLeDiff, Nat.reduceLT, Nat.reduceAdd, Nat.reduceMul, Nat.reduceSub, Nat.reduceEqDiff, Nat.reduceBEq, Int.reduceToNat, reduceCtorEq, ct24t2_17, body17, e6]
      repeat ((with_reducible refine And.intro ?_ ?_); focus (first | (with_reducible trivial) | omega | grind))
      refine condM rfl trivial (fun hc => ?_) (fun hc => ?_)
      · replace H := cond_t hc H
        refine sq ctNo_ok ?_
        simp only [go_sem, Nat.reduceLeDiff, Nat.reduceLT, Nat.reduceAdd, Nat.reduceMul, Nat.reduceSub, Nat.reduceEqDiff, Nat.reduceBEq, Int.reduceToNat, reduceCtorEq]
        repeat ((with_reducible refine And.intro ?_ ?_); focus (first | (with_reducible trivial) | omega | grind))
        refine rg ctNo_ok ?_
        simp only [go_sem, Nat.reduceLeDiff, Nat.reduceLT, Nat.reduceAdd, Nat.reduceMul, Nat.reduceSub, Nat.reduceEqDiff, Nat.reduceBEq, Int.reduceToNat, reduceCtorEq]
        obtain rfl := Option.some.inj H
        refine ⟨[0, 1, 2], ?_, ?_, [], ?_, ?_, rfl⟩
        · simp only [fzV, fzL, fzOb, fzObL, fzH, fzHF, fzB, fzObB, fzObH, inL, rowOb, geth, cond_true, cond_false, Bool.or_false, Bool.or_true, Bool.false_or, Bool.true_or, and_self, true_and, and_true, Nat.reduceEqDiff, Nat.reduceBEq, beq_self_eq_true, sub_enR0, Nat.reduceAdd, Nat.zero_add, Nat.le_refl, List.nil_append]
          try (and_intros <;> first | trivial | omega | (intro x y _ _; repeat (first | exact nfR_lit (by simp only [nrefL, nref, and_self]) | exact nfR_en nr_i64 | exact nfR_en nr_b | exact nfR_en nr_TWakeRule | exact nfR_en nr_lTWakeRule | exact nfR_en nr_TWakeTable | exact nfR_en nr_li64 | exact nfR_en nr_u64 | (refine nfR_app (fun x y => ?_) (fun x y => ?_)) | (refine nfR_ins (fun x y => ?_) (fun x y => ?_)) | (refine nfR_del (fun x y => ?_)))))
        · simp only [fzV, fzL, fzOb, fzObL, fzH, fzHF, fzB, fzObB, fzObH, inL, rowOb, geth, cond_true, cond_false, Bool.or_false, Bool.or_true, Bool.false_or, Bool.true_or, and_self, true_and, and_true, Nat.reduceEqDiff, Nat.reduceBEq, beq_self_eq_true, sub_enR0, Nat.reduceAdd, Nat.zero_add, Nat.le_refl, List.nil_append]
          try (and_intros <;> first | trivial | omega | (intro x y _ _; repeat (first | exact nfR_lit (by simp only [nrefL, nref, and_self]) | exact nfR_en nr_i64 | exact nfR_en nr_b | exact nfR_en nr_TWakeRule | exact nfR_en nr_lTWakeRule | exact nfR_en nr_TWakeTable | exact nfR_en nr_li64 | exact nfR_en nr_u64 | (refine nfR_app (fun x y => ?_) (fun x y => ?_)) | (refine nfR_ins (fun x y => ?_) (fun x y => ?_)) | (refine nfR_del (fun x y => ?_)))))
        · simp only [fzV, fzL, fzOb, fzObL, fzH, fzHF, fzB, fzObB, fzObH, inL, rowOb, geth, cond_true, cond_false, Bool.or_false, Bool.or_true, Bool.false_or, Bool.true_or, and_self, true_and, and_true, Nat.reduceEqDiff, Nat.reduceBEq, beq_self_eq_true, sub_enR0, Nat.reduceAdd, Nat.zero_add, Nat.le_refl, List.nil_append]
          exact Cv_tup (CvL_cons (Cv_agg (CvL_cons Cv_ronil CvL_nil)) (CvL_cons Cv_int CvL_nil))
        · simp only [fzV, fzL, fzOb, fzObL, fzH, fzHF, fzB, fzObB, fzObH, inL, rowOb, geth, cond_true, cond_false, Bool.or_false, Bool.or_true, Bool.false_or, Bool.true_or, and_self, true_and, and_true, Nat.reduceEqDiff, Nat.reduceBEq, beq_self_eq_true, sub_enR0, Nat.reduceAdd, Nat.zero_add, Nat.le_refl, List.nil_append, CvH]
      replace H := cond_f hc H
      refine sq ctNo_ok ?_
      simp only [go_sem, Nat.reduceLeDiff, Nat.reduceLT, Nat.reduceAdd, Nat.reduceMul, Nat.reduceSub, Nat.reduceEqDiff, Nat.reduceBEq, Int.reduceToNat, reduceCtorEq]
      refine condM rfl trivial (fun hc => ?_) (fun hc => ?_)
      · replace H := cond_t hc H
        refine sq ctNo_ok ?_
        simp only [go_sem, Nat.reduceLeDiff, Nat.reduceLT, Nat.reduceAdd, Nat.reduceMul, Nat.reduceSub, Nat.reduceEqDiff, Nat.reduceBEq, Int.reduceToNat, reduceCtorEq]
        repeat ((with_reducible refine And.intro ?_ ?_); focus (first | (with_reducible trivial) | omega | grind))
        refine rg ctNo_ok ?_
        simp only [go_sem, Nat.reduceLeDiff, Nat.reduceLT, Nat.reduceAdd, Nat.reduceMul, Nat.reduceSub, Nat.reduceEqDiff, Nat.reduceBEq, Int.reduceToNat, reduceCtorEq]
        obtain rfl := Option.some.inj H
        refine ⟨[0, 1, 2], ?_, ?_, [], ?_, ?_, rfl⟩
        · simp only [fzV, fzL, fzOb, fzObL, fzH, fzHF, fzB, fzObB, fzObH, inL, rowOb, geth, cond_true, cond_false, Bool.or_false, Bool.or_true, Bool.false_or, Bool.true_or, and_self, true_and, and_true, Nat.reduceEqDiff, Nat.reduceBEq, beq_self_eq_true, sub_enR0, Nat.reduceAdd, Nat.zero_add, Nat.le_refl, List.nil_append]
          try (and_intros <;> first | trivial | omega | (intro x y _ _; repeat (first | exact nfR_lit (by simp only [nrefL, nref, and_self]) | exact nfR_en nr_i64 | exact nfR_en nr_b | exact nfR_en nr_TWakeRule | exact nfR_en nr_lTWakeRule | exact nfR_en nr_TWakeTable | exact nfR_en nr_li64 | exact nfR_en nr_u64 | (refine nfR_app (fun x y => ?_) (fun x y => ?_)) | (refine nfR_ins (fun x y => ?_) (fun x y => ?_)) | (refine nfR_del (fun x y => ?_)))))
        · simp only [fzV, fzL, fzOb, fzObL, fzH, fzHF, fzB, fzObB, fzObH, inL, rowOb, geth, cond_true, cond_false, Bool.or_false, Bool.or_true, Bool.false_or, Bool.true_or, and_self, true_and, and_true, Nat.reduceEqDiff, Nat.reduceBEq, beq_self_eq_true, sub_enR0, Nat.reduceAdd, Nat.zero_add, Nat.le_refl, List.nil_append]
          try (and_intros <;> first | trivial | omega | (intro x y _ _; repeat (first | exact nfR_lit (by simp only [nrefL, nref, and_self]) | exact nfR_en nr_i64 | exact nfR_en nr_b | exact nfR_en nr_TWakeRule | exact nfR_en nr_lTWakeRule | exact nfR_en nr_TWakeTable | exact nfR_en nr_li64 | exact nfR_en nr_u64 | (refine nfR_app (fun x y => ?_) (fun x y => ?_)) | (refine nfR_ins (fun x y => ?_) (fun x y => ?_)) | (refine nfR_del (fun x y => ?_)))))
        · simp only [fzV, fzL, fzOb, fzObL, fzH, fzHF, fzB, fzObB, fzObH, inL, rowOb, geth, cond_true, cond_false, Bool.or_false, Bool.or_true, Bool.false_or, Bool.true_or, and_self, true_and, and_true, Nat.reduceEqDiff, Nat.reduceBEq, beq_self_eq_true, sub_enR0, Nat.reduceAdd, Nat.zero_add, Nat.le_refl, List.nil_append]
          exact Cv_tup (CvL_cons (Cv_agg (CvL_cons Cv_ronil CvL_nil)) (CvL_cons Cv_int CvL_nil))
        · simp only [fzV, fzL, fzOb, fzObL, fzH, fzHF, fzB, fzObB, fzObH, inL, rowOb, geth, cond_true, cond_false, Bool.or_false, Bool.or_true, Bool.false_or, Bool.true_or, and_self, true_and, and_true, Nat.reduceEqDiff, Nat.reduceBEq, beq_self_eq_true, sub_enR0, Nat.reduceAdd, Nat.zero_add, Nat.le_refl, List.nil_append, CvH]
      replace H := cond_f hc H
      refine sq ctNo_ok ?_
      simp only [go_sem, Nat.reduceLeDiff, Nat.reduceLT, Nat.reduceAdd, Nat.reduceMul, Nat.reduceSub, Nat.reduceEqDiff, Nat.reduceBEq, Int.reduceToNat, reduceCtorEq]
      repeat ((with_reducible refine And.intro ?_ ?_); focus (first | (with_reducible trivial) | omega | grind))
      refine condM rfl trivial (fun hc => ?_) (fun hc => ?_)
      · replace H := cond_t hc H
        refine sq ctNo_ok ?_
        simp only [go_sem, Nat.reduceLeDiff, Nat.reduceLT, Nat.reduceAdd, Nat.reduceMul, Nat.reduceSub, Nat.reduceEqDiff, Nat.reduceBEq, Int.reduceToNat, reduceCtorEq]
        repeat ((with_reducible refine And.intro ?_ ?_); focus (first | (with_reducible trivial) | omega | grind))
        refine rg ctNo_ok ?_
        simp only [go_sem, Nat.reduceLeDiff, Nat.reduceLT, Nat.reduceAdd, Nat.reduceMul, Nat.reduceSub, Nat.reduceEqDiff, Nat.reduceBEq, Int.reduceToNat, reduceCtorEq]
        obtain rfl := Option.some.inj H
        refine ⟨[0, 1, 2], ?_, ?_, [], ?_, ?_, rfl⟩
        · simp only [fzV, fzL, fzOb, fzObL, fzH, fzHF, fzB, fzObB, fzObH, inL, rowOb, geth, cond_true, cond_false, Bool.or_false, Bool.or_true, Bool.false_or, Bool.true_or, and_self, true_and, and_true, Nat.reduceEqDiff, Nat.reduceBEq, beq_self_eq_true, sub_enR0, Nat.reduceAdd, Nat.zero_add, Nat.le_refl, List.nil_append]
          try (and_intros <;> first | trivial | omega | (intro x y _ _; repeat (first | exact nfR_lit (by simp only [nrefL, nref, and_self]) | exact nfR_en nr_i64 | exact nfR_en nr_b | exact nfR_en nr_TWakeRule | exact nfR_en nr_lTWakeRule | exact nfR_en nr_TWakeTable | exact nfR_en nr_li64 | exact nfR_en nr_u64 | (refine nfR_app (fun x y => ?_) (fun x y => ?_)) | (refine nfR_ins (fun x y => ?_) (fun x y => ?_)) | (refine nfR_del (fun x y => ?_)))))
        · simp only [fzV, fzL, fzOb, fzObL, fzH, fzHF, fzB, fzObB, fzObH, inL, rowOb, geth, cond_true, cond_false, Bool.or_false, Bool.or_true, Bool.false_or, Bool.true_or, and_self, true_and, and_true, Nat.reduceEqDiff, Nat.reduceBEq, beq_self_eq_true, sub_enR0, Nat.reduceAdd, Nat.zero_add, Nat.le_refl, List.nil_append]
          try (and_intros <;> first | trivial | omega | (intro x y _ _; repeat (first | exact nfR_lit (by simp only [nrefL, nref, and_self]) | exact nfR_en nr_i64 | exact nfR_en nr_b | exact nfR_en nr_TWakeRule | exact nfR_en nr_lTWakeRule | exact nfR_en nr_TWakeTable | exact nfR_en nr_li64 | exact nfR_en nr_u64 | (refine nfR_app (fun x y => ?_) (fun x y => ?_)) | (refine nfR_ins (fun x y => ?_) (fun x y => ?_)) | (refine nfR_del (fun x y => ?_)))))
        · simp only [fzV, fzL, fzOb, fzObL, fzH, fzHF, fzB, fzObB, fzObH, inL, rowOb, geth, cond_true, cond_false, Bool.or_false, Bool.or_true, Bool.false_or, Bool.true_or, and_self, true_and, and_true, Nat.reduceEqDiff, Nat.reduceBEq, beq_self_eq_true, sub_enR0, Nat.reduceAdd, Nat.zero_add, Nat.le_refl, List.nil_append]
          exact Cv_tup (CvL_cons (Cv_agg (CvL_cons Cv_ronil CvL_nil)) (CvL_cons Cv_int CvL_nil))
        · simp only [fzV, fzL, fzOb, fzObL, fzH, fzHF, fzB, fzObB, fzObH, inL, rowOb, geth, cond_true, cond_false, Bool.or_false, Bool.or_true, Bool.false_or, Bool.true_or, and_self, true_and, and_true, Nat.reduceEqDiff, Nat.reduceBEq, beq_self_eq_true, sub_enR0, Nat.reduceAdd, Nat.zero_add, Nat.le_refl, List.nil_append, CvH]
      replace H := cond_f hc H
      refine rg ctNo_ok ?_
      simp only [go_sem, Nat.reduceLeDiff, Nat.reduceLT, Nat.reduceAdd, Nat.reduceMul, Nat.reduceSub, Nat.reduceEqDiff, Nat.reduceBEq, Int.reduceToNat, reduceCtorEq]
      refine seqM ?_
      obtain ⟨r10, e11, H⟩ := Option.bind_eq_some_iff.1 H
      obtain ⟨f12, H⟩ := need_some.1 H
      replace f12 := insb_iff.1 f12
      refine draw_rule shT_ok ct24t3_ok 3 (by kernel_rfl) (by kernel_rfl) ?_
      intro an han
      simp only [d_nil, d_cons, nxtD, refsOp, refs, refsL, mask, maskF, place, placeF, okLog, pairOk, hit, inL, slotsF, ren, renL, rnN, nrH, nrB, nrL, nr, dead0, deadS, List.replicate_zero, List.replicate_succ, Nat.sub_self, Nat.add_zero, Nat.zero_add, Nat.reduceSub, Nat.not_lt_zero, Nat.zero_le, Nat.lt_add_one, go_sem, Nat.reduceLeDiff, Nat.reduceLT, Nat.reduceAdd, Nat.reduceMul, Nat.reduceSub, Nat.reduceEqDiff, Nat.reduceBEq, Int.reduceToNat, reduceCtorEq, ct24t3_40, insN, ct24t3_41, body41, e11, f12]
      repeat ((with_reducible refine And.intro ?_ ?_); focus (first | (with_reducible trivial) | (subst han; kernel_rfl) | omega | (intro x y _ _; repeat (first | exact nrR_lit (by simp only [nrefL, nref, and_self]) | exact nrR_en nr_i64 | exact nrR_en nr_b | exact nrR_en nr_TWakeRule | exact nrR_en nr_lTWakeRule | exact nrR_en nr_TWakeTable | exact nrR_en nr_li64 | exact nrR_en nr_u64 | (refine nrR_app (fun x y => ?_) (fun x y => ?_)) | (refine nrR_ins (fun x y => ?_) (fun x y => ?_)) | (refine nrR_del (fun x y => ?_)))) | (and_intros <;> first | (with_reducible trivial) | omega | (intro x y _ _; repeat (first | exact nrR_lit (by simp only [nrefL, nref, and_self]) | exact nrR_en nr_i64 | exact nrR_en nr_b | exact nrR_en nr_TWakeRule | exact nrR_en nr_lTWakeRule | exact nrR_en nr_TWakeTable | exact nrR_en nr_li64 | exact nrR_en nr_u64 | (refine nrR_app (fun x y => ?_) (fun x y => ?_)) | (refine nrR_ins (fun x y => ?_) (fun x y => ?_)) | (refine nrR_del (fun x y => ?_)))))))
      obtain ⟨w13, hw14, H⟩ := Option.bind_eq_some_iff.1 H
      replace hw14 := Option.some.inj hw14
      have lhw14 : w13.length = 1 := by rw [← hw14]; exact (by simp)
      obtain ⟨w15, hw16, H⟩ := Option.bind_eq_some_iff.1 H
      replace hw16 := Option.some.inj hw16
      have lhw16 : w15.length = r10.length + 1 := by rw [← hw16]; exact (ins_len f12 (by simp))
      refine subF_mean (t2 := [.agg [.ro 5 p0.List.length false (enR c_TWakeRule p0.List)], .agg [.int .i64 p1.Id, .int .i64 p1.Start, .int .i64 p1.Every, .int .i64 p1.Length, .int .i64 p1.Group], .ptr 0 0 0 0, .ptr 1 0 0 0, .ptr 2 0 0 0, .int .i64 0, .int .i64 r1, .int .i64 r3.1, .bool r3.2, .agg [.ro 5 p0.List.length false (enR c_TWakeRule p0.List)], .int .i64 r1, .int .i64 r1, .bool (!bEq r1 0), .top, .top, .tup [.int .i64 r3.1, .bool r3.2], .agg [.ro 5 p0.List.length false (enR c_TWakeRule p0.List)], .ptr 1 0 0 0, .int .i64 p1.Id, .tup [.int .i64 r3.1, .bool r3.2], .int .i64 r3.1, .bool r3.2, .bool (!bEq r5 0), .agg [.int .i64 p1.Id, .int .i64 p1.Start, .int .i64 p1.Every, .int .i64 p1.Length, .int .i64 p1.Group], .int .i64 r5, .bool (!bEq r5 0), .top, .bool r3.2, .bool r3.2, .top, .bool (bEq (p0.List.length : Nat) 32), .ptr 0 0 0 0, .ro 5 p0.List.length false (enR c_TWakeRule p0.List), .int .i64 (p0.List.length : Nat), .bool (bEq (p0.List.length : Nat) 32), .top, .ptr 0 0 0 0, .ro 5 p0.List.length false (enR c_TWakeRule p0.List), .sl 3 5 0 r10.length false, .int .i64 r3.1, .agg [.int .i64 p1.Id, .int .i64 p1.Start, .int .i64 p1.Every, .int .i64 p1.Length, .int .i64 p1.Group], .sl 4 5 0 w13.length false, .sl 5 5 0 w15.length false, .agg [.sl 5 5 0 w15.length false]]) (h2 := [.lit 37 [.ro 5 p0.List.length false (enR c_TWakeRule p0.List)], .lit 23 [.int .i64 p1.Id, .int .i64 p1.Start, .int .i64 p1.Every, .int .i64 p1.Length, .int .i64 p1.Group], .lit 37 [.sl 5 5 0 w15.length false], .dead, .row 23 5 w13.length (enR c_TWakeRule w13), .row 23 5 w15.length (enR c_TWakeRule w15)]) ?_ ?_
      · refine SubF_of ⟨[some 0, some 1, some 2, some 3, some 4, some 5], ?_, ?_, by rfl, by rfl⟩
        · simp [CvL, Cv, getM, lhw14, lhw16]
        · exact ⟨(by simp [CvB, CvL, Cv, blkAt, geth, getM, lhw14, lhw16]), (by simp [CvB, CvL, Cv, blkAt, geth, getM, lhw14, lhw16]), (by simp [CvB, CvL, Cv, blkAt, geth, getM, lhw14, lhw16]), CvB_dead, CvB_row nr_TWakeRule lhw14 (hw14 ▸ (lit_row (f := c_TWakeRule) [p1] (fun _ _ => rfl) rfl)), CvB_row nr_TWakeRule lhw16 (hw16 ▸ (ins_row f12 (by simp) (fun _ _ _ _ => rfl) (lit_row (f := c_TWakeRule) [p1] (fun _ _ => rfl) rfl))), trivial⟩
      refine rg ctNo_ok ?_
      simp only [go_sem, Nat.reduceLeDiff, Nat.reduceLT, Nat.reduceAdd, Nat.reduceMul, Nat.reduceSub, Nat.reduceEqDiff, Nat.reduceBEq, Int.reduceToNat, reduceCtorEq]
      obtain rfl := Option.some.inj H
      refine ⟨[5, 0, 1, 2], ?_, ?_, [], ?_, ?_, rfl⟩
      · simp only [fzV, fzL, fzOb, fzObL, fzH, fzHF, fzB, fzObB, fzObH, inL, rowOb, geth, cond_true, cond_false, Bool.or_false, Bool.or_true, Bool.false_or, Bool.true_or, and_self, true_and, and_true, Nat.reduceEqDiff, Nat.reduceBEq, beq_self_eq_true, sub_enR0, Nat.reduceAdd, Nat.zero_add, Nat.le_refl, List.nil_append]
        try (and_intros <;> first | trivial | omega | (intro x y _ _; repeat (first | exact nfR_lit (by simp only [nrefL, nref, and_self]) | exact nfR_en nr_i64 | exact nfR_en nr_b | exact nfR_en nr_TWakeRule | exact nfR_en nr_lTWakeRule | exact nfR_en nr_TWakeTable | exact nfR_en nr_li64 | exact nfR_en nr_u64 | (refine nfR_app (fun x y => ?_) (fun x y => ?_)) | (refine nfR_ins (fun x y => ?_) (fun x y => ?_)) | (refine nfR_del (fun x y => ?_)))))
      · simp only [fzV, fzL, fzOb, fzObL, fzH, fzHF, fzB, fzObB, fzObH, inL, rowOb, geth, cond_true, cond_false, Bool.or_false, Bool.or_true, Bool.false_or, Bool.true_or, and_self, true_and, and_true, Nat.reduceEqDiff, Nat.reduceBEq, beq_self_eq_true, sub_enR0, Nat.reduceAdd, Nat.zero_add, Nat.le_refl, List.nil_append]
        try (and_intros <;> first | trivial | omega | (intro x y _ _; repeat (first | exact nfR_lit (by simp only [nrefL, nref, and_self]) | exact nfR_en nr_i64 | exact nfR_en nr_b | exact nfR_en nr_TWakeRule | exact nfR_en nr_lTWakeRule | exact nfR_en nr_TWakeTable | exact nfR_en nr_li64 | exact nfR_en nr_u64 | (refine nfR_app (fun x y => ?_) (fun x y => ?_)) | (refine nfR_ins (fun x y => ?_) (fun x y => ?_)) | (refine nfR_del (fun x y => ?_)))))
      · simp only [fzV, fzL, fzOb, fzObL, fzH, fzHF, fzB, fzObB, fzObH, inL, rowOb, geth, cond_true, cond_false, Bool.or_false, Bool.or_true, Bool.false_or, Bool.true_or, and_self, true_and, and_true, Nat.reduceEqDiff, Nat.reduceBEq, beq_self_eq_true, sub_enR0, Nat.reduceAdd, Nat.zero_add, Nat.le_refl, List.nil_append]
        exact Cv_tup (CvL_cons (Cv_agg (CvL_cons (ro_row (by simp) (fun _ _ _ _ => rfl)) CvL_nil)) (CvL_cons Cv_int CvL_nil))
      · simp only [fzV, fzL, fzOb, fzObL, fzH, fzHF, fzB, fzObB, fzObH, inL, rowOb, geth, cond_true, cond_false, Bool.or_false, Bool.or_true, Bool.false_or, Bool.true_or, and_self, true_and, and_true, Nat.reduceEqDiff, Nat.reduceBEq, beq_self_eq_true, sub_enR0, Nat.reduceAdd, Nat.zero_add, Nat.le_refl, List.nil_append, CvH]
    · cases hb
  · unfold body24 at hb
    split at hb <;> cases hb
/-! slices.Delete[[]hotspot/api.WakeRule,hotspot/api.WakeRule] -/
theorem tik43_0 : tintk Try.prog 2 = true := by kernel_rfl
theorem tik43_1 : tintk Try.prog 35 = false := by kernel_rfl
set_option maxHeartbeats 4000000 in
set_option maxRecDepth 20000 in
theorem okF43 : FnOk Try.prog 43 (delF 23 5) := by
  refine edit1_fn (sh := fun _ => none) (fun _ _ h => by cases h) ctNo_ok (delF 23 5) (rs := [.tmp 6]) Try.func43 (by kernel_rfl) rfl rfl delF_np ?_
  intro E h l vs ob v h' H F hc hob
  unfold delF at hc
  split at hc
  · rename_i b es' i n nl p q
    split at hc
    · rename_i e' es2 NN c hb
      injection hc with q1 q2 q3
      subst q1 q2 q3
      obtain ⟨rfl, rfl, rfl, hN, hpq, hqn, hfl⟩ := hob
      have hx := F
      obtain ⟨vs⟩ := vs
      match vs, F.1 with
      | [u1, u2, u3], _ =>
        obtain ⟨cap, hcap, hV⟩ := csl_of_sl (only_sl (F.2 0 _ u1 rfl rfl))
        have g2 := F.2 1 _ u2 rfl rfl
        have g3 := F.2 2 _ u3 rfl rfl
        obtain rfl := VR_int g2
        obtain rfl := VR_int g3
        refine ⟨b, 23, 5, NN, c, n - (q - p), delA i p (q - p) c, [.csl 0 5 i n cap, .int .i64 p, .int .i64 q], hb, fun x y hx hy => (hfl x y hx hy).1, fun x y hx hy => ?_, rfl, rfl, ?_, ?_⟩
        · unfold delA
          split <;> exact hfl _ _ (by omega) hy
        · refine ⟨rfl, fun j a w ha hw => ?_⟩
          match j with
          | 0 => simp at ha hw; subst ha hw; exact hV
          | 1 => simp at ha hw; subst ha hw; exact .int _ _
          | 2 => simp at ha hw; subst ha hw; exact .int _ _
          | j + 3 => simp at ha
        · rw [Try.ntmps43]
          show wpC _ _ _ _ _ [.csl 0 5 i n cap, .int .i64 p, .int .i64 q, .top, .top, .top, .top, .top, .top, .top, .top, .top, .top, .top, .top, .top, .top, .top, .top, .top, .top, .top, .top, .top, .top, .top, .top, .top, .top, .top, .top, .top, .top] _
          have hpq' : ((p : Int) == (q : Int)) = false := by simp; omega
          simp only [go_sem, Nat.reduceLeDiff, Nat.reduceLT, Nat.reduceAdd, Nat.reduceMul, Nat.reduceSub, Nat.reduceEqDiff, Nat.reduceBEq, Int.reduceToNat, reduceCtorEq, evCopy, evCopyR, lenS, cutS, evClear, evClearR, evCap, evAppZ, tik43_0, tik43_1, bEq, Option.isSome_some, Option.isNone_some, Option.isSome_none, Option.isNone_none, Int.ofNat_eq_natCast, Int.toNat_natCast, hpq']
          refine ⟨by omega, ?_⟩
          refine draw_rule (sh := fun _ => none) (fun _ _ h => by cases h) ctNo_ok 0 (by kernel_rfl) (by kernel_rfl) ?_
          intro an han
          have hdc : decide (p + (n - q) ≤ cap) = true := by simp; omega
          simp only [go_sem, Nat.reduceLeDiff, Nat.reduceLT, Nat.reduceAdd, Nat.reduceMul, Nat.reduceSub, Nat.reduceEqDiff, Nat.reduceBEq, Int.reduceToNat, reduceCtorEq, evCopy, evCopyR, lenS, cutS, evClear, evClearR, evCap, evAppZ, tik43_0, tik43_1, bEq, Option.isSome_some, Option.isNone_some, Option.isSome_none, Option.isNone_none, Int.ofNat_eq_natCast, Int.toNat_natCast, hpq', hdc, Nat.sub_zero, d_nil, d_cons, nxtD, refsOp, refs, refsL, mask, maskF, place, placeF, okLog, pairOk, hit, inL, slotsF, ren, renL, rnN, nrH, nrB, nrL, nr, dead0, deadS, List.replicate_zero, List.replicate_succ, Bool.or_false, Bool.false_or, Bool.or_true, Bool.true_or, Bool.and_false, Bool.false_and, Nat.sub_self, Nat.add_zero, Nat.zero_add, Nat.reduceSub, Nat.not_lt_zero, Nat.zero_le, Nat.lt_add_one]
          have hm : p + (n - q) = n - (q - p) := by omega
          refine ⟨by omega, by omega, by omega, by omega, by omega, ?_⟩
          rw [hm]
          refine conv_move (b := 0) rfl (by omega) (by omega) fun x y hx hy => ?_
          unfold ovwC delA subC
          rw [if_neg (by omega)]
          by_cases hxp : x < p
          · rw [if_neg (by omega), if_pos hxp]
          · rw [if_pos (by omega), if_neg hxp]
            congr 1
            omega
    · cases hc
  · cases hc
theorem ok43 : FnOk Try.prog 43 (delN 23 5) := delN_ok okF43
/-! hotspot/wake.Remove -/
noncomputable def ct26t0 : Ct := tab [(32, pureC body32)]
theorem ct26t0_ok : CtOk Try.prog ct26t0 := tab_cons ok32 <| tab_nil
theorem ct26t0_32 (l : List AV) (h : List ABlk) : ct26t0 32 l h = pureC body32 l h := rfl
noncomputable def ct26t1 : Ct := tab [(39, pureC body39)]
theorem ct26t1_ok : CtOk Try.prog ct26t1 := tab_cons ok39 <| tab_nil
theorem ct26t1_39 (l : List AV) (h : List ABlk) : ct26t1 39 l h = pureC body39 l h := rfl
noncomputable def ct26t2 : Ct := tab [(41, genC body41), (43, delN 23 5)]
theorem ct26t2_ok : CtOk Try.prog ct26t2 := tab_cons ok41 <| tab_cons ok43 <| tab_nil
theorem ct26t2_41 (l : List AV) (h : List ABlk) : ct26t2 41 l h = genC body41 l h := rfl
theorem ct26t2_43 (l : List AV) (h : List ABlk) : ct26t2 43 l h = delN 23 5 l h := rfl
noncomputable def F26 (p0 : TWakeTable) (p1 : Int) : Option (TWakeTable × Int) :=
  (F32 p0).bind fun r1 => bif (!bEq r1 0) then (some ((TWakeTable.mk []), r1)) else ((F39 p0 p1).bind fun r3 => bif (!r3.2) then (some ((TWakeTable.mk []), 6)) else ((F41 p0.List).bind fun r5 => need (delb r3.1 (wr .i64 (r3.1 + 1)) r5.length) <| (some (delL r5 r3.1 (wr .i64 (r3.1 + 1)))).bind fun w8 => some ((TWakeTable.mk w8), 0)))
noncomputable def body26 : List AV → Nat → AR
  | [v0, v1], s => .heap (aK 1 k_TWakeTable v0 ∧ iK .i64 v1 ∧ (F26 (g_TWakeTable (aL v0)) (iA v1)).isSome = true) (.tup [.agg [.sl s 5 0 ((((gt (F26 (g_TWakeTable (aL v0)) (iA v1))).1).List).length) false], .int .i64 ((gt (F26 (g_TWakeTable (aL v0)) (iA v1))).2)]) [.row 23 5 ((((gt (F26 (g_TWakeTable (aL v0)) (iA v1))).1).List).length) (enR c_TWakeRule (((gt (F26 (g_TWakeTable (aL v0)) (iA v1))).1).List))]
  | _, _ => .fail
set_option maxHeartbeats 4000000 in
set_option maxRecDepth 20000 in
theorem ok26 : FnOk Try.prog 26 (genC body26) := by
  refine gen_fn body26 (rs := [.cell 4 37, .tmp 5]) Try.func26 (by kernel_rfl) rfl rfl ?_
  intro l s ob v ns hb hob
  rcases hb with ⟨hb, rfl⟩ | hb
  · unfold body26 at hb
    split at hb <;> cases hb
  · unfold body26 at hb
    split at hb
    · rename_i v0 v1
      injection hb with q1 q2 q3; subst q1 q2 q3
      obtain ⟨hk0, hk1, hob⟩ := hob
      obtain ⟨r, H⟩ := Option.isSome_iff_exists.1 hob
      rw [H, gt_some]
      have hw0 := wA_TWakeTable hk0
      have hw1 := iK_wk hk1
      generalize g_TWakeTable (aL v0) = p0 at H hw0
      generalize iA v1 = p1 at H hw1
      refine ⟨[.agg [.ro 5 p0.List.length false (enR c_TWakeRule p0.List)], .int .i64 p1], .tup [.agg [.sl 0 5 0 r.1.List.length false], .int .i64 r.2], [.row 23 5 r.1.List.length (enR c_TWakeRule r.1.List)], (fun E vs F => FR_wk1 hw0.1 F (fun vs F => FR_wk1 hw1.1 F (fun vs F => F))), by simp only [ren, renL, rnN_0, rnN_s, Nat.zero_add, Nat.reduceAdd], ⟨RenB_row nr_TWakeRule, trivial⟩, ?_⟩
      rw [Try.ntmps26]
      simp only [List.length_cons, List.length_nil, Nat.reduceAdd, Nat.reduceSub, List.replicate_succ, List.replicate_zero, List.cons_append, List.nil_append]
      unfold F26 at H
      try dsimp only at H
      refine sq ctNo_ok ?_
      simp only [go_sem, Nat.reduceLeDiff, Nat.reduceLT, Nat.reduceAdd, Nat.reduceMul, Nat.reduceSub, Nat.reduceEqDiff, Nat.reduceBEq, Int.reduceToNat, reduceCtorEq]
      refine seqM ?_
      refine seqM ?_
      obtain ⟨r1, e2, H⟩ := Option.bind_eq_some_iff.1 H
      refine rg ct26t0_ok ?_
      simp only [go_sem, Nat.reduceLeDiff, Nat.reduceLT, Nat.reduceAdd, Nat.reduceMul, Nat.reduceSub, Nat.reduceEqDiff, Nat.reduceBEq, Int.reduceToNat, reduceCtorEq, ct26t0_32, body32, e2]
      repeat ((with_reducible refine And.intro ?_ ?_); focus (first | (with_reducible trivial) | omega | grind))
      refine sq ctNo_ok ?_
      simp only [go_sem, Nat.reduceLeDiff, Nat.reduceLT, Nat.reduceAdd, Nat.reduceMul, Nat.reduceSub, Nat.reduceEqDiff, Nat.reduceBEq, Int.reduceToNat, reduceCtorEq]
      refine condM rfl trivial (fun hc => ?_) (fun hc => ?_)
      · replace H := cond_t hc H
        refine sq ctNo_ok ?_
        simp only [go_sem, Nat.reduceLeDiff, Nat.reduceLT, Nat.reduceAdd, Nat.reduceMul, Nat.reduceSub, Nat.reduceEqDiff, Nat.reduceBEq, Int.reduceToNat, reduceCtorEq]
        repeat ((with_reducible refine And.intro ?_ ?_); focus (first | (with_reducible trivial) | omega | grind))
        refine rg ctNo_ok ?_
        simp only [go_sem, Nat.reduceLeDiff, Nat.reduceLT, Nat.reduceAdd, Nat.reduceMul, Nat.reduceSub, Nat.reduceEqDiff, Nat.reduceBEq, Int.reduceToNat, reduceCtorEq]
        obtain rfl := Option.some.inj H
        refine ⟨[], ?_, ?_, [none], ?_, ?_, by rfl⟩
        · simp only [fzV, fzL, fzOb, fzObL, fzH, fzHF, fzB, fzObB, fzObH, inL, rowOb, geth, cond_true, cond_false, Bool.or_false, Bool.or_true, Bool.false_or, Bool.true_or, and_self, true_and, and_true, Nat.reduceEqDiff, Nat.reduceBEq, beq_self_eq_true, sub_enR0, Nat.reduceAdd, Nat.zero_add, Nat.le_refl, List.nil_append]
        · simp only [fzV, fzL, fzOb, fzObL, fzH, fzHF, fzB, fzObB, fzObH, inL, rowOb, geth, cond_true, cond_false, Bool.or_false, Bool.or_true, Bool.false_or, Bool.true_or, and_self, true_and, and_true, Nat.reduceEqDiff, Nat.reduceBEq, beq_self_eq_true, sub_enR0, Nat.reduceAdd, Nat.zero_add, Nat.le_refl, List.nil_append]
        · simp [fzV, fzL, inL, Cv, CvL, getM]
        · simp only [fzV, fzL, fzOb, fzObL, fzH, fzHF, fzB, fzObB, fzObH, inL, rowOb, geth, cond_true, cond_false, Bool.or_false, Bool.or_true, Bool.false_or, Bool.true_or, and_self, true_and, and_true, Nat.reduceEqDiff, Nat.reduceBEq, beq_self_eq_true, sub_enR0, Nat.reduceAdd, Nat.zero_add, Nat.le_refl, List.nil_append, CvH]
          exact CvB_none
      replace H := cond_f hc H
      refine rg ctNo_ok ?_
      simp only [go_sem, Nat.reduceLeDiff, Nat.reduceLT, Nat.reduceAdd, Nat.reduceMul, Nat.reduceSub, Nat.reduceEqDiff, Nat.reduceBEq, Int.reduceToNat, reduceCtorEq]
      refine seqM ?_
      obtain ⟨r3, e4, H⟩ := Option.bind_eq_some_iff.1 H
      refine rg ct26t1_ok ?_
      simp only [go_sem, Nat.reduceLeDiff, Nat.reduceLT, Nat.reduceAdd, Nat.reduceMul, Nat.reduceSub, Nat.reduceEqDiff, Nat.reduceBEq, Int.reduceToNat, reduceCtorEq, ct26t1_39, body39, e4]
      repeat ((with_reducible refine And.intro ?_ ?_); focus (first | (with_reducible trivial) | omega | grind))
      refine seqM ?_
      refine sq ctNo_ok ?_
      simp only [go_sem, Nat.reduceLeDiff, Nat.reduceLT, Nat.reduceAdd, Nat.reduceMul, Nat.reduceSub, Nat.reduceEqDiff, Nat.reduceBEq, Int.reduceToNat, reduceCtorEq]
      refine condM rfl trivial (fun hc => ?_) (fun hc => ?_)
      · replace H := cond_t hc H
        refine sq ctNo_ok ?_
        simp only [go_sem, Nat.reduceLeDiff, Nat.reduceLT, Nat.reduceAdd, Nat.reduceMul, Nat.reduceSub, Nat.reduceEqDiff, Nat.reduceBEq, Int.reduceToNat, reduceCtorEq]
        repeat ((with_reducible refine And.intro ?_ ?_); focus (first | (with_reducible trivial) | omega | grind))
        refine rg ctNo_ok ?_
        simp only [go_sem, Nat.reduceLeDiff, Nat.reduceLT, Nat.reduceAdd, Nat.reduceMul, Nat.reduceSub, Nat.reduceEqDiff, Nat.reduceBEq, Int.reduceToNat, reduceCtorEq]
        obtain rfl := Option.some.inj H
        refine ⟨[], ?_, ?_, [none], ?_, ?_, by rfl⟩
        · simp only [fzV, fzL, fzOb, fzObL, fzH, fzHF, fzB, fzObB, fzObH, inL, rowOb, geth, cond_true, cond_false, Bool.or_false, Bool.or_true, Bool.false_or, Bool.true_or, and_self, true_and, and_true, Nat.reduceEqDiff, Nat.reduceBEq, beq_self_eq_true, sub_enR0, Nat.reduceAdd, Nat.zero_add, Nat.le_refl, List.nil_append]
        · simp only [fzV, fzL, fzOb, fzObL, fzH, fzHF, fzB, fzObB, fzObH, inL, rowOb, geth, cond_true, cond_false, Bool.or_false, Bool.or_true, Bool.false_or, Bool.true_or, and_self, true_and, and_true, Nat.reduceEqDiff, Nat.reduceBEq, beq_self_eq_true, sub_enR0, Nat.reduceAdd, Nat.zero_add, Nat.le_refl, List.nil_append]
        · simp [fzV, fzL, inL, Cv, CvL, getM]
        · simp only [fzV, fzL, fzOb, fzObL, fzH, fzHF, fzB, fzObB, fzObH, inL, rowOb, geth, cond_true, cond_false, Bool.or_false, Bool.or_true, Bool.false_or, Bool.true_or, and_self, true_and, and_true, Nat.reduceEqDiff, Nat.reduceBEq, beq_self_eq_true, sub_enR0, Nat.reduceAdd, Nat.zero_add, Nat.le_refl, List.nil_append, CvH]
          exact CvB_none
      replace H := cond_f hc H
      refine rg ctNo_ok ?_
      simp only [go_sem, Nat.reduceLeDiff, Nat.reduceLT, Nat.reduceAdd, Nat.reduceMul, Nat.reduceSub, Nat.reduceEqDiff, Nat.reduceBEq, Int.reduceToNat, reduceCtorEq]
      refine seqM ?_
      obtain ⟨r5, e6, H⟩ := Option.bind_eq_some_iff.1 H
      obtain ⟨f7, H⟩ := need_some.1 H
      replace f7 := delb_iff.1 f7
      refine rg ct26t2_ok ?_
      simp only [go_sem, Nat.reduceLeDiff, Nat.reduceLT, Nat.reduceAdd, Nat.reduceMul, Nat.reduceSub, Nat.reduceEqDiff, Nat.reduceBEq, Int.reduceToNat, reduceCtorEq, ct26t2_41, body41, ct26t2_43, delN, e6, f7]
      repeat ((with_reducible refine And.intro ?_ ?_); focus (first | (with_reducible trivial) | omega | grind))
      obtain ⟨w8, hw9, H⟩ := Option.bind_eq_some_iff.1 H
      replace hw9 := Option.some.inj hw9
      have lhw9 : w8.length = r5.length - ((wr .i64 (r3.1 + 1)).toNat - r3.1.toNat) := by rw [← hw9]; exact (del_len f7 (by simp))
      refine subF_mean (t2 := [.agg [.ro 5 p0.List.length false (enR c_TWakeRule p0.List)], .int .i64 p1, .ptr 0 0 0 0, .top, .ptr 1 0 0 0, .int .i64 0, .int .i64 r1, .int .i64 r3.1, .bool r3.2, .agg [.ro 5 p0.List.length false (enR c_TWakeRule p0.List)], .int .i64 r1, .int .i64 r1, .bool (!bEq r1 0), .top, .top, .tup [.int .i64 r3.1, .bool r3.2], .agg [.ro 5 p0.List.length false (enR c_TWakeRule p0.List)], .int .i64 p1, .tup [.int .i64 r3.1, .bool r3.2], .int .i64 r3.1, .bool r3.2, .bool r3.2, .bool (!r3.2), .top, .ptr 0 0 0 0, .ro 5 p0.List.length false (enR c_TWakeRule p0.List), .sl 2 5 0 r5.length false, .int .i64 r3.1, .int .i64 r3.1, .int .i64 (wr .i64 (r3.1 + 1)), .sl 3 5 0 w8.length false, .agg [.sl 3 5 0 w8.length false]]) (h2 := [.lit 37 [.ro 5 p0.List.length false (enR c_TWakeRule p0.List)], .lit 37 [.sl 3 5 0 w8.length false], .dead, .row 23 5 w8.length (enR c_TWakeRule w8)]) ?_ ?_
      · refine SubF_of ⟨[some 0, some 1, some 2, some 3], ?_, ?_, by rfl, by rfl⟩
        · simp [CvL, Cv, getM, lhw9]
        · exact ⟨(by simp [CvB, CvL, Cv, blkAt, geth, getM, lhw9]), (by simp [CvB, CvL, Cv, blkAt, geth, getM, lhw9]), CvB_dead, CvB_row nr_TWakeRule lhw9 (hw9 ▸ (del_row f7 (by simp) (fun _ _ _ _ => rfl))), trivial⟩
      refine rg ctNo_ok ?_
      simp only [go_sem, Nat.reduceLeDiff, Nat.reduceLT, Nat.reduceAdd, Nat.reduceMul, Nat.reduceSub, Nat.reduceEqDiff, Nat.reduceBEq, Int.reduceToNat, reduceCtorEq]
      obtain rfl := Option.some.inj H
      refine ⟨[], ?_, ?_, [some 3], ?_, ?_, by rfl⟩
      · simp only [fzV, fzL, fzOb, fzObL, fzH, fzHF, fzB, fzObB, fzObH, inL, rowOb, geth, cond_true, cond_false, Bool.or_false, Bool.or_true, Bool.false_or, Bool.true_or, and_self, true_and, and_true, Nat.reduceEqDiff, Nat.reduceBEq, beq_self_eq_true, sub_enR0, Nat.reduceAdd, Nat.zero_add, Nat.le_refl, List.nil_append]
      · simp only [fzV, fzL, fzOb, fzObL, fzH, fzHF, fzB, fzObB, fzObH, inL, rowOb, geth, cond_true, cond_false, Bool.or_false, Bool.or_true, Bool.false_or, Bool.true_or, and_self, true_and, and_true, Nat.reduceEqDiff, Nat.reduceBEq, beq_self_eq_true, sub_enR0, Nat.reduceAdd, Nat.zero_add, Nat.le_refl, List.nil_append]
      · simp [fzV, fzL, inL, Cv, CvL, getM]
      · simp only [fzV, fzL, fzOb, fzObL, fzH, fzHF, fzB, fzObB, fzObH, inL, rowOb, geth, cond_true, cond_false, Bool.or_false, Bool.or_true, Bool.false_or, Bool.true_or, and_self, true_and, and_true, Nat.reduceEqDiff, Nat.reduceBEq, beq_self_eq_true, sub_enR0, Nat.reduceAdd, Nat.zero_add, Nat.le_refl, List.nil_append, CvH]
        exact CvB_row nr_TWakeRule (by simp) (fun _ _ _ _ => rfl)
    · cases hb
/-! hotspot/wake.Next -/
noncomputable def ct12t0 : Ct := tab [(17, pureC body17)]
theorem ct12t0_ok : CtOk Try.prog ct12t0 := tab_cons ok17 <| tab_nil
theorem ct12t0_17 (l : List AV) (h : List ABlk) : ct12t0 17 l h = pureC body17 l h := rfl
noncomputable def F12 (p0 : TWakeRule) (p1 : Int) : Option (Int × Bool) :=
  (F17 p0).bind fun r1 => bif (!bEq r1 0) then (some (0, false)) else (bif (bLe p0.Start p1) then (bif ((bEq p0.Every 0) || (bLt 1099511627776 p1)) then (some (0, false)) else (need (!(bEq p0.Every 0)) <| bif (bLt 1099511627776 (wr .i64 (p0.Start + (wr .i64 ((wr .i64 ((wr .i64 ((wr .i64 (p1 - p0.Start)).tdiv p0.Every)) + 1)) * p0.Every))))) then (some (0, false)) else (some (wr .i64 (p0.Start + (wr .i64 ((wr .i64 ((wr .i64 ((wr .i64 (p1 - p0.Start)).tdiv p0.Every)) + 1)) * p0.Every))), true)))) else (bif (bLt 1099511627776 p0.Start) then (some (0, false)) else (some (p0.Start, true))))
noncomputable def body12 : List AV → AR
  | [v0, v1] => .pure (aK 5 k_TWakeRule v0 ∧ iK .i64 v1 ∧ (F12 (g_TWakeRule (aL v0)) (iA v1)).isSome = true) (.tup [.int .i64 ((gt (F12 (g_TWakeRule (aL v0)) (iA v1))).1), .bool ((gt (F12 (g_TWakeRule (aL v0)) (iA v1))).2)])
  | _ => .fail
set_option maxHeartbeats 4000000 in
set_option maxRecDepth 20000 in
theorem ok12 : FnOk Try.prog 12 (pureC body12) := by
  refine pure_fnM body12 (rs := [.tmp 4, .tmp 5]) Try.func12 (by kernel_rfl) rfl rfl ?_
  intro l ob v hb hob
  unfold body12 at hb
  split at hb
  · rename_i v0 v1
    injection hb with q1 q2; subst q1 q2
    obtain ⟨hk0, hk1, hob⟩ := hob
    obtain ⟨r, H⟩ := Option.isSome_iff_exists.1 hob
    rw [H, gt_some]
    have hw0 := wA_TWakeRule hk0
    have hw1 := iK_wk hk1
    generalize g_TWakeRule (aL v0) = p0 at H hw0
    generalize iA v1 = p1 at H hw1
    refine ⟨[.agg [.int .i64 p0.Id, .int .i64 p0.Start, .int .i64 p0.Every, .int .i64 p0.Length, .int .i64 p0.Group], .int .i64 p1], _, (fun E vs F => FR_wk1 hw0.1 F (fun vs F => FR_wk1 hw1.1 F (fun vs F => F))), rfl, rfl, ?_⟩
    rw [Try.ntmps12]
    simp only [List.length_cons, List.length_nil, Nat.reduceAdd, Nat.reduceSub, List.replicate_succ, List.replicate_zero, List.cons_append, List.nil_append]
    unfold F12 at H
    try dsimp only at H
    refine sq ctNo_ok ?_
    simp only [go_sem, Nat.reduceLeDiff, Nat.reduceLT, Nat.reduceAdd, Nat.reduceMul, Nat.reduceSub, Nat.reduceEqDiff, Nat.reduceBEq, Int.reduceToNat, reduceCtorEq]
    refine seqM ?_
    refine seqM ?_
    obtain ⟨r1, e2, H⟩ := Option.bind_eq_some_iff.1 H
    refine rg ct12t0_ok ?_
    simp only [go_sem, Nat.reduceLeDiff, Nat.reduceLT, Nat.reduceAdd, Nat.reduceMul, Nat.reduceSub, Nat.reduceEqDiff, Nat.reduceBEq, Int.reduceToNat, reduceCtorEq, ct12t0_17, body17, e2]
    repeat ((with_reducible refine And.intro ?_ ?_); focus (first | (with_reducible trivial) | omega | grind))
    refine condM rfl trivial (fun hc => ?_) (fun hc => ?_)
    · replace H := cond_t hc H
      refine sq ctNo_ok ?_
      simp only [go_sem, Nat.reduceLeDiff, Nat.reduceLT, Nat.reduceAdd, Nat.reduceMul, Nat.reduceSub, Nat.reduceEqDiff, Nat.reduceBEq, Int.reduceToNat, reduceCtorEq]
      refine rg ctNo_ok ?_
      simp only [go_sem, Nat.reduceLeDiff, Nat.reduceLT, Nat.reduceAdd, Nat.reduceMul, Nat.reduceSub, Nat.reduceEqDiff, Nat.reduceBEq, Int.reduceToNat, reduceCtorEq]
      obtain rfl := Option.some.inj H
      first | rfl | simp only [Bool.and_false, Bool.false_and, Bool.and_true, Bool.true_and]
    replace H := cond_f hc H
    refine rg ctNo_ok ?_
    simp only [go_sem, Nat.reduceLeDiff, Nat.reduceLT, Nat.reduceAdd, Nat.reduceMul, Nat.reduceSub, Nat.reduceEqDiff, Nat.reduceBEq, Int.reduceToNat, reduceCtorEq]
    refine sq ctNo_ok ?_
    simp only [go_sem, Nat.reduceLeDiff, Nat.reduceLT, Nat.reduceAdd, Nat.reduceMul, Nat.reduceSub, Nat.reduceEqDiff, Nat.reduceBEq, Int.reduceToNat, reduceCtorEq]
    refine seqM ?_
    refine sq ctNo_ok ?_
    simp only [go_sem, Nat.reduceLeDiff, Nat.reduceLT, Nat.reduceAdd, Nat.reduceMul, Nat.reduceSub, Nat.reduceEqDiff, Nat.reduceBEq, Int.reduceToNat, reduceCtorEq]
    refine condM' rfl trivial (fun hc => ?_) (fun hc => ?_)
    · replace H := cond_f hc H
      refine rg ctNo_ok ?_
      simp only [go_sem, Nat.reduceLeDiff, Nat.reduceLT, Nat.reduceAdd, Nat.reduceMul, Nat.reduceSub, Nat.reduceEqDiff, Nat.reduceBEq, Int.reduceToNat, reduceCtorEq]
      refine seqM ?_
      refine sq ctNo_ok ?_
      simp only [go_sem, Nat.reduceLeDiff, Nat.reduceLT, Nat.reduceAdd, Nat.reduceMul, Nat.reduceSub, Nat.reduceEqDiff, Nat.reduceBEq, Int.reduceToNat, reduceCtorEq]
      refine condM rfl trivial (fun hc => ?_) (fun hc => ?_)
      · replace H := cond_t hc H
        refine sq ctNo_ok ?_
        simp only [go_sem, Nat.reduceLeDiff, Nat.reduceLT, Nat.reduceAdd, Nat.reduceMul, Nat.reduceSub, Nat.reduceEqDiff, Nat.reduceBEq, Int.reduceToNat, reduceCtorEq]
        refine rg ctNo_ok ?_
        simp only [go_sem, Nat.reduceLeDiff, Nat.reduceLT, Nat.reduceAdd, Nat.reduceMul, Nat.reduceSub, Nat.reduceEqDiff, Nat.reduceBEq, Int.reduceToNat, reduceCtorEq]
        obtain rfl := Option.some.inj H
        first | rfl | simp only [Bool.and_false, Bool.false_and, Bool.and_true, Bool.true_and]
      replace H := cond_f hc H
      refine rg ctNo_ok ?_
      simp only [go_sem, Nat.reduceLeDiff, Nat.reduceLT, Nat.reduceAdd, Nat.reduceMul, Nat.reduceSub, Nat.reduceEqDiff, Nat.reduceBEq, Int.reduceToNat, reduceCtorEq]
      refine sq ctNo_ok ?_
      simp only [go_sem, Nat.reduceLeDiff, Nat.reduceLT, Nat.reduceAdd, Nat.reduceMul, Nat.reduceSub, Nat.reduceEqDiff, Nat.reduceBEq, Int.reduceToNat, reduceCtorEq]
      refine rg ctNo_ok ?_
      simp only [go_sem, Nat.reduceLeDiff, Nat.reduceLT, Nat.reduceAdd, Nat.reduceMul, Nat.reduceSub, Nat.reduceEqDiff, Nat.reduceBEq, Int.reduceToNat, reduceCtorEq]
      obtain rfl := Option.some.inj H
      first | rfl | simp only [Bool.and_false, Bool.false_and, Bool.and_true, Bool.true_and]
    replace H := cond_t hc H
    refine seqM ?_
    refine sq ctNo_ok ?_
    simp only [go_sem, Nat.reduceLeDiff, Nat.reduceLT, Nat.reduceAdd, Nat.reduceMul, Nat.reduceSub, Nat.reduceEqDiff, Nat.reduceBEq, Int.reduceToNat, reduceCtorEq]
    repeat ((with_reducible refine And.intro ?_ ?_); focus (first | (with_reducible trivial) | omega | grind))
    refine condM rfl trivial (fun hc => ?_) (fun hc => ?_)
    · replace H := cond_t hc H
      refine sq ctNo_ok ?_
      simp only [go_sem, Nat.reduceLeDiff, Nat.reduceLT, Nat.reduceAdd, Nat.reduceMul, Nat.reduceSub, Nat.reduceEqDiff, Nat.reduceBEq, Int.reduceToNat, reduceCtorEq]
      refine rg ctNo_ok ?_
      simp only [go_sem, Nat.reduceLeDiff, Nat.reduceLT, Nat.reduceAdd, Nat.reduceMul, Nat.reduceSub, Nat.reduceEqDiff, Nat.reduceBEq, Int.reduceToNat, reduceCtorEq]
      obtain rfl := Option.some.inj H
      first | rfl | simp only [Bool.and_false, Bool.false_and, Bool.and_true, Bool.true_and]
    replace H := cond_f hc H
    refine rg ctNo_ok ?_
    simp only [go_sem, Nat.reduceLeDiff, Nat.reduceLT, Nat.reduceAdd, Nat.reduceMul, Nat.reduceSub, Nat.reduceEqDiff, Nat.reduceBEq, Int.reduceToNat, reduceCtorEq]
    obtain ⟨f3, H⟩ := need_some.1 H
    replace f3 := ne0_iff.1 f3
    refine draw_quiet shT_ok ctNo_ok (by kernel_rfl) (by kernel_rfl) ?_
    simp only [go_sem, Nat.reduceLeDiff, Nat.reduceLT, Nat.reduceAdd, Nat.reduceMul, Nat.reduceSub, Nat.reduceEqDiff, Nat.reduceBEq, Int.reduceToNat, reduceCtorEq, f3]
    repeat ((with_reducible refine And.intro ?_ ?_); focus (first | (with_reducible trivial) | omega | grind))
    refine seqM ?_
    refine sq ctNo_ok ?_
    simp only [go_sem, Nat.reduceLeDiff, Nat.reduceLT, Nat.reduceAdd, Nat.reduceMul, Nat.reduceSub, Nat.reduceEqDiff, Nat.reduceBEq, Int.reduceToNat, reduceCtorEq]
    refine condM rfl trivial (fun hc => ?_) (fun hc => ?_)
    · replace H := cond_t hc H
      refine sq ctNo_ok ?_
      simp only [go_sem, Nat.reduceLeDiff, Nat.reduceLT, Nat.reduceAdd, Nat.reduceMul, Nat.reduceSub, Nat.reduceEqDiff, Nat.reduceBEq, Int.reduceToNat, reduceCtorEq]
      refine rg ctNo_ok ?_
      simp only [go_sem, Nat.reduceLeDiff, Nat.reduceLT, Nat.reduceAdd, Nat.reduceMul, Nat.reduceSub, Nat.reduceEqDiff, Nat.reduceBEq, Int.reduceToNat, reduceCtorEq]
      obtain rfl := Option.some.inj H
      first | rfl | simp only [Bool.and_false, Bool.false_and, Bool.and_true, Bool.true_and]
    replace H := cond_f hc H
    refine rg ctNo_ok ?_
    simp only [go_sem, Nat.reduceLeDiff, Nat.reduceLT, Nat.reduceAdd, Nat.reduceMul, Nat.reduceSub, Nat.reduceEqDiff, Nat.reduceBEq, Int.reduceToNat, reduceCtorEq]
    refine sq ctNo_ok ?_
    simp only [go_sem, Nat.reduceLeDiff, Nat.reduceLT, Nat.reduceAdd, Nat.reduceMul, Nat.reduceSub, Nat.reduceEqDiff, Nat.reduceBEq, Int.reduceToNat, reduceCtorEq]
    refine rg ctNo_ok ?_
    simp only [go_sem, Nat.reduceLeDiff, Nat.reduceLT, Nat.reduceAdd, Nat.reduceMul, Nat.reduceSub, Nat.reduceEqDiff, Nat.reduceBEq, Int.reduceToNat, reduceCtorEq]
    obtain rfl := Option.some.inj H
    first | rfl | simp only [Bool.and_false, Bool.false_and, Bool.and_true, Bool.true_and]
  · cases hb
/-! hotspot/wake.First -/
noncomputable def ct28t0 : Ct := tab [(32, pureC body32)]
theorem ct28t0_ok : CtOk Try.prog ct28t0 := tab_cons ok32 <| tab_nil
theorem ct28t0_32 (l : List AV) (h : List ABlk) : ct28t0 32 l h = pureC body32 l h := rfl
noncomputable def ct28t1 : Ct := tab [(12, pureC body12)]
theorem ct28t1_ok : CtOk Try.prog ct28t1 := tab_cons ok12 <| tab_nil
theorem ct28t1_12 (l : List AV) (h : List ABlk) : ct28t1 12 l h = pureC body12 l h := rfl
noncomputable def F28_L1 (p0 : TWakeTable) (p1 : Int) (v1_1 : Int) (v1_2 : Int) (v1_3 : List Int) : Option (Lp (Int × Int × (List Int)) ((Int × (List Int)) ⊕ (Int × (List Int) × Int))) :=
  bif (bLt v1_1 (p0.List.length : Nat)) then (need (inb v1_1 p0.List.length) <| (F12 (gd p0.List v1_1.toNat) p1).bind fun r4 => bif (!r4.2) then (some (.next (wr .i64 (v1_1 + 1), v1_2, v1_3))) else (bif (v1_3.isEmpty || (bLt r4.1 v1_2)) then (some (.next (wr .i64 (v1_1 + 1), r4.1, [(gd p0.List v1_1.toNat).Id]))) else (bif (bEq r4.1 v1_2) then (need (capb 8 (v1_3.length + 1)) <| some (.next (wr .i64 (v1_1 + 1), v1_2, (v1_3 ++ [(gd p0.List v1_1.toNat).Id])))) else (some (.next (wr .i64 (v1_1 + 1), v1_2, v1_3)))))) else (some (.done (.inl (v1_2, v1_3))))
noncomputable def F28 (p0 : TWakeTable) (p1 : Int) : Option (Int × (List Int) × Int) :=
  (F32 p0).bind fun r1 => bif (!bEq r1 0) then (some (0, [], r1)) else (lp (loopD (fun s => F28_L1 p0 p1 s.1 s.2.1 s.2.2) (0, 0, [])) (fun e => bif e.2.isEmpty then (some (0, [], 6)) else (some (e.1, e.2, 0))) some)
noncomputable def body28 : List AV → Nat → AR
  | [v0, v1], _ => .pure (aK 1 k_TWakeTable v0 ∧ iK .i64 v1 ∧ (F28 (g_TWakeTable (aL v0)) (iA v1)).isSome = true) (.tup [.int .i64 ((gt (F28 (g_TWakeTable (aL v0)) (iA v1))).1), .ro 1 (((gt (F28 (g_TWakeTable (aL v0)) (iA v1))).2.1).length) false (enR c_i64 ((gt (F28 (g_TWakeTable (aL v0)) (iA v1))).2.1)), .int .i64 ((gt (F28 (g_TWakeTable (aL v0)) (iA v1))).2.2)])
  | _, _ => .fail
set_option maxHeartbeats 4000000 in
set_option maxRecDepth 20000 in
theorem ok28 : FnOk Try.prog 28 (genC body28) := by
  refine gen_fn body28 (rs := [.tmp 4, .tmp 5, .tmp 6]) Try.func28 (by kernel_rfl) rfl rfl ?_
  intro l s ob v ns hb hob
  rcases hb with ⟨hb, rfl⟩ | hb
  · unfold body28 at hb
    split at hb
    · rename_i v0 v1
      injection hb with q1 q2; subst q1 q2
      obtain ⟨hk0, hk1, hob⟩ := hob
      obtain ⟨r, H⟩ := Option.isSome_iff_exists.1 hob
      rw [H, gt_some]
      have hw0 := wA_TWakeTable hk0
      have hw1 := iK_wk hk1
      generalize g_TWakeTable (aL v0) = p0 at H hw0
      generalize iA v1 = p1 at H hw1
      refine ⟨[.agg [.ro 5 p0.List.length false (enR c_TWakeRule p0.List)], .int .i64 p1], .tup [.int .i64 r.1, .ro 1 r.2.1.length false (enR c_i64 r.2.1), .int .i64 r.2.2], [], (fun E vs F => FR_wk1 hw0.1 F (fun vs F => FR_wk1 hw1.1 F (fun vs F => F))), by simp only [ren, renL], trivial, ?_⟩
      rw [Try.ntmps28]
      simp only [List.length_cons, List.length_nil, Nat.reduceAdd, Nat.reduceSub, List.replicate_succ, List.replicate_zero, List.cons_append, List.nil_append]
      unfold F28 at H
      try dsimp only at H
      refine sq ctNo_ok ?_
      simp only [go_sem, Nat.reduceLeDiff, Nat.reduceLT, Nat.reduceAdd, Nat.reduceMul, Nat.reduceSub, Nat.reduceEqDiff, Nat.reduceBEq, Int.reduceToNat, reduceCtorEq]
      refine seqM ?_
      refine seqM ?_
      obtain ⟨r1, e2, H⟩ := Option.bind_eq_some_iff.1 H
      refine rg ct28t0_ok ?_
      simp only [go_sem, Nat.reduceLeDiff, Nat.reduceLT, Nat.reduceAdd, Nat.reduceMul, Nat.reduceSub, Nat.reduceEqDiff, Nat.reduceBEq, Int.reduceToNat, reduceCtorEq, ct28t0_32, body32, e2]
      repeat ((with_reducible refine And.intro ?_ ?_); focus (first | (with_reducible trivial) | omega | grind))
      refine sq ctNo_ok ?_
      simp only [go_sem, Nat.reduceLeDiff, Nat.reduceLT, Nat.reduceAdd, Nat.reduceMul, Nat.reduceSub, Nat.reduceEqDiff, Nat.reduceBEq, Int.reduceToNat, reduceCtorEq]
      refine condM rfl trivial (fun hc => ?_) (fun hc => ?_)
      · replace H := cond_t hc H
        refine sq ctNo_ok ?_
        simp only [go_sem, Nat.reduceLeDiff, Nat.reduceLT, Nat.reduceAdd, Nat.reduceMul, Nat.reduceSub, Nat.reduceEqDiff, Nat.reduceBEq, Int.reduceToNat, reduceCtorEq]
        refine rg ctNo_ok ?_
        simp only [go_sem, Nat.reduceLeDiff, Nat.reduceLT, Nat.reduceAdd, Nat.reduceMul, Nat.reduceSub, Nat.reduceEqDiff, Nat.reduceBEq, Int.reduceToNat, reduceCtorEq]
        obtain rfl := Option.some.inj H
        refine ⟨[0], ?_, ?_, [], ?_, ?_, rfl⟩
        · simp only [fzV, fzL, fzOb, fzObL, fzH, fzHF, fzB, fzObB, fzObH, inL, rowOb, geth, cond_true, cond_false, Bool.or_false, Bool.or_true, Bool.false_or, Bool.true_or, and_self, true_and, and_true, Nat.reduceEqDiff, Nat.reduceBEq, beq_self_eq_true, sub_enR0, Nat.reduceAdd, Nat.zero_add, Nat.le_refl, List.nil_append]
          try (and_intros <;> first | trivial | omega | (intro x y _ _; repeat (first | exact nfR_lit (by simp only [nrefL, nref, and_self]) | exact nfR_en nr_i64 | exact nfR_en nr_b | exact nfR_en nr_TWakeRule | exact nfR_en nr_lTWakeRule | exact nfR_en nr_TWakeTable | exact nfR_en nr_li64 | exact nfR_en nr_u64 | (refine nfR_app (fun x y => ?_) (fun x y => ?_)) | (refine nfR_ins (fun x y => ?_) (fun x y => ?_)) | (refine nfR_del (fun x y => ?_)))))
        · simp only [fzV, fzL, fzOb, fzObL, fzH, fzHF, fzB, fzObB, fzObH, inL, rowOb, geth, cond_true, cond_false, Bool.or_false, Bool.or_true, Bool.false_or, Bool.true_or, and_self, true_and, and_true, Nat.reduceEqDiff, Nat.reduceBEq, beq_self_eq_true, sub_enR0, Nat.reduceAdd, Nat.zero_add, Nat.le_refl, List.nil_append]
          try (and_intros <;> first | trivial | omega | (intro x y _ _; repeat (first | exact nfR_lit (by simp only [nrefL, nref, and_self]) | exact nfR_en nr_i64 | exact nfR_en nr_b | exact nfR_en nr_TWakeRule | exact nfR_en nr_lTWakeRule | exact nfR_en nr_TWakeTable | exact nfR_en nr_li64 | exact nfR_en nr_u64 | (refine nfR_app (fun x y => ?_) (fun x y => ?_)) | (refine nfR_ins (fun x y => ?_) (fun x y => ?_)) | (refine nfR_del (fun x y => ?_)))))
        · simp only [fzV, fzL, fzOb, fzObL, fzH, fzHF, fzB, fzObB, fzObH, inL, rowOb, geth, cond_true, cond_false, Bool.or_false, Bool.or_true, Bool.false_or, Bool.true_or, and_self, true_and, and_true, Nat.reduceEqDiff, Nat.reduceBEq, beq_self_eq_true, sub_enR0, Nat.reduceAdd, Nat.zero_add, Nat.le_refl, List.nil_append]
          exact Cv_tup (CvL_cons Cv_int (CvL_cons Cv_ronil (CvL_cons Cv_int CvL_nil)))
        · simp only [fzV, fzL, fzOb, fzObL, fzH, fzHF, fzB, fzObB, fzObH, inL, rowOb, geth, cond_true, cond_false, Bool.or_false, Bool.or_true, Bool.false_or, Bool.true_or, and_self, true_and, and_true, Nat.reduceEqDiff, Nat.reduceBEq, beq_self_eq_true, sub_enR0, Nat.reduceAdd, Nat.zero_add, Nat.le_refl, List.nil_append, CvH]
      replace H := cond_f hc H
      refine rg ctNo_ok ?_
      simp only [go_sem, Nat.reduceLeDiff, Nat.reduceLT, Nat.reduceAdd, Nat.reduceMul, Nat.reduceSub, Nat.reduceEqDiff, Nat.reduceBEq, Int.reduceToNat, reduceCtorEq]
      refine seqM ?_
      refine sq ctNo_ok ?_
      simp only [go_sem, Nat.reduceLeDiff, Nat.reduceLT, Nat.reduceAdd, Nat.reduceMul, Nat.reduceSub, Nat.reduceEqDiff, Nat.reduceBEq, Int.reduceToNat, reduceCtorEq]
      repeat ((with_reducible refine And.intro ?_ ?_); focus (first | (with_reducible trivial) | omega | grind))
      refine blkM ?_
      refine loop_den (fun s : Int × Int × (List Int) => [.top, .int .i64 p1, .top, .top, .int .i64 s.2.1, .sl 1 1 0 s.2.2.length s.2.2.isEmpty, .top, .top, .top, .top, .top, .top, .top, .top, .top, .top, .top, .top, .ro 5 p0.List.length false (enR c_TWakeRule p0.List), .int .i64 (p0.List.length : Nat), .int .i64 s.1, .top, .top, .top, .top, .top, .top, .top, .top, .top, .top, .top, .top, .top, .top, .top, .top, .top, .top, .top, .top, .top, .top, .top, .top, .top, .top, .top, .top, .top, .top, .top, .top, .top, .top, .top, .top, .top, .top]) (fun s => [.dead, .row 3 1 s.2.2.length (enR c_i64 s.2.2)]) (fun e : Int × (List Int) => [.top, .top, .top, .top, .int .i64 e.1, .sl 1 1 0 e.2.length e.2.isEmpty, .top, .top, .top, .top, .top, .top, .top, .top, .top, .top, .top, .top, .top, .top, .top, .top, .top, .top, .top, .top, .top, .top, .top, .top, .top, .top, .top, .top, .top, .top, .top, .top, .top, .top, .top, .top, .top, .top, .top, .top, .top, .top, .top, .top, .top, .top, .top, .top, .top, .top, .top, .top, .top]) (fun e => [.dead, .row 3 1 e.2.length (enR c_i64 e.2)]) H ?_ (fun s o H hn1_1 hn2_1 => ?_) (fun e H => ?_)
      · refine SubF_of ⟨[some 0, none], ?_, ?_, by rfl, by rfl⟩
        · simp [CvL, Cv, getM]
        · exact ⟨CvB_dead, CvB_none, trivial⟩
      · obtain ⟨v1_1, v1_2, v1_3⟩ := s
        unfold F28_L1 at H
        try dsimp only at H ⊢
        refine sq ctNo_ok ?_
        simp only [go_sem, Nat.reduceLeDiff, Nat.reduceLT, Nat.reduceAdd, Nat.reduceMul, Nat.reduceSub, Nat.reduceEqDiff, Nat.reduceBEq, Int.reduceToNat, reduceCtorEq]
        refine seqM ?_
        refine condM' rfl trivial (fun hc => ?_) (fun hc => ?_)
        · replace H := cond_f hc H
          refine rg ctNo_ok ?_
          simp only [go_sem, Nat.reduceLeDiff, Nat.reduceLT, Nat.reduceAdd, Nat.reduceMul, Nat.reduceSub, Nat.reduceEqDiff, Nat.reduceBEq, Int.reduceToNat, reduceCtorEq]
          refine ⟨_, (Option.some.inj H).symm, ?_⟩
          refine SubF_of ⟨[some 0, some 1], ?_, ?_, by rfl, by rfl⟩
          · simp [CvL, Cv, getM]
          · exact ⟨CvB_dead, CvB_row nr_i64 (by simp) (fun _ _ _ _ => rfl), trivial⟩
        replace H := cond_t hc H
        refine rg ctNo_ok ?_
        simp only [go_sem, Nat.reduceLeDiff, Nat.reduceLT, Nat.reduceAdd, Nat.reduceMul, Nat.reduceSub, Nat.reduceEqDiff, Nat.reduceBEq, Int.reduceToNat, reduceCtorEq]
        refine seqM ?_
        refine blkM ?_
        refine seqM ?_
        obtain ⟨f3, H⟩ := need_some.1 H
        replace f3 := inb_iff.1 f3
        refine rg ctNo_ok ?_
        simp only [go_sem, Nat.reduceLeDiff, Nat.reduceLT, Nat.reduceAdd, Nat.reduceMul, Nat.reduceSub, Nat.reduceEqDiff, Nat.reduceBEq, Int.reduceToNat, reduceCtorEq, f3]
        repeat ((with_reducible refine And.intro ?_ ?_); focus (first | (with_reducible trivial) | omega | grind))
        refine seqM ?_
        obtain ⟨r4, e5, H⟩ := Option.bind_eq_some_iff.1 H
        refine rg ct28t1_ok ?_
        simp only [go_sem, Nat.reduceLeDiff, Nat.reduceLT, Nat.reduceAdd, Nat.reduceMul, Nat.reduceSub, Nat.reduceEqDiff, Nat.reduceBEq, Int.reduceToNat, reduceCtorEq, ct28t1_12, body12, e5]
        repeat ((with_reducible refine And.intro ?_ ?_); focus (first | (with_reducible trivial) | omega | (intro x y _ _; repeat (first | exact nfR_en nr_i64 | exact nfR_en nr_b | exact nfR_en nr_TWakeRule | exact nfR_en nr_lTWakeRule | exact nfR_en nr_TWakeTable | exact nfR_en nr_li64 | exact nfR_en nr_u64 | exact nfR_lit (by simp only [nrefL, nref, and_self]) | (refine nfR_app (fun x y => ?_) (fun x y => ?_)) | (refine nfR_ins (fun x y => ?_) (fun x y => ?_)) | (refine nfR_del (fun x y => ?_)))) | (intro x hx; repeat (first | (exfalso; omega) | (rcases x with _ | x; first | (and_intros <;> rfl) | rfl))) | (and_intros <;> first | (with_reducible trivial) | omega | assumption | (intro x y _ _; repeat (first | exact nfR_en nr_i64 | exact nfR_en nr_b | exact nfR_en nr_TWakeRule | exact nfR_en nr_lTWakeRule | exact nfR_en nr_TWakeTable | exact nfR_en nr_li64 | exact nfR_en nr_u64 | exact nfR_lit (by simp only [nrefL, nref, and_self]) | (refine nfR_app (fun x y => ?_) (fun x y => ?_)) | (refine nfR_ins (fun x y => ?_) (fun x y => ?_)) | (refine nfR_del (fun x y => ?_)))) | (intro x hx; repeat (first | (exfalso; omega) | (rcases x with _ | x; first | (and_intros <;> rfl) | rfl)))) | grind))
        refine blkM ?_
        refine sq ctNo_ok ?_
        simp only [go_sem, Nat.reduceLeDiff, Nat.reduceLT, Nat.reduceAdd, Nat.reduceMul, Nat.reduceSub, Nat.reduceEqDiff, Nat.reduceBEq, Int.reduceToNat, reduceCtorEq]
        refine condM rfl trivial (fun hc => ?_) (fun hc => ?_)
        · replace H := cond_t hc H
          refine rg ctNo_ok ?_
          simp only [go_sem, Nat.reduceLeDiff, Nat.reduceLT, Nat.reduceAdd, Nat.reduceMul, Nat.reduceSub, Nat.reduceEqDiff, Nat.reduceBEq, Int.reduceToNat, reduceCtorEq]
          refine rg ctNo_ok ?_
          simp only [go_sem, Nat.reduceLeDiff, Nat.reduceLT, Nat.reduceAdd, Nat.reduceMul, Nat.reduceSub, Nat.reduceEqDiff, Nat.reduceBEq, Int.reduceToNat, reduceCtorEq]
          refine ⟨_, (Option.some.inj H).symm, ?_⟩
          refine SubF_of ⟨[some 0, some 1], ?_, ?_, by rfl, by rfl⟩
          · simp [CvL, Cv, getM]
          · exact ⟨CvB_dead, CvB_row nr_i64 (by simp) (fun _ _ _ _ => rfl), trivial⟩
        replace H := cond_f hc H
        refine sq ctNo_ok ?_
        simp only [go_sem, Nat.reduceLeDiff, Nat.reduceLT, Nat.reduceAdd, Nat.reduceMul, Nat.reduceSub, Nat.reduceEqDiff, Nat.reduceBEq, Int.reduceToNat, reduceCtorEq]
        repeat ((with_reducible refine And.intro ?_ ?_); focus (first | (with_reducible trivial) | omega | grind))
        refine condM rfl trivial (fun hc => ?_) (fun hc => ?_)
        · replace H := cond_t hc H
          refine draw_rule shT_ok ctNo_ok 1 (by kernel_rfl) (by kernel_rfl) ?_
          intro an han
          simp only [d_nil, d_cons, nxtD, refsOp, refs, refsL, mask, maskF, place, placeF, okLog, pairOk, hit, inL, slotsF, ren, renL, rnN, nrH, nrB, nrL, nr, dead0, deadS, List.replicate_zero, List.replicate_succ, Nat.sub_self, Nat.add_zero, Nat.zero_add, Nat.reduceSub, Nat.not_lt_zero, Nat.zero_le, Nat.lt_add_one, go_sem, Nat.reduceLeDiff, Nat.reduceLT, Nat.reduceAdd, Nat.reduceMul, Nat.reduceSub, Nat.reduceEqDiff, Nat.reduceBEq, Int.reduceToNat, reduceCtorEq]
          repeat ((with_reducible refine And.intro ?_ ?_); focus (first | (with_reducible trivial) | (subst han; kernel_rfl) | omega | (intro x y _ _; repeat (first | exact nrR_lit (by simp only [nrefL, nref, and_self]) | exact nrR_en nr_i64 | exact nrR_en nr_b | exact nrR_en nr_TWakeRule | exact nrR_en nr_lTWakeRule | exact nrR_en nr_TWakeTable | exact nrR_en nr_li64 | exact nrR_en nr_u64 | (refine nrR_app (fun x y => ?_) (fun x y => ?_)) | (refine nrR_ins (fun x y => ?_) (fun x y => ?_)) | (refine nrR_del (fun x y => ?_)))) | (and_intros <;> first | (with_reducible trivial) | omega | (intro x y _ _; repeat (first | exact nrR_lit (by simp only [nrefL, nref, and_self]) | exact nrR_en nr_i64 | exact nrR_en nr_b | exact nrR_en nr_TWakeRule | exact nrR_en nr_lTWakeRule | exact nrR_en nr_TWakeTable | exact nrR_en nr_li64 | exact nrR_en nr_u64 | (refine nrR_app (fun x y => ?_) (fun x y => ?_)) | (refine nrR_ins (fun x y => ?_) (fun x y => ?_)) | (refine nrR_del (fun x y => ?_)))))))
          refine rg ctNo_ok ?_
          simp only [go_sem, Nat.reduceLeDiff, Nat.reduceLT, Nat.reduceAdd, Nat.reduceMul, Nat.reduceSub, Nat.reduceEqDiff, Nat.reduceBEq, Int.reduceToNat, reduceCtorEq]
          refine ⟨_, (Option.some.inj H).symm, ?_⟩
          refine SubF_of ⟨[some 0, some 3], ?_, ?_, by rfl, by rfl⟩
          · simp [CvL, Cv, getM]
          · exact ⟨CvB_dead, CvB_row nr_i64 (by simp) (lit_row (f := c_i64) [(gd p0.List v1_1.toNat).Id] (fun _ _ => rfl) rfl), trivial⟩
        replace H := cond_f hc H
        refine sq ctNo_ok ?_
        simp only [go_sem, Nat.reduceLeDiff, Nat.reduceLT, Nat.reduceAdd, Nat.reduceMul, Nat.reduceSub, Nat.reduceEqDiff, Nat.reduceBEq, Int.reduceToNat, reduceCtorEq]
        refine condM' rfl trivial (fun hc => ?_) (fun hc => ?_)
        · replace H := cond_f hc H
          refine rg ctNo_ok ?_
          simp only [go_sem, Nat.reduceLeDiff, Nat.reduceLT, Nat.reduceAdd, Nat.reduceMul, Nat.reduceSub, Nat.reduceEqDiff, Nat.reduceBEq, Int.reduceToNat, reduceCtorEq]
          refine rg ctNo_ok ?_
          simp only [go_sem, Nat.reduceLeDiff, Nat.reduceLT, Nat.reduceAdd, Nat.reduceMul, Nat.reduceSub, Nat.reduceEqDiff, Nat.reduceBEq, Int.reduceToNat, reduceCtorEq]
          refine ⟨_, (Option.some.inj H).symm, ?_⟩
          refine SubF_of ⟨[some 0, some 1], ?_, ?_, by rfl, by rfl⟩
          · simp [CvL, Cv, getM]
          · exact ⟨CvB_dead, CvB_row nr_i64 (by simp) (fun _ _ _ _ => rfl), trivial⟩
        replace H := cond_t hc H
        obtain ⟨f6, H⟩ := need_some.1 H
        replace f6 := capb_iff.1 f6
        refine rg ctNo_ok ?_
        simp only [go_sem, Nat.reduceLeDiff, Nat.reduceLT, Nat.reduceAdd, Nat.reduceMul, Nat.reduceSub, Nat.reduceEqDiff, Nat.reduceBEq, Int.reduceToNat, reduceCtorEq, f6]
        repeat ((with_reducible refine And.intro ?_ ?_); focus (first | (with_reducible trivial) | omega | (intro x y _ _; repeat (first | exact nfR_en nr_i64 | exact nfR_en nr_b | exact nfR_en nr_TWakeRule | exact nfR_en nr_lTWakeRule | exact nfR_en nr_TWakeTable | exact nfR_en nr_li64 | exact nfR_en nr_u64 | exact nfR_lit (by simp only [nrefL, nref, and_self]) | (refine nfR_app (fun x y => ?_) (fun x y => ?_)) | (refine nfR_ins (fun x y => ?_) (fun x y => ?_)) | (refine nfR_del (fun x y => ?_)))) | (intro x hx; repeat (first | (exfalso; omega) | (rcases x with _ | x; first | (and_intros <;> rfl) | rfl))) | (and_intros <;> first | (with_reducible trivial) | omega | assumption | (intro x y _ _; repeat (first | exact nfR_en nr_i64 | exact nfR_en nr_b | exact nfR_en nr_TWakeRule | exact nfR_en nr_lTWakeRule | exact nfR_en nr_TWakeTable | exact nfR_en nr_li64 | exact nfR_en nr_u64 | exact nfR_lit (by simp only [nrefL, nref, and_self]) | (refine nfR_app (fun x y => ?_) (fun x y => ?_)) | (refine nfR_ins (fun x y => ?_) (fun x y => ?_)) | (refine nfR_del (fun x y => ?_)))) | (intro x hx; repeat (first | (exfalso; omega) | (rcases x with _ | x; first | (and_intros <;> rfl) | rfl)))) | grind))
        refine rg ctNo_ok ?_
        simp only [go_sem, Nat.reduceLeDiff, Nat.reduceLT, Nat.reduceAdd, Nat.reduceMul, Nat.reduceSub, Nat.reduceEqDiff, Nat.reduceBEq, Int.reduceToNat, reduceCtorEq]
        refine ⟨_, (Option.some.inj H).symm, ?_⟩
        refine SubF_of ⟨[some 0, some 4], ?_, ?_, by rfl, by rfl⟩
        · simp [CvL, Cv, getM]
        · exact ⟨CvB_dead, CvB_row nr_i64 (by simp) (app_row (f := c_i64) v1_3 [(gd p0.List v1_1.toNat).Id] (fun _ _ _ _ => rfl) (lit_row (f := c_i64) [(gd p0.List v1_1.toNat).Id] (fun _ _ => rfl) rfl)), trivial⟩
      · obtain ⟨w1_4, w1_5⟩ := e
        try dsimp only at H ⊢
        try simp only [m_normal, k_normal, b_normal, kL_normal, r_normal]
        refine seqM ?_
        refine sq ctNo_ok ?_
        simp only [go_sem, Nat.reduceLeDiff, Nat.reduceLT, Nat.reduceAdd, Nat.reduceMul, Nat.reduceSub, Nat.reduceEqDiff, Nat.reduceBEq, Int.reduceToNat, reduceCtorEq]
        refine condM rfl trivial (fun hc => ?_) (fun hc => ?_)
        · replace H := cond_t hc H
          refine sq ctNo_ok ?_
          simp only [go_sem, Nat.reduceLeDiff, Nat.reduceLT, Nat.reduceAdd, Nat.reduceMul, Nat.reduceSub, Nat.reduceEqDiff, Nat.reduceBEq, Int.reduceToNat, reduceCtorEq]
          refine rg ctNo_ok ?_
          simp only [go_sem, Nat.reduceLeDiff, Nat.reduceLT, Nat.reduceAdd, Nat.reduceMul, Nat.reduceSub, Nat.reduceEqDiff, Nat.reduceBEq, Int.reduceToNat, reduceCtorEq]
          obtain rfl := Option.some.inj H
          refine ⟨[], ?_, ?_, [], ?_, ?_, rfl⟩
          · simp only [fzV, fzL, fzOb, fzObL, fzH, fzHF, fzB, fzObB, fzObH, inL, rowOb, geth, cond_true, cond_false, Bool.or_false, Bool.or_true, Bool.false_or, Bool.true_or, and_self, true_and, and_true, Nat.reduceEqDiff, Nat.reduceBEq, beq_self_eq_true, sub_enR0, Nat.reduceAdd, Nat.zero_add, Nat.le_refl, List.nil_append]
            try (and_intros <;> first | trivial | omega | (intro x y _ _; repeat (first | exact nfR_lit (by simp only [nrefL, nref, and_self]) | exact nfR_en nr_i64 | exact nfR_en nr_b | exact nfR_en nr_TWakeRule | exact nfR_en nr_lTWakeRule | exact nfR_en nr_TWakeTable | exact nfR_en nr_li64 | exact nfR_en nr_u64 | (refine nfR_app (fun x y => ?_) (fun x y => ?_)) | (refine nfR_ins (fun x y => ?_) (fun x y => ?_)) | (refine nfR_del (fun x y => ?_)))))
          · simp only [fzV, fzL, fzOb, fzObL, fzH, fzHF, fzB, fzObB, fzObH, inL, rowOb, geth, cond_true, cond_false, Bool.or_false, Bool.or_true, Bool.false_or, Bool.true_or, and_self, true_and, and_true, Nat.reduceEqDiff, Nat.reduceBEq, beq_self_eq_true, sub_enR0, Nat.reduceAdd, Nat.zero_add, Nat.le_refl, List.nil_append]
            try (and_intros <;> first | trivial | omega | (intro x y _ _; repeat (first | exact nfR_lit (by simp only [nrefL, nref, and_self]) | exact nfR_en nr_i64 | exact nfR_en nr_b | exact nfR_en nr_TWakeRule | exact nfR_en nr_lTWakeRule | exact nfR_en nr_TWakeTable | exact nfR_en nr_li64 | exact nfR_en nr_u64 | (refine nfR_app (fun x y => ?_) (fun x y => ?_)) | (refine nfR_ins (fun x y => ?_) (fun x y => ?_)) | (refine nfR_del (fun x y => ?_)))))
          · simp only [fzV, fzL, fzOb, fzObL, fzH, fzHF, fzB, fzObB, fzObH, inL, rowOb, geth, cond_true, cond_false, Bool.or_false, Bool.or_true, Bool.false_or, Bool.true_or, and_self, true_and, and_true, Nat.reduceEqDiff, Nat.reduceBEq, beq_self_eq_true, sub_enR0, Nat.reduceAdd, Nat.zero_add, Nat.le_refl, List.nil_append]
            exact Cv_tup (CvL_cons Cv_int (CvL_cons Cv_ronil (CvL_cons Cv_int CvL_nil)))
          · simp only [fzV, fzL, fzOb, fzObL, fzH, fzHF, fzB, fzObB, fzObH, inL, rowOb, geth, cond_true, cond_false, Bool.or_false, Bool.or_true, Bool.false_or, Bool.true_or, and_self, true_and, and_true, Nat.reduceEqDiff, Nat.reduceBEq, beq_self_eq_true, sub_enR0, Nat.reduceAdd, Nat.zero_add, Nat.le_refl, List.nil_append, CvH]
        replace H := cond_f hc H
        refine rg ctNo_ok ?_
        simp only [go_sem, Nat.reduceLeDiff, Nat.reduceLT, Nat.reduceAdd, Nat.reduceMul, Nat.reduceSub, Nat.reduceEqDiff, Nat.reduceBEq, Int.reduceToNat, reduceCtorEq]
        refine sq ctNo_ok ?_
        simp only [go_sem, Nat.reduceLeDiff, Nat.reduceLT, Nat.reduceAdd, Nat.reduceMul, Nat.reduceSub, Nat.reduceEqDiff, Nat.reduceBEq, Int.reduceToNat, reduceCtorEq]
        refine rg ctNo_ok ?_
        simp only [go_sem, Nat.reduceLeDiff, Nat.reduceLT, Nat.reduceAdd, Nat.reduceMul, Nat.reduceSub, Nat.reduceEqDiff, Nat.reduceBEq, Int.reduceToNat, reduceCtorEq]
        obtain rfl := Option.some.inj H
        refine ⟨[1], ?_, ?_, [], ?_, ?_, rfl⟩
        · simp only [fzV, fzL, fzOb, fzObL, fzH, fzHF, fzB, fzObB, fzObH, inL, rowOb, geth, cond_true, cond_false, Bool.or_false, Bool.or_true, Bool.false_or, Bool.true_or, and_self, true_and, and_true, Nat.reduceEqDiff, Nat.reduceBEq, beq_self_eq_true, sub_enR0, Nat.reduceAdd, Nat.zero_add, Nat.le_refl, List.nil_append]
          try (and_intros <;> first | trivial | omega | (intro x y _ _; repeat (first | exact nfR_lit (by simp only [nrefL, nref, and_self]) | exact nfR_en nr_i64 | exact nfR_en nr_b | exact nfR_en nr_TWakeRule | exact nfR_en nr_lTWakeRule | exact nfR_en nr_TWakeTable | exact nfR_en nr_li64 | exact nfR_en nr_u64 | (refine nfR_app (fun x y => ?_) (fun x y => ?_)) | (refine nfR_ins (fun x y => ?_) (fun x y => ?_)) | (refine nfR_del (fun x y => ?_)))))
        · simp only [fzV, fzL, fzOb, fzObL, fzH, fzHF, fzB, fzObB, fzObH, inL, rowOb, geth, cond_true, cond_false, Bool.or_false, Bool.or_true, Bool.false_or, Bool.true_or, and_self, true_and, and_true, Nat.reduceEqDiff, Nat.reduceBEq, beq_self_eq_true, sub_enR0, Nat.reduceAdd, Nat.zero_add, Nat.le_refl, List.nil_append]
          try (and_intros <;> first | trivial | omega | (intro x y _ _; repeat (first | exact nfR_lit (by simp only [nrefL, nref, and_self]) | exact nfR_en nr_i64 | exact nfR_en nr_b | exact nfR_en nr_TWakeRule | exact nfR_en nr_lTWakeRule | exact nfR_en nr_TWakeTable | exact nfR_en nr_li64 | exact nfR_en nr_u64 | (refine nfR_app (fun x y => ?_) (fun x y => ?_)) | (refine nfR_ins (fun x y => ?_) (fun x y => ?_)) | (refine nfR_del (fun x y => ?_)))))
        · simp only [fzV, fzL, fzOb, fzObL, fzH, fzHF, fzB, fzObB, fzObH, inL, rowOb, geth, cond_true, cond_false, Bool.or_false, Bool.or_true, Bool.false_or, Bool.true_or, and_self, true_and, and_true, Nat.reduceEqDiff, Nat.reduceBEq, beq_self_eq_true, sub_enR0, Nat.reduceAdd, Nat.zero_add, Nat.le_refl, List.nil_append]
          exact Cv_tup (CvL_cons Cv_int (CvL_cons (ro_row (by simp) (fun _ _ _ _ => rfl)) (CvL_cons Cv_int CvL_nil)))
        · simp only [fzV, fzL, fzOb, fzObL, fzH, fzHF, fzB, fzObB, fzObH, inL, rowOb, geth, cond_true, cond_false, Bool.or_false, Bool.or_true, Bool.false_or, Bool.true_or, and_self, true_and, and_true, Nat.reduceEqDiff, Nat.reduceBEq, beq_self_eq_true, sub_enR0, Nat.reduceAdd, Nat.zero_add, Nat.le_refl, List.nil_append, CvH]
    · cases hb
  · unfold body28 at hb
    split at hb <;> cases hb
/-! hotspot/wake.meets -/
noncomputable def F44 (p0 : TWakeRule) (p1 : Int) (p2 : Int) : Option (Bool) :=
  bif ((bLt 0 p0.Every) && (bLe (wr .i64 (p0.Start + p0.Length)) p1)) then (need (!(bEq p0.Every 0)) <| some ((bLt (wr .i64 (p0.Start + (wr .i64 ((wr .i64 ((wr .i64 ((wr .i64 (p1 - (wr .i64 (p0.Start + p0.Length)))).tdiv p0.Every)) + 1)) * p0.Every)))) p2) && (bLt p1 (wr .i64 ((wr .i64 (p0.Start + (wr .i64 ((wr .i64 ((wr .i64 ((wr .i64 (p1 - (wr .i64 (p0.Start + p0.Length)))).tdiv p0.Every)) + 1)) * p0.Every)))) + p0.Length))))) else (some ((bLt p0.Start p2) && (bLt p1 (wr .i64 (p0.Start + p0.Length)))))
noncomputable def body44 : List AV → AR
  | [v0, v1, v2] => .pure (aK 5 k_TWakeRule v0 ∧ iK .i64 v1 ∧ iK .i64 v2 ∧ (F44 (g_TWakeRule (aL v0)) (iA v1) (iA v2)).isSome = true) (.bool (gt (F44 (g_TWakeRule (aL v0)) (iA v1) (iA v2))))
  | _ => .fail
set_option maxHeartbeats 4000000 in
set_option maxRecDepth 20000 in
theorem ok44 : FnOk Try.prog 44 (pureC body44) := by
  refine pure_fnM body44 (rs := [.tmp 6]) Try.func44 (by kernel_rfl) rfl rfl ?_
  intro l ob v hb hob
  unfold body44 at hb
  split at hb
  · rename_i v0 v1 v2
    injection hb with q1 q2; subst q1 q2
    obtain ⟨hk0, hk1, hk2, hob⟩ := hob
    obtain ⟨r, H⟩ := Option.isSome_iff_exists.1 hob
    rw [H, gt_some]
    have hw0 := wA_TWakeRule hk0
    have hw1 := iK_wk hk1
    have hw2 := iK_wk hk2
    generalize g_TWakeRule (aL v0) = p0 at H hw0
    generalize iA v1 = p1 at H hw1
    generalize iA v2 = p2 at H hw2
    refine ⟨[.agg [.int .i64 p0.Id, .int .i64 p0.Start, .int .i64 p0.Every, .int .i64 p0.Length, .int .i64 p0.Group], .int .i64 p1, .int .i64 p2], _, (fun E vs F => FR_wk1 hw0.1 F (fun vs F => FR_wk1 hw1.1 F (fun vs F => FR_wk1 hw2.1 F (fun vs F => F)))), rfl, rfl, ?_⟩
    rw [Try.ntmps44]
    simp only [List.length_cons, List.length_nil, Nat.reduceAdd, Nat.reduceSub, List.replicate_succ, List.replicate_zero, List.cons_append, List.nil_append]
    unfold F44 at H
    try dsimp only at H
    refine sq ctNo_ok ?_
    simp only [go_sem, Nat.reduceLeDiff, Nat.reduceLT, Nat.reduceAdd, Nat.reduceMul, Nat.reduceSub, Nat.reduceEqDiff, Nat.reduceBEq, Int.reduceToNat, reduceCtorEq]
    refine sq ctNo_ok ?_
    simp only [go_sem, Nat.reduceLeDiff, Nat.reduceLT, Nat.reduceAdd, Nat.reduceMul, Nat.reduceSub, Nat.reduceEqDiff, Nat.reduceBEq, Int.reduceToNat, reduceCtorEq]
    refine seqM ?_
    refine sq ctNo_ok ?_
    simp only [go_sem, Nat.reduceLeDiff, Nat.reduceLT, Nat.reduceAdd, Nat.reduceMul, Nat.reduceSub, Nat.reduceEqDiff, Nat.reduceBEq, Int.reduceToNat, reduceCtorEq]
    refine sq ctNo_ok ?_
    simp only [go_sem, Nat.reduceLeDiff, Nat.reduceLT, Nat.reduceAdd, Nat.reduceMul, Nat.reduceSub, Nat.reduceEqDiff, Nat.reduceBEq, Int.reduceToNat, reduceCtorEq]
    repeat ((with_reducible refine And.intro ?_ ?_); focus (first | (with_reducible trivial) | omega | grind))
    refine condM' rfl trivial (fun hc => ?_) (fun hc => ?_)
    · replace H := cond_f hc H
      refine rg ctNo_ok ?_
      simp only [go_sem, Nat.reduceLeDiff, Nat.reduceLT, Nat.reduceAdd, Nat.reduceMul, Nat.reduceSub, Nat.reduceEqDiff, Nat.reduceBEq, Int.reduceToNat, reduceCtorEq]
      refine sq ctNo_ok ?_
      simp only [go_sem, Nat.reduceLeDiff, Nat.reduceLT, Nat.reduceAdd, Nat.reduceMul, Nat.reduceSub, Nat.reduceEqDiff, Nat.reduceBEq, Int.reduceToNat, reduceCtorEq]
      repeat ((with_reducible refine And.intro ?_ ?_); focus (first | (with_reducible trivial) | omega | grind))
      refine rg ctNo_ok ?_
      simp only [go_sem, Nat.reduceLeDiff, Nat.reduceLT, Nat.reduceAdd, Nat.reduceMul, Nat.reduceSub, Nat.reduceEqDiff, Nat.reduceBEq, Int.reduceToNat, reduceCtorEq]
      obtain rfl := Option.some.inj H
      first | rfl | simp only [Bool.and_false, Bool.false_and, Bool.and_true, Bool.true_and]
    replace H := cond_t hc H
    obtain ⟨f1, H⟩ := need_some.1 H
    replace f1 := ne0_iff.1 f1
    refine draw_quiet shT_ok ctNo_ok (by kernel_rfl) (by kernel_rfl) ?_
    simp only [go_sem, Nat.reduceLeDiff, Nat.reduceLT, Nat.reduceAdd, Nat.reduceMul, Nat.reduceSub, Nat.reduceEqDiff, Nat.reduceBEq, Int.reduceToNat, reduceCtorEq, f1]
    repeat ((with_reducible refine And.intro ?_ ?_); focus (first | (with_reducible trivial) | omega | grind))
    refine sq ctNo_ok ?_
    simp only [go_sem, Nat.reduceLeDiff, Nat.reduceLT, Nat.reduceAdd, Nat.reduceMul, Nat.reduceSub, Nat.reduceEqDiff, Nat.reduceBEq, Int.reduceToNat, reduceCtorEq]
    repeat ((with_reducible refine And.intro ?_ ?_); focus (first | (with_reducible trivial) | omega | grind))
    refine rg ctNo_ok ?_
    simp only [go_sem, Nat.reduceLeDiff, Nat.reduceLT, Nat.reduceAdd, Nat.reduceMul, Nat.reduceSub, Nat.reduceEqDiff, Nat.reduceBEq, Int.reduceToNat, reduceCtorEq]
    obtain rfl := Option.some.inj H
    first | rfl | simp only [Bool.and_false, Bool.false_and, Bool.and_true, Bool.true_and]
  · cases hb
/-! hotspot/wake.divisor -/
noncomputable def F45_L1 (v1_1 : Int) (v1_2 : Int) : Option (Lp (Int × Int) ((Unit) ⊕ (Int))) :=
  need (!(bEq v1_2 0)) <| bif (!bEq (v1_1.tmod v1_2) 0) then (some (.next (v1_2, v1_1.tmod v1_2))) else (some (.done (.inr v1_2)))
noncomputable def F45 (p0 : Int) (p1 : Int) : Option (Int) :=
  lp (loopD (fun s => F45_L1 s.1 s.2) (p0, p1)) (fun e => none) some
noncomputable def body45 : List AV → AR
  | [v0, v1] => .pure (iK .i64 v0 ∧ iK .i64 v1 ∧ (F45 (iA v0) (iA v1)).isSome = true) (.int .i64 (gt (F45 (iA v0) (iA v1))))
  | _ => .fail
set_option maxHeartbeats 4000000 in
set_option maxRecDepth 20000 in
theorem ok45 : FnOk Try.prog 45 (pureC body45) := by
  refine pure_fnM body45 (rs := [.tmp 4]) Try.func45 (by kernel_rfl) rfl rfl ?_
  intro l ob v hb hob
  unfold body45 at hb
  split at hb
  · rename_i v0 v1
    injection hb with q1 q2; subst q1 q2
    obtain ⟨hk0, hk1, hob⟩ := hob
    obtain ⟨r, H⟩ := Option.isSome_iff_exists.1 hob
    rw [H, gt_some]
    have hw0 := iK_wk hk0
    have hw1 := iK_wk hk1
    generalize iA v0 = p0 at H hw0
    generalize iA v1 = p1 at H hw1
    refine ⟨[.int .i64 p0, .int .i64 p1], _, (fun E vs F => FR_wk1 hw0.1 F (fun vs F => FR_wk1 hw1.1 F (fun vs F => F))), rfl, rfl, ?_⟩
    rw [Try.ntmps45]
    simp only [List.length_cons, List.length_nil, Nat.reduceAdd, Nat.reduceSub, List.replicate_succ, List.replicate_zero, List.cons_append, List.nil_append]
    unfold F45 at H
    try dsimp only at H
    refine sq ctNo_ok ?_
    simp only [go_sem, Nat.reduceLeDiff, Nat.reduceLT, Nat.reduceAdd, Nat.reduceMul, Nat.reduceSub, Nat.reduceEqDiff, Nat.reduceBEq, Int.reduceToNat, reduceCtorEq]
    refine scope_den (l := 0) (fun s : Int × Int => [.int .i64 s.1, .int .i64 s.2, .top, .top, .top, .top, .top, .top, .top, .top, .top, .top, .top]) (fun s => []) (fun e : Unit => [.top, .top, .top, .top, .top, .top, .top, .top, .top, .top, .top, .top, .top]) (fun e => []) (by rfl) H ?_ (fun o H hn1_1 hn2_1 => ?_) (fun s o H hn1_1 hn2_1 => ?_) (fun e H => ?_)
    · refine SubF_of ⟨[], ?_, ?_, by rfl, by rfl⟩
      · simp [CvL, Cv, getM]
      · trivial
    · unfold F45_L1 at H
      try dsimp only at H ⊢
      refine sq ctNo_ok ?_
      simp only [go_sem, Nat.reduceLeDiff, Nat.reduceLT, Nat.reduceAdd, Nat.reduceMul, Nat.reduceSub, Nat.reduceEqDiff, Nat.reduceBEq, Int.reduceToNat, reduceCtorEq]
      refine seqM ?_
      refine seqM ?_
      obtain ⟨f2, H⟩ := need_some.1 H
      replace f2 := ne0_iff.1 f2
      refine rg ctNo_ok ?_
      simp only [go_sem, Nat.reduceLeDiff, Nat.reduceLT, Nat.reduceAdd, Nat.reduceMul, Nat.reduceSub, Nat.reduceEqDiff, Nat.reduceBEq, Int.reduceToNat, reduceCtorEq, f2]
      repeat ((with_reducible refine And.intro ?_ ?_); focus (first | (with_reducible trivial) | omega | grind))
      refine sq ctNo_ok ?_
      simp only [go_sem, Nat.reduceLeDiff, Nat.reduceLT, Nat.reduceAdd, Nat.reduceMul, Nat.reduceSub, Nat.reduceEqDiff, Nat.reduceBEq, Int.reduceToNat, reduceCtorEq]
      refine condM rfl trivial (fun hc => ?_) (fun hc => ?_)
      · replace H := cond_t hc H
        refine sq ctNo_ok ?_
        simp only [go_sem, Nat.reduceLeDiff, Nat.reduceLT, Nat.reduceAdd, Nat.reduceMul, Nat.reduceSub, Nat.reduceEqDiff, Nat.reduceBEq, Int.reduceToNat, reduceCtorEq]
        refine rg ctNo_ok ?_
        simp only [go_sem, Nat.reduceLeDiff, Nat.reduceLT, Nat.reduceAdd, Nat.reduceMul, Nat.reduceSub, Nat.reduceEqDiff, Nat.reduceBEq, Int.reduceToNat, reduceCtorEq]
        refine ⟨_, (Option.some.inj H).symm, ?_⟩
        refine SubF_of ⟨[], ?_, ?_, by rfl, by rfl⟩
        · simp [CvL, Cv, getM]
        · trivial
      replace H := cond_f hc H
      refine rg ctNo_ok ?_
      simp only [go_sem, Nat.reduceLeDiff, Nat.reduceLT, Nat.reduceAdd, Nat.reduceMul, Nat.reduceSub, Nat.reduceEqDiff, Nat.reduceBEq, Int.reduceToNat, reduceCtorEq]
      refine sq ctNo_ok ?_
      simp only [go_sem, Nat.reduceLeDiff, Nat.reduceLT, Nat.reduceAdd, Nat.reduceMul, Nat.reduceSub, Nat.reduceEqDiff, Nat.reduceBEq, Int.reduceToNat, reduceCtorEq]
      refine rg ctNo_ok ?_
      simp only [go_sem, Nat.reduceLeDiff, Nat.reduceLT, Nat.reduceAdd, Nat.reduceMul, Nat.reduceSub, Nat.reduceEqDiff, Nat.reduceBEq, Int.reduceToNat, reduceCtorEq]
      have H := hn2_1 _ (Option.some.inj H).symm
      obtain rfl := Option.some.inj H
      first | rfl | simp only [Bool.and_false, Bool.false_and, Bool.and_true, Bool.true_and]
    · obtain ⟨v1_1, v1_2⟩ := s
      unfold F45_L1 at H
      try dsimp only at H ⊢
      refine sq ctNo_ok ?_
      simp only [go_sem, Nat.reduceLeDiff, Nat.reduceLT, Nat.reduceAdd, Nat.reduceMul, Nat.reduceSub, Nat.reduceEqDiff, Nat.reduceBEq, Int.reduceToNat, reduceCtorEq]
      refine seqM ?_
      refine seqM ?_
      obtain ⟨f2, H⟩ := need_some.1 H
      replace f2 := ne0_iff.1 f2
      refine rg ctNo_ok ?_
      simp only [go_sem, Nat.reduceLeDiff, Nat.reduceLT, Nat.reduceAdd, Nat.reduceMul, Nat.reduceSub, Nat.reduceEqDiff, Nat.reduceBEq, Int.reduceToNat, reduceCtorEq, f2]
      repeat ((with_reducible refine And.intro ?_ ?_); focus (first | (with_reducible trivial) | omega | grind))
      refine sq ctNo_ok ?_
      simp only [go_sem, Nat.reduceLeDiff, Nat.reduceLT, Nat.reduceAdd, Nat.reduceMul, Nat.reduceSub, Nat.reduceEqDiff, Nat.reduceBEq, Int.reduceToNat, reduceCtorEq]
      refine condM rfl trivial (fun hc => ?_) (fun hc => ?_)
      · replace H := cond_t hc H
        refine sq ctNo_ok ?_
        simp only [go_sem, Nat.reduceLeDiff, Nat.reduceLT, Nat.reduceAdd, Nat.reduceMul, Nat.reduceSub, Nat.reduceEqDiff, Nat.reduceBEq, Int.reduceToNat, reduceCtorEq]
        refine rg ctNo_ok ?_
        simp only [go_sem, Nat.reduceLeDiff, Nat.reduceLT, Nat.reduceAdd, Nat.reduceMul, Nat.reduceSub, Nat.reduceEqDiff, Nat.reduceBEq, Int.reduceToNat, reduceCtorEq]
        refine ⟨_, (Option.some.inj H).symm, ?_⟩
        refine SubF_of ⟨[], ?_, ?_, by rfl, by rfl⟩
        · simp [CvL, Cv, getM]
        · trivial
      replace H := cond_f hc H
      refine rg ctNo_ok ?_
      simp only [go_sem, Nat.reduceLeDiff, Nat.reduceLT, Nat.reduceAdd, Nat.reduceMul, Nat.reduceSub, Nat.reduceEqDiff, Nat.reduceBEq, Int.reduceToNat, reduceCtorEq]
      refine sq ctNo_ok ?_
      simp only [go_sem, Nat.reduceLeDiff, Nat.reduceLT, Nat.reduceAdd, Nat.reduceMul, Nat.reduceSub, Nat.reduceEqDiff, Nat.reduceBEq, Int.reduceToNat, reduceCtorEq]
      refine rg ctNo_ok ?_
      simp only [go_sem, Nat.reduceLeDiff, Nat.reduceLT, Nat.reduceAdd, Nat.reduceMul, Nat.reduceSub, Nat.reduceEqDiff, Nat.reduceBEq, Int.reduceToNat, reduceCtorEq]
      have H := hn2_1 _ (Option.some.inj H).symm
      obtain rfl := Option.some.inj H
      first | rfl | simp only [Bool.and_false, Bool.false_and, Bool.and_true, Bool.true_and]
    · try dsimp only at H ⊢
      try simp only [m_normal, k_normal, b_normal, kL_normal, r_normal]
      cases H
  · cases hb
/-! hotspot/wake.overlap -/
noncomputable def ct34t0 : Ct := tab [(44, pureC body44)]
theorem ct34t0_ok : CtOk Try.prog ct34t0 := tab_cons ok44 <| tab_nil
theorem ct34t0_44 (l : List AV) (h : List ABlk) : ct34t0 44 l h = pureC body44 l h := rfl
noncomputable def ct34t1 : Ct := tab [(45, pureC body45)]
theorem ct34t1_ok : CtOk Try.prog ct34t1 := tab_cons ok45 <| tab_nil
theorem ct34t1_45 (l : List AV) (h : List ABlk) : ct34t1 45 l h = pureC body45 l h := rfl
noncomputable def F34 (p0 : TWakeRule) (p1 : TWakeRule) : Option (Bool) :=
  bif (bEq p0.Every 0) then ((F44 p1 p0.Start (wr .i64 (p0.Start + p0.Length))).bind fun r1 => some r1) else (bif (bEq p1.Every 0) then ((F44 p0 p1.Start (wr .i64 (p1.Start + p1.Length))).bind fun r3 => some r3) else ((F45 p0.Every p1.Every).bind fun r5 => need (!(bEq r5 0)) <| bif (bLt ((wr .i64 (p0.Start - p1.Start)).tmod r5) 0) then (some ((bLt (wr .i64 (((wr .i64 (p0.Start - p1.Start)).tmod r5) + r5)) p1.Length) || (bLt (wr .i64 (r5 - (wr .i64 (((wr .i64 (p0.Start - p1.Start)).tmod r5) + r5)))) p0.Length))) else (some ((bLt ((wr .i64 (p0.Start - p1.Start)).tmod r5) p1.Length) || (bLt (wr .i64 (r5 - ((wr .i64 (p0.Start - p1.Start)).tmod r5))) p0.Length)))))
noncomputable def body34 : List AV → AR
  | [v0, v1] => .pure (aK 5 k_TWakeRule v0 ∧ aK 5 k_TWakeRule v1 ∧ (F34 (g_TWakeRule (aL v0)) (g_TWakeRule (aL v1))).isSome = true) (.bool (gt (F34 (g_TWakeRule (aL v0)) (g_TWakeRule (aL v1)))))
  | _ => .fail
set_option maxHeartbeats 4000000 in
set_option maxRecDepth 20000 in
theorem ok34 : FnOk Try.prog 34 (pureC body34) := by
  refine pure_fnM body34 (rs := [.tmp 4]) Try.func34 (by kernel_rfl) rfl rfl ?_
  intro l ob v hb hob
  unfold body34 at hb
  split at hb
  · rename_i v0 v1
    injection hb with q1 q2; subst q1 q2
    obtain ⟨hk0, hk1, hob⟩ := hob
    obtain ⟨r, H⟩ := Option.isSome_iff_exists.1 hob
    rw [H, gt_some]
    have hw0 := wA_TWakeRule hk0
    have hw1 := wA_TWakeRule hk1
    generalize g_TWakeRule (aL v0) = p0 at H hw0
    generalize g_TWakeRule (aL v1) = p1 at H hw1
    refine ⟨[.agg [.int .i64 p0.Id, .int .i64 p0.Start, .int .i64 p0.Every, .int .i64 p0.Length, .int .i64 p0.Group], .agg [.int .i64 p1.Id, .int .i64 p1.Start, .int .i64 p1.Every, .int .i64 p1.Length, .int .i64 p1.Group]], _, (fun E vs F => FR_wk1 hw0.1 F (fun vs F => FR_wk1 hw1.1 F (fun vs F => F))), rfl, rfl, ?_⟩
    rw [Try.ntmps34]
    simp only [List.length_cons, List.length_nil, Nat.reduceAdd, Nat.reduceSub, List.replicate_succ, List.replicate_zero, List.cons_append, List.nil_append]
    unfold F34 at H
    try dsimp only at H
    refine sq ctNo_ok ?_
    simp only [go_sem, Nat.reduceLeDiff, Nat.reduceLT, Nat.reduceAdd, Nat.reduceMul, Nat.reduceSub, Nat.reduceEqDiff, Nat.reduceBEq, Int.reduceToNat, reduceCtorEq]
    refine seqM ?_
    refine blkM ?_
    refine sq ctNo_ok ?_
    simp only [go_sem, Nat.reduceLeDiff, Nat.reduceLT, Nat.reduceAdd, Nat.reduceMul, Nat.reduceSub, Nat.reduceEqDiff, Nat.reduceBEq, Int.reduceToNat, reduceCtorEq]
    refine condM rfl trivial (fun hc => ?_) (fun hc => ?_)
    · replace H := cond_t hc H
      refine seqM ?_
      obtain ⟨r1, e2, H⟩ := Option.bind_eq_some_iff.1 H
      refine rg ct34t0_ok ?_
      simp only [go_sem, Nat.reduceLeDiff, Nat.reduceLT, Nat.reduceAdd, Nat.reduceMul, Nat.reduceSub, Nat.reduceEqDiff, Nat.reduceBEq, Int.reduceToNat, reduceCtorEq, ct34t0_44, body44, e2]
      repeat ((with_reducible refine And.intro ?_ ?_); focus (first | (with_reducible trivial) | omega | grind))
      refine rg ctNo_ok ?_
      simp only [go_sem, Nat.reduceLeDiff, Nat.reduceLT, Nat.reduceAdd, Nat.reduceMul, Nat.reduceSub, Nat.reduceEqDiff, Nat.reduceBEq, Int.reduceToNat, reduceCtorEq]
      obtain rfl := Option.some.inj H
      first | rfl | simp only [Bool.and_false, Bool.false_and, Bool.and_true, Bool.true_and]
    replace H := cond_f hc H
    refine sq ctNo_ok ?_
    simp only [go_sem, Nat.reduceLeDiff, Nat.reduceLT, Nat.reduceAdd, Nat.reduceMul, Nat.reduceSub, Nat.reduceEqDiff, Nat.reduceBEq, Int.reduceToNat, reduceCtorEq]
    refine condM rfl trivial (fun hc => ?_) (fun hc => ?_)
    · replace H := cond_t hc H
      refine seqM ?_
      obtain ⟨r3, e4, H⟩ := Option.bind_eq_some_iff.1 H
      refine rg ct34t0_ok ?_
      simp only [go_sem, Nat.reduceLeDiff, Nat.reduceLT, Nat.reduceAdd, Nat.reduceMul, Nat.reduceSub, Nat.reduceEqDiff, Nat.reduceBEq, Int.reduceToNat, reduceCtorEq, ct34t0_44, body44, e4]
      repeat ((with_reducible refine And.intro ?_ ?_); focus (first | (with_reducible trivial) | omega | grind))
      refine rg ctNo_ok ?_
      simp only [go_sem, Nat.reduceLeDiff, Nat.reduceLT, Nat.reduceAdd, Nat.reduceMul, Nat.reduceSub, Nat.reduceEqDiff, Nat.reduceBEq, Int.reduceToNat, reduceCtorEq]
      obtain rfl := Option.some.inj H
      first | rfl | simp only [Bool.and_false, Bool.false_and, Bool.and_true, Bool.true_and]
    replace H := cond_f hc H
    refine rg ctNo_ok ?_
    simp only [go_sem, Nat.reduceLeDiff, Nat.reduceLT, Nat.reduceAdd, Nat.reduceMul, Nat.reduceSub, Nat.reduceEqDiff, Nat.reduceBEq, Int.reduceToNat, reduceCtorEq]
    refine seqM ?_
    obtain ⟨r5, e6, H⟩ := Option.bind_eq_some_iff.1 H
    refine rg ct34t1_ok ?_
    simp only [go_sem, Nat.reduceLeDiff, Nat.reduceLT, Nat.reduceAdd, Nat.reduceMul, Nat.reduceSub, Nat.reduceEqDiff, Nat.reduceBEq, Int.reduceToNat, reduceCtorEq, ct34t1_45, body45, e6]
    repeat ((with_reducible refine And.intro ?_ ?_); focus (first | (with_reducible trivial) | omega | grind))
    refine seqM ?_
    obtain ⟨f7, H⟩ := need_some.1 H
    replace f7 := ne0_iff.1 f7
    refine rg ctNo_ok ?_
    simp only [go_sem, Nat.reduceLeDiff, Nat.reduceLT, Nat.reduceAdd, Nat.reduceMul, Nat.reduceSub, Nat.reduceEqDiff, Nat.reduceBEq, Int.reduceToNat, reduceCtorEq, f7]
    repeat ((with_reducible refine And.intro ?_ ?_); focus (first | (with_reducible trivial) | omega | grind))
    refine seqM ?_
    refine sq ctNo_ok ?_
    simp only [go_sem, Nat.reduceLeDiff, Nat.reduceLT, Nat.reduceAdd, Nat.reduceMul, Nat.reduceSub, Nat.reduceEqDiff, Nat.reduceBEq, Int.reduceToNat, reduceCtorEq]
    refine condM rfl trivial (fun hc => ?_) (fun hc => ?_)
    · replace H := cond_t hc H
      refine rg ctNo_ok ?_
      simp only [go_sem, Nat.reduceLeDiff, Nat.reduceLT, Nat.reduceAdd, Nat.reduceMul, Nat.reduceSub, Nat.reduceEqDiff, Nat.reduceBEq, Int.reduceToNat, reduceCtorEq]
      refine sq ctNo_ok ?_
      simp only [go_sem, Nat.reduceLeDiff, Nat.reduceLT, Nat.reduceAdd, Nat.reduceMul, Nat.reduceSub, Nat.reduceEqDiff, Nat.reduceBEq, Int.reduceToNat, reduceCtorEq]
      repeat ((with_reducible refine And.intro ?_ ?_); focus (first | (with_reducible trivial) | omega | grind))
      refine rg ctNo_ok ?_
      simp only [go_sem, Nat.reduceLeDiff, Nat.reduceLT, Nat.reduceAdd, Nat.reduceMul, Nat.reduceSub, Nat.reduceEqDiff, Nat.reduceBEq, Int.reduceToNat, reduceCtorEq]
      obtain rfl := Option.some.inj H
      first | rfl | simp only [Bool.and_false, Bool.false_and, Bool.and_true, Bool.true_and]
    replace H := cond_f hc H
    refine rg ctNo_ok ?_
    simp only [go_sem, Nat.reduceLeDiff, Nat.reduceLT, Nat.reduceAdd, Nat.reduceMul, Nat.reduceSub, Nat.reduceEqDiff, Nat.reduceBEq, Int.reduceToNat, reduceCtorEq]
    refine sq ctNo_ok ?_
    simp only [go_sem, Nat.reduceLeDiff, Nat.reduceLT, Nat.reduceAdd, Nat.reduceMul, Nat.reduceSub, Nat.reduceEqDiff, Nat.reduceBEq, Int.reduceToNat, reduceCtorEq]
    repeat ((with_reducible refine And.intro ?_ ?_); focus (first | (with_reducible trivial) | omega | grind))
    refine rg ctNo_ok ?_
    simp only [go_sem, Nat.reduceLeDiff, Nat.reduceLT, Nat.reduceAdd, Nat.reduceMul, Nat.reduceSub, Nat.reduceEqDiff, Nat.reduceBEq, Int.reduceToNat, reduceCtorEq]
    obtain rfl := Option.some.inj H
    first | rfl | simp only [Bool.and_false, Bool.false_and, Bool.and_true, Bool.true_and]
  · cases hb
/-! hotspot/wake.Answer$1 -/
noncomputable def ct36_0t0 : Ct := tab [(34, pureC body34)]
theorem ct36_0t0_ok : CtOk Try.prog ct36_0t0 := tab_cons ok34 <| tab_nil
theorem ct36_0t0_34 (l : List AV) (h : List ABlk) : ct36_0t0 34 l h = pureC body34 l h := rfl
noncomputable def F36_0 (p0 : TWakeRule) (p1 : TWakeRule) : Option (Bool) :=
  need (bif ((!bEq p0.Id p1.Id) && ((bEq p0.Group 0) || (!bEq p0.Group p1.Group))) then ((F34 p0 p1).isSome) else true) <| some (((!bEq p0.Id p1.Id) && ((bEq p0.Group 0) || (!bEq p0.Group p1.Group))) && (gt (F34 p0 p1)))
noncomputable def body36_0 : List AV → AR
  | [v0, v1] => .pure (aK 5 k_TWakeRule v0 ∧ rK 5 k_TWakeRule v1 ∧ (F36_0 (g_TWakeRule (aL v0)) (g_TWakeRule (rG v1))).isSome = true) (.bool (gt (F36_0 (g_TWakeRule (aL v0)) (g_TWakeRule (rG v1)))))
  | _ => .fail
set_option maxHeartbeats 4000000 in
set_option maxRecDepth 20000 in
theorem ok36_0 : FnOk Try.prog 36 (pureC body36_0) := by
  refine pure_fnM body36_0 (rs := [.tmp 3]) Try.func36 (by kernel_rfl) rfl rfl ?_
  intro l ob v hb hob
  unfold body36_0 at hb
  split at hb
  · rename_i v0 v1
    injection hb with q1 q2; subst q1 q2
    obtain ⟨hk0, hk1, hob⟩ := hob
    obtain ⟨r, H⟩ := Option.isSome_iff_exists.1 hob
    rw [H, gt_some]
    have hw0 := wA_TWakeRule hk0
    have hw1 := rK_wk (f := c_TWakeRule) (g := g_TWakeRule) (fun r h => w_TWakeRule h) hk1
    generalize g_TWakeRule (aL v0) = p0 at H hw0
    generalize g_TWakeRule (rG v1) = p1 at H hw1
    refine ⟨[.agg [.int .i64 p0.Id, .int .i64 p0.Start, .int .i64 p0.Every, .int .i64 p0.Length, .int .i64 p0.Group], .rptr 5 1 0 0 (enR c_TWakeRule [p1])], _, (fun E vs F => FR_wk1 hw0.1 F (fun vs F => FR_wk1 hw1.1 F (fun vs F => F))), rfl, rfl, ?_⟩
    rw [Try.ntmps36]
    simp only [List.length_cons, List.length_nil, Nat.reduceAdd, Nat.reduceSub, List.replicate_succ, List.replicate_zero, List.cons_append, List.nil_append]
    unfold F36_0 at H
    try dsimp only at H
    refine sq ctNo_ok ?_
    simp only [go_sem, Nat.reduceLeDiff, Nat.reduceLT, Nat.reduceAdd, Nat.reduceMul, Nat.reduceSub, Nat.reduceEqDiff, Nat.reduceBEq, Int.reduceToNat, reduceCtorEq]
    refine seqM ?_
    obtain ⟨f1, H⟩ := need_some.1 H
    replace f1 := g_iff.1 f1
    refine rg ct36_0t0_ok ?_
    simp only [go_sem, Nat.reduceLeDiff, Nat.reduceLT, Nat.reduceAdd, Nat.reduceMul, Nat.reduceSub, Nat.reduceEqDiff, Nat.reduceBEq, Int.reduceToNat, reduceCtorEq, ct36_0t0_34, body34]
    repeat ((with_reducible refine And.intro ?_ ?_); focus (first | (with_reducible trivial) | omega | (intro g; have q := f1 g; first | exact q | exact ⟨q.1, q.2.1⟩ | exact q.2.2 | omega) | grind))
    refine rg ctNo_ok ?_
    simp only [go_sem, Nat.reduceLeDiff, Nat.reduceLT, Nat.reduceAdd, Nat.reduceMul, Nat.reduceSub, Nat.reduceEqDiff, Nat.reduceBEq, Int.reduceToNat, reduceCtorEq]
    obtain rfl := Option.some.inj H
    first | rfl | simp only [Bool.and_false, Bool.false_and, Bool.and_true, Bool.true_and]
  · cases hb
/-! slices.IndexFunc[[]hotspot/api.WakeRule,hotspot/api.WakeRule] -/
noncomputable def ct47_0t0 : Ct := tab [(36, pureC body36_0)]
theorem ct47_0t0_ok : CtOk Try.prog ct47_0t0 := tab_cons ok36_0 <| tab_nil
theorem ct47_0t0_36 (l : List AV) (h : List ABlk) : ct47_0t0 36 l h = pureC body36_0 l h := rfl
noncomputable def F47_0_L1 (p0 : List TWakeRule) (p1 : TWakeRule) (v1_1 : Int) : Option (Lp (Int) ((Unit) ⊕ (Int))) :=
  bif (bLt v1_1 (p0.length : Nat)) then (need (inb v1_1 p0.length) <| (F36_0 (gd p0 v1_1.toNat) p1).bind fun r2 => bif r2 then (some (.done (.inr v1_1))) else (some (.next (wr .i64 (v1_1 + 1))))) else (some (.done (.inl ())))
noncomputable def F47_0 (p0 : List TWakeRule) (p1 : TWakeRule) : Option (Int) :=
  lp (loopD (fun s => F47_0_L1 p0 p1 s) 0) (fun e => some (-1)) some
noncomputable def body47_0 : List AV → AR
  | [v0, .fn 36 [v1]] => .pure (lK k_TWakeRule 5 v0 ∧ rK 5 k_TWakeRule v1 ∧ (F47_0 (lA g_TWakeRule v0) (g_TWakeRule (rG v1))).isSome = true) (.int .i64 (gt (F47_0 (lA g_TWakeRule v0) (g_TWakeRule (rG v1)))))
  | _ => .fail
set_option maxHeartbeats 4000000 in
set_option maxRecDepth 20000 in
theorem ok47_0 : FnOk Try.prog 47 (pureC body47_0) := by
  refine pure_fnM body47_0 (rs := [.tmp 4]) Try.func47 (by kernel_rfl) rfl rfl ?_
  intro l ob v hb hob
  unfold body47_0 at hb
  split at hb
  · rename_i v0 v1
    injection hb with q1 q2; subst q1 q2
    obtain ⟨hk0, hk1, hob⟩ := hob
    obtain ⟨r, H⟩ := Option.isSome_iff_exists.1 hob
    rw [H, gt_some]
    have hw0 := lK_wk (fun r h => w_TWakeRule h) hk0
    have hw1 := rK_wk (f := c_TWakeRule) (g := g_TWakeRule) (fun r h => w_TWakeRule h) hk1
    generalize lA g_TWakeRule v0 = p0 at H hw0
    generalize g_TWakeRule (rG v1) = p1 at H hw1
    refine ⟨[.ro 5 p0.length false (enR c_TWakeRule p0), .fn 36 [.rptr 5 1 0 0 (enR c_TWakeRule [p1])]], _, (fun E vs F => FR_wk1 hw0.1 F (fun vs F => FR_wk1 (fn_wk (LW_cons hw1.1 LW_nil)) F (fun vs F => F))), rfl, rfl, ?_⟩
    rw [Try.ntmps47]
    simp only [List.length_cons, List.length_nil, Nat.reduceAdd, Nat.reduceSub, List.replicate_succ, List.replicate_zero, List.cons_append, List.nil_append]
    unfold F47_0 at H
    try dsimp only at H
    refine sq ctNo_ok ?_
    simp only [go_sem, Nat.reduceLeDiff, Nat.reduceLT, Nat.reduceAdd, Nat.reduceMul, Nat.reduceSub, Nat.reduceEqDiff, Nat.reduceBEq, Int.reduceToNat, reduceCtorEq]
    refine seqM ?_
    refine sq ctNo_ok ?_
    simp only [go_sem, Nat.reduceLeDiff, Nat.reduceLT, Nat.reduceAdd, Nat.reduceMul, Nat.reduceSub, Nat.reduceEqDiff, Nat.reduceBEq, Int.reduceToNat, reduceCtorEq]
    repeat ((with_reducible refine And.intro ?_ ?_); focus (first | (with_reducible trivial) | omega | grind))
    refine blkM ?_
    refine loop_den (fun s : Int => [.ro 5 p0.length false (enR c_TWakeRule p0), .fn 36 [.rptr 5 1 0 0 (enR c_TWakeRule [p1])], .top, .top, .top, .top, .top, .int .i64 (p0.length : Nat), .int .i64 s, .top, .top, .top, .top, .top, .top, .top, .top, .top, .top]) (fun s => []) (fun e : Unit => [.top, .top, .top, .top, .top, .top, .top, .top, .top, .top, .top, .top, .top, .top, .top, .top, .top, .top, .top]) (fun e => []) H ?_ (fun v1_1 o H hn1_1 hn2_1 => ?_) (fun e H => ?_)
    · refine SubF_of ⟨[], ?_, ?_, by rfl, by rfl⟩
      · simp [CvL, Cv, getM]
      · trivial
    · unfold F47_0_L1 at H
      try dsimp only at H ⊢
      refine sq ctNo_ok ?_
      simp only [go_sem, Nat.reduceLeDiff, Nat.reduceLT, Nat.reduceAdd, Nat.reduceMul, Nat.reduceSub, Nat.reduceEqDiff, Nat.reduceBEq, Int.reduceToNat, reduceCtorEq]
      refine seqM ?_
      refine condM' rfl trivial (fun hc => ?_) (fun hc => ?_)
      · replace H := cond_f hc H
        refine rg ctNo_ok ?_
        simp only [go_sem, Nat.reduceLeDiff, Nat.reduceLT, Nat.reduceAdd, Nat.reduceMul, Nat.reduceSub, Nat.reduceEqDiff, Nat.reduceBEq, Int.reduceToNat, reduceCtorEq]
        refine ⟨_, (Option.some.inj H).symm, ?_⟩
        refine SubF_of ⟨[], ?_, ?_, by rfl, by rfl⟩
        · simp [CvL, Cv, getM]
        · trivial
      replace H := cond_t hc H
      refine rg ctNo_ok ?_
      simp only [go_sem, Nat.reduceLeDiff, Nat.reduceLT, Nat.reduceAdd, Nat.reduceMul, Nat.reduceSub, Nat.reduceEqDiff, Nat.reduceBEq, Int.reduceToNat, reduceCtorEq]
      refine seqM ?_
      refine blkM ?_
      refine sq ctNo_ok ?_
      simp only [go_sem, Nat.reduceLeDiff, Nat.reduceLT, Nat.reduceAdd, Nat.reduceMul, Nat.reduceSub, Nat.reduceEqDiff, Nat.reduceBEq, Int.reduceToNat, reduceCtorEq]
      refine seqM ?_
      obtain ⟨f1, H⟩ := need_some.1 H
      replace f1 := inb_iff.1 f1
      obtain ⟨r2, e3, H⟩ := Option.bind_eq_some_iff.1 H
      refine rg ct47_0t0_ok ?_
      simp only [go_sem, Nat.reduceLeDiff, Nat.reduceLT, Nat.reduceAdd, Nat.reduceMul, Nat.reduceSub, Nat.reduceEqDiff, Nat.reduceBEq, Int.reduceToNat, reduceCtorEq, ct47_0t0_36, body36_0, f1, e3]
      repeat ((with_reducible refine And.intro ?_ ?_); focus (first | (with_reducible trivial) | omega | grind))
      refine condM rfl trivial (fun hc => ?_) (fun hc => ?_)
      · replace H := cond_t hc H
        refine sq ctNo_ok ?_
        simp only [go_sem, Nat.reduceLeDiff, Nat.reduceLT, Nat.reduceAdd, Nat.reduceMul, Nat.reduceSub, Nat.reduceEqDiff, Nat.reduceBEq, Int.reduceToNat, reduceCtorEq]
        refine rg ctNo_ok ?_
        simp only [go_sem, Nat.reduceLeDiff, Nat.reduceLT, Nat.reduceAdd, Nat.reduceMul, Nat.reduceSub, Nat.reduceEqDiff, Nat.reduceBEq, Int.reduceToNat, reduceCtorEq]
        have H := hn2_1 _ (Option.some.inj H).symm
        obtain rfl := Option.some.inj H
        first | rfl | simp only [Bool.and_false, Bool.false_and, Bool.and_true, Bool.true_and]
      replace H := cond_f hc H
      refine rg ctNo_ok ?_
      simp only [go_sem, Nat.reduceLeDiff, Nat.reduceLT, Nat.reduceAdd, Nat.reduceMul, Nat.reduceSub, Nat.reduceEqDiff, Nat.reduceBEq, Int.reduceToNat, reduceCtorEq]
      refine rg ctNo_ok ?_
      simp only [go_sem, Nat.reduceLeDiff, Nat.reduceLT, Nat.reduceAdd, Nat.reduceMul, Nat.reduceSub, Nat.reduceEqDiff, Nat.reduceBEq, Int.reduceToNat, reduceCtorEq]
      refine ⟨_, (Option.some.inj H).symm, ?_⟩
      refine SubF_of ⟨[], ?_, ?_, by rfl, by rfl⟩
      · simp [CvL, Cv, getM]
      · trivial
    · try dsimp only at H ⊢
      try simp only [m_normal, k_normal, b_normal, kL_normal, r_normal]
      refine sq ctNo_ok ?_
      simp only [go_sem, Nat.reduceLeDiff, Nat.reduceLT, Nat.reduceAdd, Nat.reduceMul, Nat.reduceSub, Nat.reduceEqDiff, Nat.reduceBEq, Int.reduceToNat, reduceCtorEq]
      refine rg ctNo_ok ?_
      simp only [go_sem, Nat.reduceLeDiff, Nat.reduceLT, Nat.reduceAdd, Nat.reduceMul, Nat.reduceSub, Nat.reduceEqDiff, Nat.reduceBEq, Int.reduceToNat, reduceCtorEq]
      obtain rfl := Option.some.inj H
      first | rfl | simp only [Bool.and_false, Bool.false_and, Bool.and_true, Bool.true_and]
  · cases hb
/-! slices.ContainsFunc[[]hotspot/api.WakeRule,hotspot/api.WakeRule] -/
noncomputable def ct37_0t0 : Ct := tab [(47, pureC body47_0)]
theorem ct37_0t0_ok : CtOk Try.prog ct37_0t0 := tab_cons ok47_0 <| tab_nil
theorem ct37_0t0_47 (l : List AV) (h : List ABlk) : ct37_0t0 47 l h = pureC body47_0 l h := rfl
noncomputable def F37_0 (p0 : List TWakeRule) (p1 : TWakeRule) : Option (Bool) :=
  (F47_0 p0 p1).bind fun r1 => some (bLe 0 r1)
noncomputable def body37_0 : List AV → AR
  | [v0, .fn 36 [v1]] => .pure (lK k_TWakeRule 5 v0 ∧ rK 5 k_TWakeRule v1 ∧ (F37_0 (lA g_TWakeRule v0) (g_TWakeRule (rG v1))).isSome = true) (.bool (gt (F37_0 (lA g_TWakeRule v0) (g_TWakeRule (rG v1)))))
  | _ => .fail
set_option maxHeartbeats 4000000 in
set_option maxRecDepth 20000 in
theorem ok37_0 : FnOk Try.prog 37 (pureC body37_0) := by
  refine pure_fnM body37_0 (rs := [.tmp 4]) Try.func37 (by kernel_rfl) rfl rfl ?_
  intro l ob v hb hob
  unfold body37_0 at hb
  split at hb
  · rename_i v0 v1
    injection hb with q1 q2; subst q1 q2
    obtain ⟨hk0, hk1, hob⟩ := hob
    obtain ⟨r, H⟩ := Option.isSome_iff_exists.1 hob
    rw [H, gt_some]
    have hw0 := lK_wk (fun r h => w_TWakeRule h) hk0
    have hw1 := rK_wk (f := c_TWakeRule) (g := g_TWakeRule) (fun r h => w_TWakeRule h) hk1
    generalize lA g_TWakeRule v0 = p0 at H hw0
    generalize g_TWakeRule (rG v1) = p1 at H hw1
    refine ⟨[.ro 5 p0.length false (enR c_TWakeRule p0), .fn 36 [.rptr 5 1 0 0 (enR c_TWakeRule [p1])]], _, (fun E vs F => FR_wk1 hw0.1 F (fun vs F => FR_wk1 (fn_wk (LW_cons hw1.1 LW_nil)) F (fun vs F => F))), rfl, rfl, ?_⟩
    rw [Try.ntmps37]
    simp only [List.length_cons, List.length_nil, Nat.reduceAdd, Nat.reduceSub, List.replicate_succ, List.replicate_zero, List.cons_append, List.nil_append]
    unfold F37_0 at H
    try dsimp only at H
    refine sq ctNo_ok ?_
    simp only [go_sem, Nat.reduceLeDiff, Nat.reduceLT, Nat.reduceAdd, Nat.reduceMul, Nat.reduceSub, Nat.reduceEqDiff, Nat.reduceBEq, Int.reduceToNat, reduceCtorEq]
    refine seqM ?_
    obtain ⟨r1, e2, H⟩ := Option.bind_eq_some_iff.1 H
    refine rg ct37_0t0_ok ?_
    simp only [go_sem, Nat.reduceLeDiff, Nat.reduceLT, Nat.reduceAdd, Nat.reduceMul, Nat.reduceSub, Nat.reduceEqDiff, Nat.reduceBEq, Int.reduceToNat, reduceCtorEq, ct37_0t0_47, body47_0, e2]
    repeat ((with_reducible refine And.intro ?_ ?_); focus (first | (with_reducible trivial) | omega | grind))
    refine rg ctNo_ok ?_
    simp only [go_sem, Nat.reduceLeDiff, Nat.reduceLT, Nat.reduceAdd, Nat.reduceMul, Nat.reduceSub, Nat.reduceEqDiff, Nat.reduceBEq, Int.reduceToNat, reduceCtorEq]
    obtain rfl := Option.some.inj H
    first | rfl | simp only [Bool.and_false, Bool.false_and, Bool.and_true, Bool.true_and]
  · cases hb
/-! hotspot/wake.Answer -/
noncomputable def ct22t0 : Ct := tab [(32, pureC body32)]
theorem ct22t0_ok : CtOk Try.prog ct22t0 := tab_cons ok32 <| tab_nil
theorem ct22t0_32 (l : List AV) (h : List ABlk) : ct22t0 32 l h = pureC body32 l h := rfl
noncomputable def ct22t1 : Ct := tab [(17, pureC body17)]
theorem ct22t1_ok : CtOk Try.prog ct22t1 := tab_cons ok17 <| tab_nil
theorem ct22t1_17 (l : List AV) (h : List ABlk) : ct22t1 17 l h = pureC body17 l h := rfl
noncomputable def ct22t2 : Ct := tab [(17, pureC body17), (37, pureC body37_0)]
theorem ct22t2_ok : CtOk Try.prog ct22t2 := tab_cons ok17 <| tab_cons ok37_0 <| tab_nil
theorem ct22t2_17 (l : List AV) (h : List ABlk) : ct22t2 17 l h = pureC body17 l h := rfl
theorem ct22t2_37 (l : List AV) (h : List ABlk) : ct22t2 37 l h = pureC body37_0 l h := rfl
noncomputable def F22_L1 (p0 : TWakeTable) (p1 : TWakeRule) (v1_1 : Int) (v1_2 : Int) : Option (Lp (Int × Int) ((Unit) ⊕ (TWakeRule × Int))) :=
  bif (bLt v1_1 65) then ((F17 (TWakeRule.mk p1.Id v1_2 p1.Every p1.Length p1.Group)).bind fun r5 => need (bif (bEq r5 0) then ((F37_0 p0.List (TWakeRule.mk p1.Id v1_2 p1.Every p1.Length p1.Group)).isSome) else true) <| bif ((bEq r5 0) && (!(gt (F37_0 p0.List (TWakeRule.mk p1.Id v1_2 p1.Every p1.Length p1.Group))))) then (some (.done (.inr ((TWakeRule.mk p1.Id v1_2 p1.Every p1.Length p1.Group), 0)))) else (some (.next (wr .i64 (v1_1 + 1), wr .i64 (v1_2 + p1.Length))))) else (some (.done (.inl ())))
noncomputable def F22 (p0 : TWakeTable) (p1 : TWakeRule) : Option (TWakeRule × Int) :=
  (F32 p0).bind fun r1 => bif (!bEq r1 0) then (some ((TWakeRule.mk 0 0 0 0 0), r1)) else ((F17 p1).bind fun r3 => bif (!bEq r3 0) then (some ((TWakeRule.mk 0 0 0 0 0), 2)) else (lp (loopD (fun s => F22_L1 p0 p1 s.1 s.2) (0, p1.Start)) (fun e => some ((TWakeRule.mk 0 0 0 0 0), 22)) some))
noncomputable def body22 : List AV → AR
  | [v0, v1] => .pure (aK 1 k_TWakeTable v0 ∧ aK 5 k_TWakeRule v1 ∧ (F22 (g_TWakeTable (aL v0)) (g_TWakeRule (aL v1))).isSome = true) (.tup [.agg [.int .i64 (((gt (F22 (g_TWakeTable (aL v0)) (g_TWakeRule (aL v1)))).1).Id), .int .i64 (((gt (F22 (g_TWakeTable (aL v0)) (g_TWakeRule (aL v1)))).1).Start), .int .i64 (((gt (F22 (g_TWakeTable (aL v0)) (g_TWakeRule (aL v1)))).1).Every), .int .i64 (((gt (F22 (g_TWakeTable (aL v0)) (g_TWakeRule (aL v1)))).1).Length), .int .i64 (((gt (F22 (g_TWakeTable (aL v0)) (g_TWakeRule (aL v1)))).1).Group)], .int .i64 ((gt (F22 (g_TWakeTable (aL v0)) (g_TWakeRule (aL v1)))).2)])
  | _ => .fail
set_option maxHeartbeats 4000000 in
set_option maxRecDepth 20000 in
theorem ok22 : FnOk Try.prog 22 (pureC body22) := by
  refine pure_fnM body22 (rs := [.cell 4 23, .tmp 5]) Try.func22 (by kernel_rfl) rfl rfl ?_
  intro l ob v hb hob
  unfold body22 at hb
  split at hb
  · rename_i v0 v1
    injection hb with q1 q2; subst q1 q2
    obtain ⟨hk0, hk1, hob⟩ := hob
    obtain ⟨r, H⟩ := Option.isSome_iff_exists.1 hob
    rw [H, gt_some]
    have hw0 := wA_TWakeTable hk0
    have hw1 := wA_TWakeRule hk1
    generalize g_TWakeTable (aL v0) = p0 at H hw0
    generalize g_TWakeRule (aL v1) = p1 at H hw1
    refine ⟨[.agg [.ro 5 p0.List.length false (enR c_TWakeRule p0.List)], .agg [.int .i64 p1.Id, .int .i64 p1.Start, .int .i64 p1.Every, .int .i64 p1.Length, .int .i64 p1.Group]], _, (fun E vs F => FR_wk1 hw0.1 F (fun vs F => FR_wk1 hw1.1 F (fun vs F => F))), rfl, rfl, ?_⟩
    rw [Try.ntmps22]
    simp only [List.length_cons, List.length_nil, Nat.reduceAdd, Nat.reduceSub, List.replicate_succ, List.replicate_zero, List.cons_append, List.nil_append]
    unfold F22 at H
    try dsimp only at H
    refine sq ctNo_ok ?_
    simp only [go_sem, Nat.reduceLeDiff, Nat.reduceLT, Nat.reduceAdd, Nat.reduceMul, Nat.reduceSub, Nat.reduceEqDiff, Nat.reduceBEq, Int.reduceToNat, reduceCtorEq]
    refine seqM ?_
    refine seqM ?_
    obtain ⟨r1, e2, H⟩ := Option.bind_eq_some_iff.1 H
    refine rg ct22t0_ok ?_
    simp only [go_sem, Nat.reduceLeDiff, Nat.reduceLT, Nat.reduceAdd, Nat.reduceMul, Nat.reduceSub, Nat.reduceEqDiff, Nat.reduceBEq, Int.reduceToNat, reduceCtorEq, ct22t0_32, body32, e2]
    repeat ((with_reducible refine And.intro ?_ ?_); focus (first | (with_reducible trivial) | omega | grind))
    refine sq ctNo_ok ?_
    simp only [go_sem, Nat.reduceLeDiff, Nat.reduceLT, Nat.reduceAdd, Nat.reduceMul, Nat.reduceSub, Nat.reduceEqDiff, Nat.reduceBEq, Int.reduceToNat, reduceCtorEq]
    refine condM rfl trivial (fun hc => ?_) (fun hc => ?_)
    · replace H := cond_t hc H
      refine sq ctNo_ok ?_
      simp only [go_sem, Nat.reduceLeDiff, Nat.reduceLT, Nat.reduceAdd, Nat.reduceMul, Nat.reduceSub, Nat.reduceEqDiff, Nat.reduceBEq, Int.reduceToNat, reduceCtorEq]
      repeat ((with_reducible refine And.intro ?_ ?_); focus (first | (with_reducible trivial) | omega | grind))
      refine rg ctNo_ok ?_
      simp only [go_sem, Nat.reduceLeDiff, Nat.reduceLT, Nat.reduceAdd, Nat.reduceMul, Nat.reduceSub, Nat.reduceEqDiff, Nat.reduceBEq, Int.reduceToNat, reduceCtorEq]
      obtain rfl := Option.some.inj H
      first | rfl | simp only [Bool.and_false, Bool.false_and, Bool.and_true, Bool.true_and]
    replace H := cond_f hc H
    refine rg ctNo_ok ?_
    simp only [go_sem, Nat.reduceLeDiff, Nat.reduceLT, Nat.reduceAdd, Nat.reduceMul, Nat.reduceSub, Nat.reduceEqDiff, Nat.reduceBEq, Int.reduceToNat, reduceCtorEq]
    refine seqM ?_
    refine seqM ?_
    obtain ⟨r3, e4, H⟩ := Option.bind_eq_some_iff.1 H
    refine rg ct22t1_ok ?_
    simp only [go_sem, Nat.reduceLeDiff, Nat.reduceLT, Nat.reduceAdd, Nat.reduceMul, Nat.reduceSub, Nat.reduceEqDiff, Nat.reduceBEq, Int.reduceToNat, reduceCtorEq, ct22t1_17, body17, e4]
    repeat ((with_reducible refine And.intro ?_ ?_); focus (first | (with_reducible trivial) | omega | grind))
    refine condM rfl trivial (fun hc => ?_) (fun hc => ?_)
    · replace H := cond_t hc H
      refine sq ctNo_ok ?_
      simp only [go_sem, Nat.reduceLeDiff, Nat.reduceLT, Nat.reduceAdd, Nat.reduceMul, Nat.reduceSub, Nat.reduceEqDiff, Nat.reduceBEq, Int.reduceToNat, reduceCtorEq]
      repeat ((with_reducible refine And.intro ?_ ?_); focus (first | (with_reducible trivial) | omega | grind))
      refine rg ctNo_ok ?_
      simp only [go_sem, Nat.reduceLeDiff, Nat.reduceLT, Nat.reduceAdd, Nat.reduceMul, Nat.reduceSub, Nat.reduceEqDiff, Nat.reduceBEq, Int.reduceToNat, reduceCtorEq]
      obtain rfl := Option.some.inj H
      first | rfl | simp only [Bool.and_false, Bool.false_and, Bool.and_true, Bool.true_and]
    replace H := cond_f hc H
    refine rg ctNo_ok ?_
    simp only [go_sem, Nat.reduceLeDiff, Nat.reduceLT, Nat.reduceAdd, Nat.reduceMul, Nat.reduceSub, Nat.reduceEqDiff, Nat.reduceBEq, Int.reduceToNat, reduceCtorEq]
    refine sq ctNo_ok ?_
    simp only [go_sem, Nat.reduceLeDiff, Nat.reduceLT, Nat.reduceAdd, Nat.reduceMul, Nat.reduceSub, Nat.reduceEqDiff, Nat.reduceBEq, Int.reduceToNat, reduceCtorEq]
    refine seqM ?_
    refine sq ctNo_ok ?_
    simp only [go_sem, Nat.reduceLeDiff, Nat.reduceLT, Nat.reduceAdd, Nat.reduceMul, Nat.reduceSub, Nat.reduceEqDiff, Nat.reduceBEq, Int.reduceToNat, reduceCtorEq]
    refine blkM ?_
    refine loop_den (fun s : Int × Int => [.top, .top, .ptr 0 0 0 0, .ptr 1 0 0 0, .ptr 2 0 0 0, .top, .top, .fn 36 [.ptr 1 0 0 0], .top, .top, .top, .top, .top, .top, .top, .top, .top, .top, .top, .int .i64 s.1, .top, .top, .top, .top, .top, .top, .top, .top, .top, .top, .top, .top, .top, .top, .top, .top, .top, .top, .top, .top]) (fun s => [.lit 37 [.ro 5 p0.List.length false (enR c_TWakeRule p0.List)], .lit 23 [.int .i64 p1.Id, .int .i64 s.2, .int .i64 p1.Every, .int .i64 p1.Length, .int .i64 p1.Group], .lit 23 [.int .i64 0, .int .i64 0, .int .i64 0, .int .i64 0, .int .i64 0]]) (fun e : Unit => [.top, .top, .top, .top, .ptr 2 0 0 0, .top, .top, .top, .top, .top, .top, .top, .top, .top, .top, .top, .top, .top, .top, .top, .top, .top, .top, .top, .top, .top, .top, .top, .top, .top, .top, .top, .top, .top, .top, .top, .top, .top, .top, .top]) (fun e => [.dead, .dead, .lit 23 [.int .i64 0, .int .i64 0, .int .i64 0, .int .i64 0, .int .i64 0]]) H ?_ (fun s o H hn1_1 hn2_1 => ?_) (fun e H => ?_)
    · refine SubF_of ⟨[some 0, some 1, some 2], ?_, ?_, by rfl, by rfl⟩
      · simp [CvL, Cv, getM]
      · exact ⟨(by simp [CvB, CvL, Cv, blkAt, geth, getM]), (by simp [CvB, CvL, Cv, blkAt, geth, getM]), (by simp [CvB, CvL, Cv, blkAt, geth, getM]), trivial⟩
    · obtain ⟨v1_1, v1_2⟩ := s
      unfold F22_L1 at H
      try dsimp only at H ⊢
      refine sq ctNo_ok ?_
      simp only [go_sem, Nat.reduceLeDiff, Nat.reduceLT, Nat.reduceAdd, Nat.reduceMul, Nat.reduceSub, Nat.reduceEqDiff, Nat.reduceBEq, Int.reduceToNat, reduceCtorEq]
      refine seqM ?_
      refine condM' rfl trivial (fun hc => ?_) (fun hc => ?_)
      · replace H := cond_f hc H
        refine rg ctNo_ok ?_
        simp only [go_sem, Nat.reduceLeDiff, Nat.reduceLT, Nat.reduceAdd, Nat.reduceMul, Nat.reduceSub, Nat.reduceEqDiff, Nat.reduceBEq, Int.reduceToNat, reduceCtorEq]
        refine ⟨_, (Option.some.inj H).symm, ?_⟩
        refine SubF_of ⟨[some 0, some 1, some 2], ?_, ?_, by rfl, by rfl⟩
        · simp [CvL, Cv, getM]
        · exact ⟨CvB_dead, CvB_dead, (by simp [CvB, CvL, Cv, blkAt, geth, getM]), trivial⟩
      replace H := cond_t hc H
      refine rg ctNo_ok ?_
      simp only [go_sem, Nat.reduceLeDiff, Nat.reduceLT, Nat.reduceAdd, Nat.reduceMul, Nat.reduceSub, Nat.reduceEqDiff, Nat.reduceBEq, Int.reduceToNat, reduceCtorEq]
      refine seqM ?_
      refine blkM ?_
      refine seqM ?_
      refine seqM ?_
      obtain ⟨r5, e6, H⟩ := Option.bind_eq_some_iff.1 H
      obtain ⟨f7, H⟩ := need_some.1 H
      replace f7 := g_iff.1 f7
      refine rg ct22t2_ok ?_
      simp only [go_sem, Nat.reduceLeDiff, Nat.reduceLT, Nat.reduceAdd, Nat.reduceMul, Nat.reduceSub, Nat.reduceEqDiff, Nat.reduceBEq, Int.reduceToNat, reduceCtorEq, ct22t2_17, body17, ct22t2_37, body37_0, e6]
      repeat ((with_reducible refine And.intro ?_ ?_); focus (first | (with_reducible trivial) | omega | (intro g; have q := f7 g; first | exact q | exact ⟨q.1, q.2.1⟩ | exact q.2.2 | omega) | grind))
      refine condM rfl trivial (fun hc => ?_) (fun hc => ?_)
      · replace H := cond_t hc H
        refine sq ctNo_ok ?_
        simp only [go_sem, Nat.reduceLeDiff, Nat.reduceLT, Nat.reduceAdd, Nat.reduceMul, Nat.reduceSub, Nat.reduceEqDiff, Nat.reduceBEq, Int.reduceToNat, reduceCtorEq]
        repeat ((with_reducible refine And.intro ?_ ?_); focus (first | (with_reducible trivial) | omega | grind))
        refine rg ctNo_ok ?_
        simp only [go_sem, Nat.reduceLeDiff, Nat.reduceLT, Nat.reduceAdd, Nat.reduceMul, Nat.reduceSub, Nat.reduceEqDiff, Nat.reduceBEq, Int.reduceToNat, reduceCtorEq]
        have H := hn2_1 _ (Option.some.inj H).symm
        obtain rfl := Option.some.inj H
        first | rfl | simp only [Bool.and_false, Bool.false_and, Bool.and_true, Bool.true_and]
      replace H := cond_f hc H
      refine rg ctNo_ok ?_
      simp only [go_sem, Nat.reduceLeDiff, Nat.reduceLT, Nat.reduceAdd, Nat.reduceMul, Nat.reduceSub, Nat.reduceEqDiff, Nat.reduceBEq, Int.reduceToNat, reduceCtorEq]
      refine rg ctNo_ok ?_
      simp only [go_sem, Nat.reduceLeDiff, Nat.reduceLT, Nat.reduceAdd, Nat.reduceMul, Nat.reduceSub, Nat.reduceEqDiff, Nat.reduceBEq, Int.reduceToNat, reduceCtorEq]
      repeat ((with_reducible refine And.intro ?_ ?_); focus (first | (with_reducible trivial) | omega | grind))
      refine rg ctNo_ok ?_
      simp only [go_sem, Nat.reduceLeDiff, Nat.reduceLT, Nat.reduceAdd, Nat.reduceMul, Nat.reduceSub, Nat.reduceEqDiff, Nat.reduceBEq, Int.reduceToNat, reduceCtorEq]
      refine ⟨_, (Option.some.inj H).symm, ?_⟩
      refine SubF_of ⟨[some 0, some 1, some 2], ?_, ?_, by rfl, by rfl⟩
      · simp [CvL, Cv, getM]
      · exact ⟨(by simp [CvB, CvL, Cv, blkAt, geth, getM]), (by simp [CvB, CvL, Cv, blkAt, geth, getM]), (by simp [CvB, CvL, Cv, blkAt, geth, getM]), trivial⟩
    · try dsimp only at H ⊢
      try simp only [m_normal, k_normal, b_normal, kL_normal, r_normal]
      refine sq ctNo_ok ?_
      simp only [go_sem, Nat.reduceLeDiff, Nat.reduceLT, Nat.reduceAdd, Nat.reduceMul, Nat.reduceSub, Nat.reduceEqDiff, Nat.reduceBEq, Int.reduceToNat, reduceCtorEq]
      repeat ((with_reducible refine And.intro ?_ ?_); focus (first | (with_reducible trivial) | omega | grind))
      refine rg ctNo_ok ?_
      simp only [go_sem, Nat.reduceLeDiff, Nat.reduceLT, Nat.reduceAdd, Nat.reduceMul, Nat.reduceSub, Nat.reduceEqDiff, Nat.reduceBEq, Int.reduceToNat, reduceCtorEq]
      obtain rfl := Option.some.inj H
      first | rfl | simp only [Bool.and_false, Bool.false_and, Bool.and_true, Bool.true_and]
  · cases hb
/-! hotspot/wake.Overlap -/
noncomputable def ct18t0 : Ct := tab [(17, pureC body17)]
theorem ct18t0_ok : CtOk Try.prog ct18t0 := tab_cons ok17 <| tab_nil
theorem ct18t0_17 (l : List AV) (h : List ABlk) : ct18t0 17 l h = pureC body17 l h := rfl
noncomputable def ct18t1 : Ct := tab [(34, pureC body34)]
theorem ct18t1_ok : CtOk Try.prog ct18t1 := tab_cons ok34 <| tab_nil
theorem ct18t1_34 (l : List AV) (h : List ABlk) : ct18t1 34 l h = pureC body34 l h := rfl
noncomputable def F18 (p0 : TWakeRule) (p1 : TWakeRule) : Option (Bool × Int) :=
  (F17 p0).bind fun r1 => need (bif (!(!bEq r1 0)) then ((F17 p1).isSome) else true) <| bif ((!bEq r1 0) || (!bEq (gt (F17 p1)) 0)) then (some (false, 2)) else ((F34 p0 p1).bind fun r4 => some (r4, 0))
noncomputable def body18 : List AV → AR
  | [v0, v1] => .pure (aK 5 k_TWakeRule v0 ∧ aK 5 k_TWakeRule v1 ∧ (F18 (g_TWakeRule (aL v0)) (g_TWakeRule (aL v1))).isSome = true) (.tup [.bool ((gt (F18 (g_TWakeRule (aL v0)) (g_TWakeRule (aL v1)))).1), .int .i64 ((gt (F18 (g_TWakeRule (aL v0)) (g_TWakeRule (aL v1)))).2)])
  | _ => .fail
set_option maxHeartbeats 4000000 in
set_option maxRecDepth 20000 in
theorem ok18 : FnOk Try.prog 18 (pureC body18) := by
  refine pure_fnM body18 (rs := [.tmp 4, .tmp 5]) Try.func18 (by kernel_rfl) rfl rfl ?_
  intro l ob v hb hob
  unfold body18 at hb
  split at hb
  · rename_i v0 v1
    injection hb with q1 q2; subst q1 q2
    obtain ⟨hk0, hk1, hob⟩ := hob
    obtain ⟨r, H⟩ := Option.isSome_iff_exists.1 hob
    rw [H, gt_some]
    have hw0 := wA_TWakeRule hk0
    have hw1 := wA_TWakeRule hk1
    generalize g_TWakeRule (aL v0) = p0 at H hw0
    generalize g_TWakeRule (aL v1) = p1 at H hw1
    refine ⟨[.agg [.int .i64 p0.Id, .int .i64 p0.Start, .int .i64 p0.Every, .int .i64 p0.Length, .int .i64 p0.Group], .agg [.int .i64 p1.Id, .int .i64 p1.Start, .int .i64 p1.Every, .int .i64 p1.Length, .int .i64 p1.Group]], _, (fun E vs F => FR_wk1 hw0.1 F (fun vs F => FR_wk1 hw1.1 F (fun vs F => F))), rfl, rfl, ?_⟩
    rw [Try.ntmps18]
    simp only [List.length_cons, List.length_nil, Nat.reduceAdd, Nat.reduceSub, List.replicate_succ, List.replicate_zero, List.cons_append, List.nil_append]
    unfold F18 at H
    try dsimp only at H
    refine sq ctNo_ok ?_
    simp only [go_sem, Nat.reduceLeDiff, Nat.reduceLT, Nat.reduceAdd, Nat.reduceMul, Nat.reduceSub, Nat.reduceEqDiff, Nat.reduceBEq, Int.reduceToNat, reduceCtorEq]
    refine seqM ?_
    refine seqM ?_
    obtain ⟨r1, e2, H⟩ := Option.bind_eq_some_iff.1 H
    obtain ⟨f3, H⟩ := need_some.1 H
    replace f3 := g_iff.1 f3
    refine rg ct18t0_ok ?_
    simp only [go_sem, Nat.reduceLeDiff, Nat.reduceLT, Nat.reduceAdd, Nat.reduceMul, Nat.reduceSub, Nat.reduceEqDiff, Nat.reduceBEq, Int.reduceToNat, reduceCtorEq, ct18t0_17, body17, e2]
    repeat ((with_reducible refine And.intro ?_ ?_); focus (first | (with_reducible trivial) | omega | (intro g; have q := f3 g; first | exact q | exact ⟨q.1, q.2.1⟩ | exact q.2.2 | omega) | grind))
    refine condM rfl trivial (fun hc => ?_) (fun hc => ?_)
    · replace H := cond_t hc H
      refine sq ctNo_ok ?_
      simp only [go_sem, Nat.reduceLeDiff, Nat.reduceLT, Nat.reduceAdd, Nat.reduceMul, Nat.reduceSub, Nat.reduceEqDiff, Nat.reduceBEq, Int.reduceToNat, reduceCtorEq]
      refine rg ctNo_ok ?_
      simp only [go_sem, Nat.reduceLeDiff, Nat.reduceLT, Nat.reduceAdd, Nat.reduceMul, Nat.reduceSub, Nat.reduceEqDiff, Nat.reduceBEq, Int.reduceToNat, reduceCtorEq]
      obtain rfl := Option.some.inj H
      first | rfl | simp only [Bool.and_false, Bool.false_and, Bool.and_true, Bool.true_and]
    replace H := cond_f hc H
    refine rg ctNo_ok ?_
    simp only [go_sem, Nat.reduceLeDiff, Nat.reduceLT, Nat.reduceAdd, Nat.reduceMul, Nat.reduceSub, Nat.reduceEqDiff, Nat.reduceBEq, Int.reduceToNat, reduceCtorEq]
    refine seqM ?_
    obtain ⟨r4, e5, H⟩ := Option.bind_eq_some_iff.1 H
    refine rg ct18t1_ok ?_
    simp only [go_sem, Nat.reduceLeDiff, Nat.reduceLT, Nat.reduceAdd, Nat.reduceMul, Nat.reduceSub, Nat.reduceEqDiff, Nat.reduceBEq, Int.reduceToNat, reduceCtorEq, ct18t1_34, body34, e5]
    repeat ((with_reducible refine And.intro ?_ ?_); focus (first | (with_reducible trivial) | omega | grind))
    refine rg ctNo_ok ?_
    simp only [go_sem, Nat.reduceLeDiff, Nat.reduceLT, Nat.reduceAdd, Nat.reduceMul, Nat.reduceSub, Nat.reduceEqDiff, Nat.reduceBEq, Int.reduceToNat, reduceCtorEq]
    obtain rfl := Option.some.inj H
    first | rfl | simp only [Bool.and_false, Bool.false_and, Bool.and_true, Bool.true_and]
  · cases hb
/-! hotspot/hotspotref36.SameInts -/
noncomputable def F31_L1 (p0 : List Int) (p1 : List Int) (v1_1 : Int) : Option (Lp (Int) ((Unit) ⊕ (Bool))) :=
  bif (bLt v1_1 (p0.length : Nat)) then (need (inb v1_1 p0.length) <| need (inb v1_1 p1.length) <| bif (!bEq (gd p0 v1_1.toNat) (gd p1 v1_1.toNat)) then (some (.done (.inr false))) else (some (.next (wr .i64 (v1_1 + 1))))) else (some (.done (.inl ())))
noncomputable def F31 (p0 : List Int) (p1 : List Int) : Option (Bool) :=
  bif (!bEq (p0.length : Nat) (p1.length : Nat)) then (some false) else (lp (loopD (fun s => F31_L1 p0 p1 s) 0) (fun e => some true) some)
noncomputable def body31 : List AV → AR
  | [v0, v1] => .pure (lK k_i64 1 v0 ∧ lK k_i64 1 v1 ∧ (F31 (lA g_i64 v0) (lA g_i64 v1)).isSome = true) (.bool (gt (F31 (lA g_i64 v0) (lA g_i64 v1))))
  | _ => .fail
set_option maxHeartbeats 4000000 in
set_option maxRecDepth 20000 in
theorem ok31 : FnOk Try.prog 31 (pureC body31) := by
  refine pure_fnM body31 (rs := [.tmp 4]) Try.func31 (by kernel_rfl) rfl rfl ?_
  intro l ob v hb hob
  unfold body31 at hb
  split at hb
  · rename_i v0 v1
    injection hb with q1 q2; subst q1 q2
    obtain ⟨hk0, hk1, hob⟩ := hob
    obtain ⟨r, H⟩ := Option.isSome_iff_exists.1 hob
    rw [H, gt_some]
    have hw0 := lK_wk (fun r h => w_i64 h) hk0
    have hw1 := lK_wk (fun r h => w_i64 h) hk1
    generalize lA g_i64 v0 = p0 at H hw0
    generalize lA g_i64 v1 = p1 at H hw1
    refine ⟨[.ro 1 p0.length false (enR c_i64 p0), .ro 1 p1.length false (enR c_i64 p1)], _, (fun E vs F => FR_wk1 hw0.1 F (fun vs F => FR_wk1 hw1.1 F (fun vs F => F))), rfl, rfl, ?_⟩
    rw [Try.ntmps31]
    simp only [List.length_cons, List.length_nil, Nat.reduceAdd, Nat.reduceSub, List.replicate_succ, List.replicate_zero, List.cons_append, List.nil_append]
    unfold F31 at H
    try dsimp only at H
    refine sq ctNo_ok ?_
    simp only [go_sem, Nat.reduceLeDiff, Nat.reduceLT, Nat.reduceAdd, Nat.reduceMul, Nat.reduceSub, Nat.reduceEqDiff, Nat.reduceBEq, Int.reduceToNat, reduceCtorEq]
    refine seqM ?_
    refine sq ctNo_ok ?_
    simp only [go_sem, Nat.reduceLeDiff, Nat.reduceLT, Nat.reduceAdd, Nat.reduceMul, Nat.reduceSub, Nat.reduceEqDiff, Nat.reduceBEq, Int.reduceToNat, reduceCtorEq]
    repeat ((with_reducible refine And.intro ?_ ?_); focus (first | (with_reducible trivial) | omega | grind))
    refine condM rfl trivial (fun hc => ?_) (fun hc => ?_)
    · replace H := cond_t hc H
      refine sq ctNo_ok ?_
      simp only [go_sem, Nat.reduceLeDiff, Nat.reduceLT, Nat.reduceAdd, Nat.reduceMul, Nat.reduceSub, Nat.reduceEqDiff, Nat.reduceBEq, Int.reduceToNat, reduceCtorEq]
      refine rg ctNo_ok ?_
      simp only [go_sem, Nat.reduceLeDiff, Nat.reduceLT, Nat.reduceAdd, Nat.reduceMul, Nat.reduceSub, Nat.reduceEqDiff, Nat.reduceBEq, Int.reduceToNat, reduceCtorEq]
      obtain rfl := Option.some.inj H
      first | rfl | simp only [Bool.and_false, Bool.false_and, Bool.and_true, Bool.true_and]
    replace H := cond_f hc H
    refine rg ctNo_ok ?_
    simp only [go_sem, Nat.reduceLeDiff, Nat.reduceLT, Nat.reduceAdd, Nat.reduceMul, Nat.reduceSub, Nat.reduceEqDiff, Nat.reduceBEq, Int.reduceToNat, reduceCtorEq]
    refine seqM ?_
    refine sq ctNo_ok ?_
    simp only [go_sem, Nat.reduceLeDiff, Nat.reduceLT, Nat.reduceAdd, Nat.reduceMul, Nat.reduceSub, Nat.reduceEqDiff, Nat.reduceBEq, Int.reduceToNat, reduceCtorEq]
    refine blkM ?_
    refine loop_den (fun s : Int => [.ro 1 p0.length false (enR c_i64 p0), .ro 1 p1.length false (enR c_i64 p1), .top, .top, .top, .int .i64 s, .top, .top, .top, .top, .top, .top, .top, .top, .top, .top, .top, .top, .top, .top, .top, .top, .top, .top, .top, .top]) (fun s => []) (fun e : Unit => [.top, .top, .top, .top, .top, .top, .top, .top, .top, .top, .top, .top, .top, .top, .top, .top, .top, .top, .top, .top, .top, .top, .top, .top, .top, .top]) (fun e => []) H ?_ (fun v1_1 o H hn1_1 hn2_1 => ?_) (fun e H => ?_)
    · refine SubF_of ⟨[], ?_, ?_, by rfl, by rfl⟩
      · simp [CvL, Cv, getM]
      · trivial
    · unfold F31_L1 at H
      try dsimp only at H ⊢
      refine seqM ?_
      refine sq ctNo_ok ?_
      simp only [go_sem, Nat.reduceLeDiff, Nat.reduceLT, Nat.reduceAdd, Nat.reduceMul, Nat.reduceSub, Nat.reduceEqDiff, Nat.reduceBEq, Int.reduceToNat, reduceCtorEq]
      repeat ((with_reducible refine And.intro ?_ ?_); focus (first | (with_reducible trivial) | omega | grind))
      refine condM' rfl trivial (fun hc => ?_) (fun hc => ?_)
      · replace H := cond_f hc H
        refine rg ctNo_ok ?_
        simp only [go_sem, Nat.reduceLeDiff, Nat.reduceLT, Nat.reduceAdd, Nat.reduceMul, Nat.reduceSub, Nat.reduceEqDiff, Nat.reduceBEq, Int.reduceToNat, reduceCtorEq]
        refine ⟨_, (Option.some.inj H).symm, ?_⟩
        refine SubF_of ⟨[], ?_, ?_, by rfl, by rfl⟩
        · simp [CvL, Cv, getM]
        · trivial
      replace H := cond_t hc H
      refine rg ctNo_ok ?_
      simp only [go_sem, Nat.reduceLeDiff, Nat.reduceLT, Nat.reduceAdd, Nat.reduceMul, Nat.reduceSub, Nat.reduceEqDiff, Nat.reduceBEq, Int.reduceToNat, reduceCtorEq]
      refine seqM ?_
      refine blkM ?_
      refine seqM ?_
      obtain ⟨f1, H⟩ := need_some.1 H
      replace f1 := inb_iff.1 f1
      obtain ⟨f2, H⟩ := need_some.1 H
      replace f2 := inb_iff.1 f2
      refine draw_quiet shT_ok ctNo_ok (by kernel_rfl) (by kernel_rfl) ?_
      simp only [go_sem, Nat.reduceLeDiff, Nat.reduceLT, Nat.reduceAdd, Nat.reduceMul, Nat.reduceSub, Nat.reduceEqDiff, Nat.reduceBEq, Int.reduceToNat, reduceCtorEq, f1, f2]
      repeat ((with_reducible refine And.intro ?_ ?_); focus (first | (with_reducible trivial) | omega | grind))
      refine condM rfl trivial (fun hc => ?_) (fun hc => ?_)
      · replace H := cond_t hc H
        refine sq ctNo_ok ?_
        simp only [go_sem, Nat.reduceLeDiff, Nat.reduceLT, Nat.reduceAdd, Nat.reduceMul, Nat.reduceSub, Nat.reduceEqDiff, Nat.reduceBEq, Int.reduceToNat, reduceCtorEq]
        refine rg ctNo_ok ?_
        simp only [go_sem, Nat.reduceLeDiff, Nat.reduceLT, Nat.reduceAdd, Nat.reduceMul, Nat.reduceSub, Nat.reduceEqDiff, Nat.reduceBEq, Int.reduceToNat, reduceCtorEq]
        have H := hn2_1 _ (Option.some.inj H).symm
        obtain rfl := Option.some.inj H
        first | rfl | simp only [Bool.and_false, Bool.false_and, Bool.and_true, Bool.true_and]
      replace H := cond_f hc H
      refine rg ctNo_ok ?_
      simp only [go_sem, Nat.reduceLeDiff, Nat.reduceLT, Nat.reduceAdd, Nat.reduceMul, Nat.reduceSub, Nat.reduceEqDiff, Nat.reduceBEq, Int.reduceToNat, reduceCtorEq]
      refine rg ctNo_ok ?_
      simp only [go_sem, Nat.reduceLeDiff, Nat.reduceLT, Nat.reduceAdd, Nat.reduceMul, Nat.reduceSub, Nat.reduceEqDiff, Nat.reduceBEq, Int.reduceToNat, reduceCtorEq]
      refine ⟨_, (Option.some.inj H).symm, ?_⟩
      refine SubF_of ⟨[], ?_, ?_, by rfl, by rfl⟩
      · simp [CvL, Cv, getM]
      · trivial
    · try dsimp only at H ⊢
      try simp only [m_normal, k_normal, b_normal, kL_normal, r_normal]
      refine sq ctNo_ok ?_
      simp only [go_sem, Nat.reduceLeDiff, Nat.reduceLT, Nat.reduceAdd, Nat.reduceMul, Nat.reduceSub, Nat.reduceEqDiff, Nat.reduceBEq, Int.reduceToNat, reduceCtorEq]
      refine rg ctNo_ok ?_
      simp only [go_sem, Nat.reduceLeDiff, Nat.reduceLT, Nat.reduceAdd, Nat.reduceMul, Nat.reduceSub, Nat.reduceEqDiff, Nat.reduceBEq, Int.reduceToNat, reduceCtorEq]
      obtain rfl := Option.some.inj H
      first | rfl | simp only [Bool.and_false, Bool.false_and, Bool.and_true, Bool.true_and]
  · cases hb
/-! hotspot/hotspotlaw36.alive -/
noncomputable def ct16t0 : Ct := tab [(12, pureC body12)]
theorem ct16t0_ok : CtOk Try.prog ct16t0 := tab_cons ok12 <| tab_nil
theorem ct16t0_12 (l : List AV) (h : List ABlk) : ct16t0 12 l h = pureC body12 l h := rfl
noncomputable def ct16t1 : Ct := tab [(18, pureC body18)]
theorem ct16t1_ok : CtOk Try.prog ct16t1 := tab_cons ok18 <| tab_nil
theorem ct16t1_18 (l : List AV) (h : List ABlk) : ct16t1 18 l h = pureC body18 l h := rfl
noncomputable def ct16t2 : Ct := tab [(14, pureC body14)]
theorem ct16t2_ok : CtOk Try.prog ct16t2 := tab_cons ok14 <| tab_nil
theorem ct16t2_14 (l : List AV) (h : List ABlk) : ct16t2 14 l h = pureC body14 l h := rfl
noncomputable def F16 : Option (Bool) :=
  (F12 (TWakeRule.mk 1 100 50 10 0) 99).bind fun r1 => (F12 (TWakeRule.mk 1 100 50 10 0) 100).bind fun r3 => (F18 (TWakeRule.mk 1 100 50 10 0) (TWakeRule.mk 0 0 20 5 0)).bind fun r5 => (F18 (TWakeRule.mk 1 100 50 10 0) (TWakeRule.mk 0 15 50 10 0)).bind fun r7 => need (bif ((((bEq r1.1 100) && r1.2) && (bEq r3.1 150)) && r3.2) then ((F14 (TWakeRule.mk 1 100 50 10 0) 109).isSome) else true) <| need (bif (((((bEq r1.1 100) && r1.2) && (bEq r3.1 150)) && r3.2) && (gt (F14 (TWakeRule.mk 1 100 50 10 0) 109))) then ((F14 (TWakeRule.mk 1 100 50 10 0) 110).isSome) else true) <| need (bif ((((((bEq r1.1 100) && r1.2) && (bEq r3.1 150)) && r3.2) && (gt (F14 (TWakeRule.mk 1 100 50 10 0) 109))) && (!(gt (F14 (TWakeRule.mk 1 100 50 10 0) 110)))) then ((F14 (TWakeRule.mk 1 100 50 10 0) 150).isSome) else true) <| some (((((((((((bEq r1.1 100) && r1.2) && (bEq r3.1 150)) && r3.2) && (gt (F14 (TWakeRule.mk 1 100 50 10 0) 109))) && (!(gt (F14 (TWakeRule.mk 1 100 50 10 0) 110)))) && (gt (F14 (TWakeRule.mk 1 100 50 10 0) 150))) && (bEq r5.2 0)) && r5.1) && (bEq r7.2 0)) && (!r7.1))
noncomputable def body16 : List AV → AR
  | [] => .pure ((F16).isSome = true) (.bool (gt F16))
  | _ => .fail
set_option maxHeartbeats 4000000 in
set_option maxRecDepth 20000 in
theorem ok16 : FnOk Try.prog 16 (pureC body16) := by
  refine pure_fnM body16 (rs := [.tmp 0]) Try.func16 (by kernel_rfl) rfl rfl ?_
  intro l ob v hb hob
  unfold body16 at hb
  split at hb
  · injection hb with q1 q2; subst q1 q2
    obtain ⟨r, H⟩ := Option.isSome_iff_exists.1 hob
    rw [H, gt_some]
    refine ⟨[], _, (fun E vs F => F), rfl, rfl, ?_⟩
    rw [Try.ntmps16]
    simp only [List.length_cons, List.length_nil, Nat.reduceAdd, Nat.reduceSub, List.replicate_succ, List.replicate_zero, List.cons_append, List.nil_append]
    unfold F16 at H
    try dsimp only at H
    refine sq ctNo_ok ?_
    simp only [go_sem, Nat.reduceLeDiff, Nat.reduceLT, Nat.reduceAdd, Nat.reduceMul, Nat.reduceSub, Nat.reduceEqDiff, Nat.reduceBEq, Int.reduceToNat, reduceCtorEq]
    refine sq ctNo_ok ?_
    simp only [go_sem, Nat.reduceLeDiff, Nat.reduceLT, Nat.reduceAdd, Nat.reduceMul, Nat.reduceSub, Nat.reduceEqDiff, Nat.reduceBEq, Int.reduceToNat, reduceCtorEq]
    repeat ((with_reducible refine And.intro ?_ ?_); focus (first | (with_reducible trivial) | omega | grind))
    refine seqM ?_
    obtain ⟨r1, e2, H⟩ := Option.bind_eq_some_iff.1 H
    refine rg ct16t0_ok ?_
    simp only [go_sem, Nat.reduceLeDiff, Nat.reduceLT, Nat.reduceAdd, Nat.reduceMul, Nat.reduceSub, Nat.reduceEqDiff, Nat.reduceBEq, Int.reduceToNat, reduceCtorEq, ct16t0_12, body12, e2]
    repeat ((with_reducible refine And.intro ?_ ?_); focus (first | (with_reducible trivial) | omega | grind))
    refine seqM ?_
    obtain ⟨r3, e4, H⟩ := Option.bind_eq_some_iff.1 H
    refine rg ct16t0_ok ?_
    simp only [go_sem, Nat.reduceLeDiff, Nat.reduceLT, Nat.reduceAdd, Nat.reduceMul, Nat.reduceSub, Nat.reduceEqDiff, Nat.reduceBEq, Int.reduceToNat, reduceCtorEq, ct16t0_12, body12, e4]
    repeat ((with_reducible refine And.intro ?_ ?_); focus (first | (with_reducible trivial) | omega | grind))
    refine seqM ?_
    obtain ⟨r5, e6, H⟩ := Option.bind_eq_some_iff.1 H
    refine rg ct16t1_ok ?_
    simp only [go_sem, Nat.reduceLeDiff, Nat.reduceLT, Nat.reduceAdd, Nat.reduceMul, Nat.reduceSub, Nat.reduceEqDiff, Nat.reduceBEq, Int.reduceToNat, reduceCtorEq, ct16t1_18, body18, e6]
    repeat ((with_reducible refine And.intro ?_ ?_); focus (first | (with_reducible trivial) | omega | grind))
    refine seqM ?_
    obtain ⟨r7, e8, H⟩ := Option.bind_eq_some_iff.1 H
    refine rg ct16t1_ok ?_
    simp only [go_sem, Nat.reduceLeDiff, Nat.reduceLT, Nat.reduceAdd, Nat.reduceMul, Nat.reduceSub, Nat.reduceEqDiff, Nat.reduceBEq, Int.reduceToNat, reduceCtorEq, ct16t1_18, body18, e8]
    repeat ((with_reducible refine And.intro ?_ ?_); focus (first | (with_reducible trivial) | omega | grind))
    refine seqM ?_
    obtain ⟨f9, H⟩ := need_some.1 H
    replace f9 := g_iff.1 f9
    obtain ⟨f10, H⟩ := need_some.1 H
    replace f10 := g_iff.1 f10
    obtain ⟨f11, H⟩ := need_some.1 H
    replace f11 := g_iff.1 f11
    refine rg ct16t2_ok ?_
    simp only [go_sem, Nat.reduceLeDiff, Nat.reduceLT, Nat.reduceAdd, Nat.reduceMul, Nat.reduceSub, Nat.reduceEqDiff, Nat.reduceBEq, Int.reduceToNat, reduceCtorEq, ct16t2_14, body14]
    repeat ((with_reducible refine And.intro ?_ ?_); focus (first | (with_reducible trivial) | omega | (intro g; have q := f9 g; first | exact q | exact ⟨q.1, q.2.1⟩ | exact q.2.2 | omega) | (intro g; have q := f10 g; first | exact q | exact ⟨q.1, q.2.1⟩ | exact q.2.2 | omega) | (intro g; have q := f11 g; first | exact q | exact ⟨q.1, q.2.1⟩ | exact q.2.2 | omega) | grind))
    refine rg ctNo_ok ?_
    simp only [go_sem, Nat.reduceLeDiff, Nat.reduceLT, Nat.reduceAdd, Nat.reduceMul, Nat.reduceSub, Nat.reduceEqDiff, Nat.reduceBEq, Int.reduceToNat, reduceCtorEq]
    obtain rfl := Option.some.inj H
    first | rfl | simp only [Bool.and_false, Bool.false_and, Bool.and_true, Bool.true_and]
  · cases hb
/-! hotspot/hotspotlaw36.WakeNames -/
noncomputable def ct10t0 : Ct := tab [(14, pureC body14), (17, pureC body17)]
theorem ct10t0_ok : CtOk Try.prog ct10t0 := tab_cons ok14 <| tab_cons ok17 <| tab_nil
theorem ct10t0_14 (l : List AV) (h : List ABlk) : ct10t0 14 l h = pureC body14 l h := rfl
theorem ct10t0_17 (l : List AV) (h : List ABlk) : ct10t0 17 l h = pureC body17 l h := rfl
noncomputable def ct10t1 : Ct := tab [(24, genC body24)]
theorem ct10t1_ok : CtOk Try.prog ct10t1 := tab_cons ok24 <| tab_nil
theorem ct10t1_24 (l : List AV) (h : List ABlk) : ct10t1 24 l h = genC body24 l h := rfl
noncomputable def ct10t2 : Ct := tab [(26, genC body26)]
theorem ct10t2_ok : CtOk Try.prog ct10t2 := tab_cons ok26 <| tab_nil
theorem ct10t2_26 (l : List AV) (h : List ABlk) : ct10t2 26 l h = genC body26 l h := rfl
noncomputable def ct10t3 : Ct := tab [(26, frC (genC body26))]
theorem ct10t3_ok : CtOk Try.prog ct10t3 := tab_cons (fr_ok ok26) <| tab_nil
theorem ct10t3_26 (l : List AV) (h : List ABlk) : ct10t3 26 l h = frC (genC body26) l h := rfl
noncomputable def ct10t4 : Ct := tab [(12, pureC body12)]
theorem ct10t4_ok : CtOk Try.prog ct10t4 := tab_cons ok12 <| tab_nil
theorem ct10t4_12 (l : List AV) (h : List ABlk) : ct10t4 12 l h = pureC body12 l h := rfl
noncomputable def ct10t5 : Ct := tab [(28, genC body28)]
theorem ct10t5_ok : CtOk Try.prog ct10t5 := tab_cons ok28 <| tab_nil
theorem ct10t5_28 (l : List AV) (h : List ABlk) : ct10t5 28 l h = genC body28 l h := rfl
noncomputable def ct10t6 : Ct := tab [(22, pureC body22)]
theorem ct10t6_ok : CtOk Try.prog ct10t6 := tab_cons ok22 <| tab_nil
theorem ct10t6_22 (l : List AV) (h : List ABlk) : ct10t6 22 l h = pureC body22 l h := rfl
noncomputable def ct10t7 : Ct := tab [(18, pureC body18)]
theorem ct10t7_ok : CtOk Try.prog ct10t7 := tab_cons ok18 <| tab_nil
theorem ct10t7_18 (l : List AV) (h : List ABlk) : ct10t7 18 l h = pureC body18 l h := rfl
noncomputable def ct10t8 : Ct := tab [(31, pureC body31)]
theorem ct10t8_ok : CtOk Try.prog ct10t8 := tab_cons ok31 <| tab_nil
theorem ct10t8_31 (l : List AV) (h : List ABlk) : ct10t8 31 l h = pureC body31 l h := rfl
noncomputable def ct10t9 : Ct := tab [(16, pureC body16)]
theorem ct10t9_ok : CtOk Try.prog ct10t9 := tab_cons ok16 <| tab_nil
theorem ct10t9_16 (l : List AV) (h : List ABlk) : ct10t9 16 l h = pureC body16 l h := rfl
noncomputable def F10_L1 (v1_1 : List TWakeRule) (v1_2 : Int) : Option (Lp ((List TWakeRule) × Int) ((Unit) ⊕ (Bool))) :=
  bif (bLt v1_2 (v1_1.length : Nat)) then (need (inb v1_2 v1_1.length) <| (F17 (gd v1_1 v1_2.toNat)).bind fun r2 => need (bif (!(!bEq r2 8)) then inb v1_2 v1_1.length else true) <| need (bif (!(!bEq r2 8)) then ((F14 (gd v1_1 v1_2.toNat) 0).isSome) else true) <| bif ((!bEq r2 8) || (gt (F14 (gd v1_1 v1_2.toNat) 0))) then (some (.done (.inr false))) else (some (.next (v1_1, wr .i64 (v1_2 + 1))))) else (some (.done (.inl ())))
noncomputable def F10_L2 (v2_1 : Int) (v2_2 : List TWakeRule) : Option (Lp (Int × (List TWakeRule)) ((List TWakeRule) ⊕ (Bool))) :=
  bif (bLt v2_1 32) then (need (capb 40 (v2_2.length + 1)) <| some (.next (wr .i64 (v2_1 + 1), (v2_2 ++ [(TWakeRule.mk v2_1 0 0 1 0)])))) else (some (.done (.inl v2_2)))
noncomputable def F10 : Option (Bool) :=
  lp (loopD (fun s => F10_L1 s.1 s.2) ([(TWakeRule.mk 0 0 0 0 0), (TWakeRule.mk (-1) 0 0 1 0), (TWakeRule.mk 256 0 0 1 0), (TWakeRule.mk 0 (-1) 0 1 0), (TWakeRule.mk 0 1099511627777 0 1 0), (TWakeRule.mk 0 0 5 6 0), (TWakeRule.mk 0 0 (-1) 1 0), (TWakeRule.mk 0 0 0 1 256), (TWakeRule.mk 0 0 0 4294967297 0)], 0)) (fun e => (F24 (TWakeTable.mk []) (TWakeRule.mk 5 10 0 3 0)).bind fun r6 => (F24 r6.1 (TWakeRule.mk 5 10 0 3 0)).bind fun r8 => (F24 r6.1 (TWakeRule.mk 7 0 0 0 0)).bind fun r10 => (F26 r6.1 4).bind fun r12 => (F26 (TWakeTable.mk (deR g_TWakeRule 2 (litC 5 [.int .i64 5, .int .i64 10, .int .i64 0, .int .i64 3, .int .i64 0, .int .i64 5, .int .i64 10, .int .i64 0, .int .i64 3, .int .i64 0]))) 5).bind fun r14 => (F12 (TWakeRule.mk 5 10 0 3 0) 10).bind fun r16 => (F12 (TWakeRule.mk 5 10 0 3 0) (-5)).bind fun r18 => (F12 (TWakeRule.mk 0 1099511627776 7 1 0) 1099511627776).bind fun r20 => (F12 (TWakeRule.mk 0 1 4294967296 1 0) 1095216660480).bind fun r22 => (F28 r6.1 10).bind fun r24 => (F24 r6.1 (TWakeRule.mk 2 10 4 1 0)).bind fun r26 => (F28 r26.1 9).bind fun r28 => (F22 r6.1 (TWakeRule.mk 1 8 0 4 0)).bind fun r30 => (F22 (TWakeTable.mk (deR g_TWakeRule 1 (litC 5 [.int .i64 1, .int .i64 0, .int .i64 1, .int .i64 1, .int .i64 0]))) (TWakeRule.mk 2 0 0 9 0)).bind fun r32 => (F22 (TWakeTable.mk (deR g_TWakeRule 1 (litC 5 [.int .i64 1, .int .i64 0, .int .i64 1, .int .i64 1, .int .i64 3]))) (TWakeRule.mk 2 0 0 9 3)).bind fun r34 => (F18 (TWakeRule.mk 5 10 0 3 0) (TWakeRule.mk 0 0 0 0 0)).bind fun r36 => lp (loopD (fun s => F10_L2 s.1 s.2) (0, [])) (fun w2_3 => (F24 (TWakeTable.mk w2_3) (TWakeRule.mk 40 0 0 1 0)).bind fun r39 => bif (((bEq r26.2 0) && (bEq r28.2.2 0)) && (bEq r28.1 10)) then ((F31 r28.2.1 (deR g_i64 2 (litC 1 [.int .i64 2, .int .i64 5]))).bind fun r41 => (F16).bind fun r42 => some (((((((r42 && (((((((((bEq r6.2 0) && (bEq r8.2 20)) && (bEq r10.2 2)) && (bEq r12.2 6)) && (bEq r14.2 8)) && (bEq r24.2.2 6)) && (bEq r32.2 22)) && (bEq r36.2 2)) && (bEq r39.2 22))) && ((((((!r16.2) && (bEq r18.1 10)) && r18.2) && (!r20.2)) && r22.2) && (bEq r22.1 1095216660481))) && r41) && (bEq r30.2 0)) && (bEq r30.1.Start 16)) && (bEq r34.2 0)) && (bEq r34.1.Start 0))) else ((F16).bind fun r44 => some (((((((r44 && (((((((((bEq r6.2 0) && (bEq r8.2 20)) && (bEq r10.2 2)) && (bEq r12.2 6)) && (bEq r14.2 8)) && (bEq r24.2.2 6)) && (bEq r32.2 22)) && (bEq r36.2 2)) && (bEq r39.2 22))) && ((((((!r16.2) && (bEq r18.1 10)) && r18.2) && (!r20.2)) && r22.2) && (bEq r22.1 1095216660481))) && false) && (bEq r30.2 0)) && (bEq r30.1.Start 16)) && (bEq r34.2 0)) && (bEq r34.1.Start 0)))) some) some
noncomputable def body10 : List AV → AR
  | [] => .pure ((F10).isSome = true) (.bool (gt F10))
  | _ => .fail
set_option maxHeartbeats 4000000 in
set_option maxRecDepth 20000 in
theorem ok10 : FnOk Try.prog 10 (pureC body10) := by
  refine pure_fnM body10 (rs := [.tmp 0]) Try.func10 (by kernel_rfl) rfl rfl ?_
  intro l ob v hb hob
  unfold body10 at hb
  split at hb
  · injection hb with q1 q2; subst q1 q2
    obtain ⟨r, H⟩ := Option.isSome_iff_exists.1 hob
    rw [H, gt_some]
    refine ⟨[], _, (fun E vs F => F), rfl, rfl, ?_⟩
    rw [Try.ntmps10]
    simp only [List.length_cons, List.length_nil, Nat.reduceAdd, Nat.reduceSub, List.replicate_succ, List.replicate_zero, List.cons_append, List.nil_append]
    unfold F10 at H
    try dsimp only at H
    refine sq ctNo_ok ?_
    simp only [go_sem, Nat.reduceLeDiff, Nat.reduceLT, Nat.reduceAdd, Nat.reduceMul, Nat.reduceSub, Nat.reduceEqDiff, Nat.reduceBEq, Int.reduceToNat, reduceCtorEq]
    refine sq ctNo_ok ?_
    simp only [go_sem, Nat.reduceLeDiff, Nat.reduceLT, Nat.reduceAdd, Nat.reduceMul, Nat.reduceSub, Nat.reduceEqDiff, Nat.reduceBEq, Int.reduceToNat, reduceCtorEq]
    repeat ((with_reducible refine And.intro ?_ ?_); focus (first | (with_reducible trivial) | omega | grind))
    refine sq ctNo_ok ?_
    simp only [go_sem, Nat.reduceLeDiff, Nat.reduceLT, Nat.reduceAdd, Nat.reduceMul, Nat.reduceSub, Nat.reduceEqDiff, Nat.reduceBEq, Int.reduceToNat, reduceCtorEq]
    refine seqM ?_
    refine sq ctNo_ok ?_
    simp only [go_sem, Nat.reduceLeDiff, Nat.reduceLT, Nat.reduceAdd, Nat.reduceMul, Nat.reduceSub, Nat.reduceEqDiff, Nat.reduceBEq, Int.reduceToNat, reduceCtorEq]
    refine blkM ?_
    refine loop_den (fun s : (List TWakeRule) × Int => [.top, .ptr 0 0 0 0, .sl 2 5 0 s.1.length false, .int .i64 s.2, .top, .top, .top, .top, .top, .top, .top, .top, .top, .top, .top, .top, .top, .top, .top, .top, .top, .top, .top, .top, .top, .top, .top, .top, .top, .top, .top, .top, .top, .top, .top, .top, .top, .top, .top, .top, .top, .top, .top, .top, .top, .top, .top, .top, .top, .top, .top, .top, .top, .top, .top, .top, .top, .top, .top, .top, .top, .top, .top, .top, .top, .top, .top, .top, .top, .top, .top, .top, .top, .top, .top, .top, .top, .top, .top, .top, .top, .top, .top, .top, .top, .top, .top, .top, .top, .top, .top, .top, .top, .top, .top, .top, .top, .top, .top, .top, .top, .top, .top, .top, .top, .top, .top, .top, .top, .top, .top, .top, .top, .top, .top, .top, .top, .top, .top, .top, .top, .top, .top, .top, .top, .top, .top, .top, .top, .top, .top, .top, .top, .top, .top, .top, .top, .top, .top, .top, .top, .top, .top, .top, .top, .top, .top, .top, .top, .top, .top, .top, .top, .top, .top, .top, .top, .top, .top, .top, .top, .top, .top, .top, .top, .top, .top, .top, .top, .top, .top, .top, .top, .top, .top, .top, .top, .top, .top, .top, .top, .top, .top, .top, .top, .top, .top, .top, .top, .top, .top, .top, .top, .top, .top, .top, .top, .top, .top, .top, .top, .top, .top, .top, .top, .top, .top, .top, .top, .top, .top, .top, .top, .top, .top, .top, .top, .top, .top, .top, .top, .top, .top, .top, .top, .top, .top, .top, .top, .top, .top, .top, .top, .top, .top, .top, .top, .top, .top, .top, .top, .top, .top, .top, .top, .top, .top, .top, .top, .top, .top, .top, .top, .top, .top, .top, .top, .top, .top, .top, .top, .top, .top, .top, .top, .top, .top, .top, .top, .top, .top, .top, .top, .top, .top, .top, .top, .top, .top, .top, .top, .top, .top, .top, .top, .top, .top, .top, .top]) (fun s => [.lit 23 [.int .i64 5, .int .i64 10, .int .i64 0, .int .i64 3, .int .i64 0], .dead, .row 23 5 s.1.length (enR c_TWakeRule s.1)]) (fun e : Unit => [.top, .ptr 0 0 0 0, .top, .top, .top, .top, .top, .top, .top, .top, .top, .top, .top, .top, .top, .top, .top, .top, .top, .top, .top, .top, .top, .top, .top, .top, .top, .top, .top, .top, .top, .top, .top, .top, .top, .top, .top, .top, .top, .top, .top, .top, .top, .top, .top, .top, .top, .top, .top, .top, .top, .top, .top, .top, .top, .top, .top, .top, .top, .top, .top, .top, .top, .top, .top, .top, .top, .top, .top, .top, .top, .top, .top, .top, .top, .top, .top, .top, .top, .top, .top, .top, .top, .top, .top, .top, .top, .top, .top, .top, .top, .top, .top, .top, .top, .top, .top, .top, .top, .top, .top, .top, .top, .top, .top, .top, .top, .top, .top, .top, .top, .top, .top, .top, .top, .top, .top, .top, .top, .top, .top, .top, .top, .top, .top, .top, .top, .top, .top, .top, .top, .top, .top, .top, .top, .top, .top, .top, .top, .top, .top, .top, .top, .top, .top, .top, .top, .top, .top, .top, .top, .top, .top, .top, .top, .top, .top, .top, .top, .top, .top, .top, .top, .top, .top, .top, .top, .top, .top, .top, .top, .top, .top, .top, .top, .top, .top, .top, .top, .top, .top, .top, .top, .top, .top, .top, .top, .top, .top, .top, .top, .top, .top, .top, .top, .top, .top, .top, .top, .top, .top, .top, .top, .top, .top, .top, .top, .top, .top, .top, .top, .top, .top, .top, .top, .top, .top, .top, .top, .top, .top, .top, .top, .top, .top, .top, .top, .top, .top, .top, .top, .top, .top, .top, .top, .top, .top, .top, .top, .top, .top, .top, .top, .top, .top, .top, .top, .top, .top, .top, .top, .top, .top, .top, .top, .top, .top, .top, .top, .top, .top, .top, .top, .top, .top, .top, .top, .top, .top, .top, .top, .top, .top, .top, .top, .top, .top, .top, .top, .top, .top, .top, .top, .top, .top, .top, .top, .top, .top]) (fun e => [.lit 23 [.int .i64 5, .int .i64 10, .int .i64 0, .int .i64 3, .int .i64 0], .dead]) H ?_ (fun s o H hn1_1 hn2_1 => ?_) (fun e H => ?_)
    · refine SubF_of ⟨[some 0, some 1, some 1], ?_, ?_, by rfl, by rfl⟩
      · simp [CvL, Cv, getM]
      · exact ⟨(by simp [CvB, CvL, Cv, blkAt, geth, getM]), CvB_dead, CvB_row nr_TWakeRule (by simp) (lit_row (f := c_TWakeRule) [(TWakeRule.mk 0 0 0 0 0), (TWakeRule.mk (-1) 0 0 1 0), (TWakeRule.mk 256 0 0 1 0), (TWakeRule.mk 0 (-1) 0 1 0), (TWakeRule.mk 0 1099511627777 0 1 0), (TWakeRule.mk 0 0 5 6 0), (TWakeRule.mk 0 0 (-1) 1 0), (TWakeRule.mk 0 0 0 1 256), (TWakeRule.mk 0 0 0 4294967297 0)] (fun _ _ => rfl) rfl), trivial⟩
    · obtain ⟨v1_1, v1_2⟩ := s
      unfold F10_L1 at H
      try dsimp only at H ⊢
      refine seqM ?_
      refine sq ctNo_ok ?_
      simp only [go_sem, Nat.reduceLeDiff, Nat.reduceLT, Nat.reduceAdd, Nat.reduceMul, Nat.reduceSub, Nat.reduceEqDiff, Nat.reduceBEq, Int.reduceToNat, reduceCtorEq]
      repeat ((with_reducible refine And.intro ?_ ?_); focus (first | (with_reducible trivial) | omega | (intro x y _ _; repeat (first | exact nfR_en nr_i64 | exact nfR_en nr_b | exact nfR_en nr_TWakeRule | exact nfR_en nr_lTWakeRule | exact nfR_en nr_TWakeTable | exact nfR_en nr_li64 | exact nfR_en nr_u64 | exact nfR_lit (by simp only [nrefL, nref, and_self]) | (refine nfR_app (fun x y => ?_) (fun x y => ?_)) | (refine nfR_ins (fun x y => ?_) (fun x y => ?_)) | (refine nfR_del (fun x y => ?_)))) | (intro x hx; repeat (first | (exfalso; omega) | (rcases x with _ | x; first | (and_intros <;> rfl) | rfl))) | (and_intros <;> first | (with_reducible trivial) | omega | assumption | (intro x y _ _; repeat (first | exact nfR_en nr_i64 | exact nfR_en nr_b | exact nfR_en nr_TWakeRule | exact nfR_en nr_lTWakeRule | exact nfR_en nr_TWakeTable | exact nfR_en nr_li64 | exact nfR_en nr_u64 | exact nfR_lit (by simp only [nrefL, nref, and_self]) | (refine nfR_app (fun x y => ?_) (fun x y => ?_)) | (refine nfR_ins (fun x y => ?_) (fun x y => ?_)) | (refine nfR_del (fun x y => ?_)))) | (intro x hx; repeat (first | (exfalso; omega) | (rcases x with _ | x; first | (and_intros <;> rfl) | rfl)))) | grind))
      refine condM' rfl trivial (fun hc => ?_) (fun hc => ?_)
      · replace H := cond_f hc H
        refine rg ctNo_ok ?_
        simp only [go_sem, Nat.reduceLeDiff, Nat.reduceLT, Nat.reduceAdd, Nat.reduceMul, Nat.reduceSub, Nat.reduceEqDiff, Nat.reduceBEq, Int.reduceToNat, reduceCtorEq]
        refine ⟨_, (Option.some.inj H).symm, ?_⟩
        refine SubF_of ⟨[some 0, some 1], ?_, ?_, by rfl, by rfl⟩
        · simp [CvL, Cv, getM]
        · exact ⟨(by simp [CvB, CvL, Cv, blkAt, geth, getM]), CvB_dead, trivial⟩
      replace H := cond_t hc H
      refine rg ctNo_ok ?_
      simp only [go_sem, Nat.reduceLeDiff, Nat.reduceLT, Nat.reduceAdd, Nat.reduceMul, Nat.reduceSub, Nat.reduceEqDiff, Nat.reduceBEq, Int.reduceToNat, reduceCtorEq]
      refine seqM ?_
      refine blkM ?_
      refine seqM ?_
      obtain ⟨f1, H⟩ := need_some.1 H
      replace f1 := inb_iff.1 f1
      obtain ⟨r2, e3, H⟩ := Option.bind_eq_some_iff.1 H
      obtain ⟨f4, H⟩ := need_some.1 H
      replace f4 := g_iff.1 f4
      replace f4 := fun g => inb_iff.1 (f4 g)
      obtain ⟨f5, H⟩ := need_some.1 H
      replace f5 := g_iff.1 f5
      refine rg ct10t0_ok ?_
      simp only [go_sem, Nat.reduceLeDiff, Nat.reduceLT, Nat.reduceAdd, Nat.reduceMul, Nat.reduceSub, Nat.reduceEqDiff, Nat.reduceBEq, Int.reduceToNat, reduceCtorEq, ct10t0_14, body14, ct10t0_17, body17, f1, e3]
      repeat ((with_reducible refine And.intro ?_ ?_); focus (first | (with_reducible trivial) | omega | (intro g; have q := f4 g; first | exact q | exact ⟨q.1, q.2.1⟩ | exact q.2.2 | omega) | (intro g; have q := f5 g; first | exact q | exact ⟨q.1, q.2.1⟩ | exact q.2.2 | omega) | (intro x y _ _; repeat (first | exact nfR_en nr_i64 | exact nfR_en nr_b | exact nfR_en nr_TWakeRule | exact nfR_en nr_lTWakeRule | exact nfR_en nr_TWakeTable | exact nfR_en nr_li64 | exact nfR_en nr_u64 | exact nfR_lit (by simp only [nrefL, nref, and_self]) | (refine nfR_app (fun x y => ?_) (fun x y => ?_)) | (refine nfR_ins (fun x y => ?_) (fun x y => ?_)) | (refine nfR_del (fun x y => ?_)))) | (intro x hx; repeat (first | (exfalso; omega) | (rcases x with _ | x; first | (and_intros <;> rfl) | rfl))) | (and_intros <;> first | (with_reducible trivial) | omega | assumption | (intro x y _ _; repeat (first | exact nfR_en nr_i64 | exact nfR_en nr_b | exact nfR_en nr_TWakeRule | exact nfR_en nr_lTWakeRule | exact nfR_en nr_TWakeTable | exact nfR_en nr_li64 | exact nfR_en nr_u64 | exact nfR_lit (by simp only [nrefL, nref, and_self]) | (refine nfR_app (fun x y => ?_) (fun x y => ?_)) | (refine nfR_ins (fun x y => ?_) (fun x y => ?_)) | (refine nfR_del (fun x y => ?_)))) | (intro x hx; repeat (first | (exfalso; omega) | (rcases x with _ | x; first | (and_intros <;> rfl) | rfl)))) | (intro g; and_intros <;> first | (with_reducible trivial) | assumption | exact f4 g | exact f5 g | (intro x y _ _; repeat (first | exact nfR_en nr_i64 | exact nfR_en nr_b | exact nfR_en nr_TWakeRule | exact nfR_en nr_lTWakeRule | exact nfR_en nr_TWakeTable | exact nfR_en nr_li64 | exact nfR_en nr_u64 | exact nfR_lit (by simp only [nrefL, nref, and_self]) | (refine nfR_app (fun x y => ?_) (fun x y => ?_)) | (refine nfR_ins (fun x y => ?_) (fun x y => ?_)) | (refine nfR_del (fun x y => ?_)))) | (intro x hx; repeat (first | (exfalso; omega) | (rcases x with _ | x; first | (and_intros <;> rfl) | rfl))) | (and_intros <;> first | (with_reducible trivial) | omega | assumption | (intro x y _ _; repeat (first | exact nfR_en nr_i64 | exact nfR_en nr_b | exact nfR_en nr_TWakeRule | exact nfR_en nr_lTWakeRule | exact nfR_en nr_TWakeTable | exact nfR_en nr_li64 | exact nfR_en nr_u64 | exact nfR_lit (by simp only [nrefL, nref, and_self]) | (refine nfR_app (fun x y => ?_) (fun x y => ?_)) | (refine nfR_ins (fun x y => ?_) (fun x y => ?_)) | (refine nfR_del (fun x y => ?_)))) | (intro x hx; repeat (first | (exfalso; omega) | (rcases x with _ | x; first | (and_intros <;> rfl) | rfl))))) | grind))
      refine condM rfl trivial (fun hc => ?_) (fun hc => ?_)
      · replace H := cond_t hc H
        refine sq ctNo_ok ?_
        simp only [go_sem, Nat.reduceLeDiff, Nat.reduceLT, Nat.reduceAdd, Nat.reduceMul, Nat.reduceSub, Nat.reduceEqDiff, Nat.reduceBEq, Int.reduceToNat, reduceCtorEq]
        refine rg ctNo_ok ?_
        simp only [go_sem, Nat.reduceLeDiff, Nat.reduceLT, Nat.reduceAdd, Nat.reduceMul, Nat.reduceSub, Nat.reduceEqDiff, Nat.reduceBEq, Int.reduceToNat, reduceCtorEq]
        have H := hn2_1 _ (Option.some.inj H).symm
        obtain rfl := Option.some.inj H
        first | rfl | simp only [Bool.and_false, Bool.false_and, Bool.and_true, Bool.true_and]
      replace H := cond_f hc H
      refine rg ctNo_ok ?_
      simp only [go_sem, Nat.reduceLeDiff, Nat.reduceLT, Nat.reduceAdd, Nat.reduceMul, Nat.reduceSub, Nat.reduceEqDiff, Nat.reduceBEq, Int.reduceToNat, reduceCtorEq]
      refine rg ctNo_ok ?_
      simp only [go_sem, Nat.reduceLeDiff, Nat.reduceLT, Nat.reduceAdd, Nat.reduceMul, Nat.reduceSub, Nat.reduceEqDiff, Nat.reduceBEq, Int.reduceToNat, reduceCtorEq]
      refine ⟨_, (Option.some.inj H).symm, ?_⟩
      refine SubF_of ⟨[some 0, some 1, some 2], ?_, ?_, by rfl, by rfl⟩
      · simp [CvL, Cv, getM]
      · exact ⟨(by simp [CvB, CvL, Cv, blkAt, geth, getM]), CvB_dead, CvB_row nr_TWakeRule (by simp) (fun _ _ _ _ => rfl), trivial⟩
    · try dsimp only at H ⊢
      try simp only [m_normal, k_normal, b_normal, kL_normal, r_normal]
      refine seqM ?_
      obtain ⟨r6, e7, H⟩ := Option.bind_eq_some_iff.1 H
      refine rg ct10t1_ok ?_
      simp only [go_sem, Nat.reduceLeDiff, Nat.reduceLT, Nat.reduceAdd, Nat.reduceMul, Nat.reduceSub, Nat.reduceEqDiff, Nat.reduceBEq, Int.reduceToNat, reduceCtorEq, ct10t1_24, body24, e7]
      repeat ((with_reducible refine And.intro ?_ ?_); focus (first | (with_reducible trivial) | omega | (intro x y _ _; repeat (first | exact nfR_en nr_i64 | exact nfR_en nr_b | exact nfR_en nr_TWakeRule | exact nfR_en nr_lTWakeRule | exact nfR_en nr_TWakeTable | exact nfR_en nr_li64 | exact nfR_en nr_u64 | exact nfR_lit (by simp only [nrefL, nref, and_self]) | (refine nfR_app (fun x y => ?_) (fun x y => ?_)) | (refine nfR_ins (fun x y => ?_) (fun x y => ?_)) | (refine nfR_del (fun x y => ?_)))) | (intro x hx; repeat (first | (exfalso; omega) | (rcases x with _ | x; first | (and_intros <;> rfl) | rfl))) | (and_intros <;> first | (with_reducible trivial) | omega | assumption | (intro x y _ _; repeat (first | exact nfR_en nr_i64 | exact nfR_en nr_b | exact nfR_en nr_TWakeRule | exact nfR_en nr_lTWakeRule | exact nfR_en nr_TWakeTable | exact nfR_en nr_li64 | exact nfR_en nr_u64 | exact nfR_lit (by simp only [nrefL, nref, and_self]) | (refine nfR_app (fun x y => ?_) (fun x y => ?_)) | (refine nfR_ins (fun x y => ?_) (fun x y => ?_)) | (refine nfR_del (fun x y => ?_)))) | (intro x hx; repeat (first | (exfalso; omega) | (rcases x with _ | x; first | (and_intros <;> rfl) | rfl)))) | grind))
      refine seqM ?_
      obtain ⟨r8, e9, H⟩ := Option.bind_eq_some_iff.1 H
      refine rg ct10t1_ok ?_
      simp only [go_sem, Nat.reduceLeDiff, Nat.reduceLT, Nat.reduceAdd, Nat.reduceMul, Nat.reduceSub, Nat.reduceEqDiff, Nat.reduceBEq, Int.reduceToNat, reduceCtorEq, ct10t1_24, body24, e9]
      repeat ((with_reducible refine And.intro ?_ ?_); focus (first | (with_reducible trivial) | omega | (intro x y _ _; repeat (first | exact nfR_en nr_i64 | exact nfR_en nr_b | exact nfR_en nr_TWakeRule | exact nfR_en nr_lTWakeRule | exact nfR_en nr_TWakeTable | exact nfR_en nr_li64 | exact nfR_en nr_u64 | exact nfR_lit (by simp only [nrefL, nref, and_self]) | (refine nfR_app (fun x y => ?_) (fun x y => ?_)) | (refine nfR_ins (fun x y => ?_) (fun x y => ?_)) | (refine nfR_del (fun x y => ?_)))) | (intro x hx; repeat (first | (exfalso; omega) | (rcases x with _ | x; first | (and_intros <;> rfl) | rfl))) | (and_intros <;> first | (with_reducible trivial) | omega | assumption | (intro x y _ _; repeat (first | exact nfR_en nr_i64 | exact nfR_en nr_b | exact nfR_en nr_TWakeRule | exact nfR_en nr_lTWakeRule | exact nfR_en nr_TWakeTable | exact nfR_en nr_li64 | exact nfR_en nr_u64 | exact nfR_lit (by simp only [nrefL, nref, and_self]) | (refine nfR_app (fun x y => ?_) (fun x y => ?_)) | (refine nfR_ins (fun x y => ?_) (fun x y => ?_)) | (refine nfR_del (fun x y => ?_)))) | (intro x hx; repeat (first | (exfalso; omega) | (rcases x with _ | x; first | (and_intros <;> rfl) | rfl)))) | grind))
      refine seqM ?_
      obtain ⟨r10, e11, H⟩ := Option.bind_eq_some_iff.1 H
      refine rg ct10t1_ok ?_
      simp only [go_sem, Nat.reduceLeDiff, Nat.reduceLT, Nat.reduceAdd, Nat.reduceMul, Nat.reduceSub, Nat.reduceEqDiff, Nat.reduceBEq, Int.reduceToNat, reduceCtorEq, ct10t1_24, body24, e11]
      repeat ((with_reducible refine And.intro ?_ ?_); focus (first | (with_reducible trivial) | omega | (intro x y _ _; repeat (first | exact nfR_en nr_i64 | exact nfR_en nr_b | exact nfR_en nr_TWakeRule | exact nfR_en nr_lTWakeRule | exact nfR_en nr_TWakeTable | exact nfR_en nr_li64 | exact nfR_en nr_u64 | exact nfR_lit (by simp only [nrefL, nref, and_self]) | (refine nfR_app (fun x y => ?_) (fun x y => ?_)) | (refine nfR_ins (fun x y => ?_) (fun x y => ?_)) | (refine nfR_del (fun x y => ?_)))) | (intro x hx; repeat (first | (exfalso; omega) | (rcases x with _ | x; first | (and_intros <;> rfl) | rfl))) | (and_intros <;> first | (with_reducible trivial) | omega | assumption | (intro x y _ _; repeat (first | exact nfR_en nr_i64 | exact nfR_en nr_b | exact nfR_en nr_TWakeRule | exact nfR_en nr_lTWakeRule | exact nfR_en nr_TWakeTable | exact nfR_en nr_li64 | exact nfR_en nr_u64 | exact nfR_lit (by simp only [nrefL, nref, and_self]) | (refine nfR_app (fun x y => ?_) (fun x y => ?_)) | (refine nfR_ins (fun x y => ?_) (fun x y => ?_)) | (refine nfR_del (fun x y => ?_)))) | (intro x hx; repeat (first | (exfalso; omega) | (rcases x with _ | x; first | (and_intros <;> rfl) | rfl)))) | grind))
      refine seqM ?_
      obtain ⟨r12, e13, H⟩ := Option.bind_eq_some_iff.1 H
      refine rg ct10t2_ok ?_
      simp only [go_sem, Nat.reduceLeDiff, Nat.reduceLT, Nat.reduceAdd, Nat.reduceMul, Nat.reduceSub, Nat.reduceEqDiff, Nat.reduceBEq, Int.reduceToNat, reduceCtorEq, ct10t2_26, body26, e13]
      repeat ((with_reducible refine And.intro ?_ ?_); focus (first | (with_reducible trivial) | omega | (intro x y _ _; repeat (first | exact nfR_en nr_i64 | exact nfR_en nr_b | exact nfR_en nr_TWakeRule | exact nfR_en nr_lTWakeRule | exact nfR_en nr_TWakeTable | exact nfR_en nr_li64 | exact nfR_en nr_u64 | exact nfR_lit (by simp only [nrefL, nref, and_self]) | (refine nfR_app (fun x y => ?_) (fun x y => ?_)) | (refine nfR_ins (fun x y => ?_) (fun x y => ?_)) | (refine nfR_del (fun x y => ?_)))) | (intro x hx; repeat (first | (exfalso; omega) | (rcases x with _ | x; first | (and_intros <;> rfl) | rfl))) | (and_intros <;> first | (with_reducible trivial) | omega | assumption | (intro x y _ _; repeat (first | exact nfR_en nr_i64 | exact nfR_en nr_b | exact nfR_en nr_TWakeRule | exact nfR_en nr_lTWakeRule | exact nfR_en nr_TWakeTable | exact nfR_en nr_li64 | exact nfR_en nr_u64 | exact nfR_lit (by simp only [nrefL, nref, and_self]) | (refine nfR_app (fun x y => ?_) (fun x y => ?_)) | (refine nfR_ins (fun x y => ?_) (fun x y => ?_)) | (refine nfR_del (fun x y => ?_)))) | (intro x hx; repeat (first | (exfalso; omega) | (rcases x with _ | x; first | (and_intros <;> rfl) | rfl)))) | grind))
      refine seqM ?_
      obtain ⟨r14, e15, H⟩ := Option.bind_eq_some_iff.1 H
      refine rg ct10t3_ok ?_
      simp only [go_sem, Nat.reduceLeDiff, Nat.reduceLT, Nat.reduceAdd, Nat.reduceMul, Nat.reduceSub, Nat.reduceEqDiff, Nat.reduceBEq, Int.reduceToNat, reduceCtorEq, frC, obR, fzL, fzV, fzH, fzHF, fzB, fzOb, fzObL, fzObH, fzObB, rowOb, refsL, refs, inL, ct10t3_26, body26, e15]
      repeat ((with_reducible refine And.intro ?_ ?_); focus (first | (with_reducible trivial) | omega | (intro x y _ _; repeat (first | exact nfR_en nr_i64 | exact nfR_en nr_b | exact nfR_en nr_TWakeRule | exact nfR_en nr_lTWakeRule | exact nfR_en nr_TWakeTable | exact nfR_en nr_li64 | exact nfR_en nr_u64 | exact nfR_lit (by simp only [nrefL, nref, and_self]) | (refine nfR_app (fun x y => ?_) (fun x y => ?_)) | (refine nfR_ins (fun x y => ?_) (fun x y => ?_)) | (refine nfR_del (fun x y => ?_)))) | (intro x hx; repeat (first | (exfalso; omega) | (rcases x with _ | x; first | (and_intros <;> rfl) | rfl))) | (and_intros <;> first | (with_reducible trivial) | omega | assumption | (intro x y _ _; repeat (first | exact nfR_en nr_i64 | exact nfR_en nr_b | exact nfR_en nr_TWakeRule | exact nfR_en nr_lTWakeRule | exact nfR_en nr_TWakeTable | exact nfR_en nr_li64 | exact nfR_en nr_u64 | exact nfR_lit (by simp only [nrefL, nref, and_self]) | (refine nfR_app (fun x y => ?_) (fun x y => ?_)) | (refine nfR_ins (fun x y => ?_) (fun x y => ?_)) | (refine nfR_del (fun x y => ?_)))) | (intro x hx; repeat (first | (exfalso; omega) | (rcases x with _ | x; first | (and_intros <;> rfl) | rfl)))) | grind))
      refine seqM ?_
      obtain ⟨r16, e17, H⟩ := Option.bind_eq_some_iff.1 H
      refine rg ct10t4_ok ?_
      simp only [go_sem, Nat.reduceLeDiff, Nat.reduceLT, Nat.reduceAdd, Nat.reduceMul, Nat.reduceSub, Nat.reduceEqDiff, Nat.reduceBEq, Int.reduceToNat, reduceCtorEq, ct10t4_12, body12, e17]
      repeat ((with_reducible refine And.intro ?_ ?_); focus (first | (with_reducible trivial) | omega | (intro x y _ _; repeat (first | exact nfR_en nr_i64 | exact nfR_en nr_b | exact nfR_en nr_TWakeRule | exact nfR_en nr_lTWakeRule | exact nfR_en nr_TWakeTable | exact nfR_en nr_li64 | exact nfR_en nr_u64 | exact nfR_lit (by simp only [nrefL, nref, and_self]) | (refine nfR_app (fun x y => ?_) (fun x y => ?_)) | (refine nfR_ins (fun x y => ?_) (fun x y => ?_)) | (refine nfR_del (fun x y => ?_)))) | (intro x hx; repeat (first | (exfalso; omega) | (rcases x with _ | x; first | (and_intros <;> rfl) | rfl))) | (and_intros <;> first | (with_reducible trivial) | omega | assumption | (intro x y _ _; repeat (first | exact nfR_en nr_i64 | exact nfR_en nr_b | exact nfR_en nr_TWakeRule | exact nfR_en nr_lTWakeRule | exact nfR_en nr_TWakeTable | exact nfR_en nr_li64 | exact nfR_en nr_u64 | exact nfR_lit (by simp only [nrefL, nref, and_self]) | (refine nfR_app (fun x y => ?_) (fun x y => ?_)) | (refine nfR_ins (fun x y => ?_) (fun x y => ?_)) | (refine nfR_del (fun x y => ?_)))) | (intro x hx; repeat (first | (exfalso; omega) | (rcases x with _ | x; first | (and_intros <;> rfl) | rfl)))) | grind))
      refine seqM ?_
      obtain ⟨r18, e19, H⟩ := Option.bind_eq_some_iff.1 H
      refine rg ct10t4_ok ?_
      simp only [go_sem, Nat.reduceLeDiff, Nat.reduceLT, Nat.reduceAdd, Nat.reduceMul, Nat.reduceSub, Nat.reduceEqDiff, Nat.reduceBEq, Int.reduceToNat, reduceCtorEq, ct10t4_12, body12, e19]
      repeat ((with_reducible refine And.intro ?_ ?_); focus (first | (with_reducible trivial) | omega | (intro x y _ _; repeat (first | exact nfR_en nr_i64 | exact nfR_en nr_b | exact nfR_en nr_TWakeRule | exact nfR_en nr_lTWakeRule | exact nfR_en nr_TWakeTable | exact nfR_en nr_li64 | exact nfR_en nr_u64 | exact nfR_lit (by simp only [nrefL, nref, and_self]) | (refine nfR_app (fun x y => ?_) (fun x y => ?_)) | (refine nfR_ins (fun x y => ?_) (fun x y => ?_)) | (refine nfR_del (fun x y => ?_)))) | (intro x hx; repeat (first | (exfalso; omega) | (rcases x with _ | x; first | (and_intros <;> rfl) | rfl))) | (and_intros <;> first | (with_reducible trivial) | omega | assumption | (intro x y _ _; repeat (first | exact nfR_en nr_i64 | exact nfR_en nr_b | exact nfR_en nr_TWakeRule | exact nfR_en nr_lTWakeRule | exact nfR_en nr_TWakeTable | exact nfR_en nr_li64 | exact nfR_en nr_u64 | exact nfR_lit (by simp only [nrefL, nref, and_self]) | (refine nfR_app (fun x y => ?_) (fun x y => ?_)) | (refine nfR_ins (fun x y => ?_) (fun x y => ?_)) | (refine nfR_del (fun x y => ?_)))) | (intro x hx; repeat (first | (exfalso; omega) | (rcases x with _ | x; first | (and_intros <;> rfl) | rfl)))) | grind))
      refine seqM ?_
      obtain ⟨r20, e21, H⟩ := Option.bind_eq_some_iff.1 H
      refine rg ct10t4_ok ?_
      simp only [go_sem, Nat.reduceLeDiff, Nat.reduceLT, Nat.reduceAdd, Nat.reduceMul, Nat.reduceSub, Nat.reduceEqDiff, Nat.reduceBEq, Int.reduceToNat, reduceCtorEq, ct10t4_12, body12, e21]
      repeat ((with_reducible refine And.intro ?_ ?_); focus (first | (with_reducible trivial) | omega | (intro x y _ _; repeat (first | exact nfR_en nr_i64 | exact nfR_en nr_b | exact nfR_en nr_TWakeRule | exact nfR_en nr_lTWakeRule | exact nfR_en nr_TWakeTable | exact nfR_en nr_li64 | exact nfR_en nr_u64 | exact nfR_lit (by simp only [nrefL, nref, and_self]) | (refine nfR_app (fun x y => ?_) (fun x y => ?_)) | (refine nfR_ins (fun x y => ?_) (fun x y => ?_)) | (refine nfR_del (fun x y => ?_)))) | (intro x hx; repeat (first | (exfalso; omega) | (rcases x with _ | x; first | (and_intros <;> rfl) | rfl))) | (and_intros <;> first | (with_reducible trivial) | omega | assumption | (intro x y _ _; repeat (first | exact nfR_en nr_i64 | exact nfR_en nr_b | exact nfR_en nr_TWakeRule | exact nfR_en nr_lTWakeRule | exact nfR_en nr_TWakeTable | exact nfR_en nr_li64 | exact nfR_en nr_u64 | exact nfR_lit (by simp only [nrefL, nref, and_self]) | (refine nfR_app (fun x y => ?_) (fun x y => ?_)) | (refine nfR_ins (fun x y => ?_) (fun x y => ?_)) | (refine nfR_del (fun x y => ?_)))) | (intro x hx; repeat (first | (exfalso; omega) | (rcases x with _ | x; first | (and_intros <;> rfl) | rfl)))) | grind))
      refine seqM ?_
      obtain ⟨r22, e23, H⟩ := Option.bind_eq_some_iff.1 H
      refine rg ct10t4_ok ?_
      simp only [go_sem, Nat.reduceLeDiff, Nat.reduceLT, Nat.reduceAdd, Nat.reduceMul, Nat.reduceSub, Nat.reduceEqDiff, Nat.reduceBEq, Int.reduceToNat, reduceCtorEq, ct10t4_12, body12, e23]
      repeat ((with_reducible refine And.intro ?_ ?_); focus (first | (with_reducible trivial) | omega | (intro x y _ _; repeat (first | exact nfR_en nr_i64 | exact nfR_en nr_b | exact nfR_en nr_TWakeRule | exact nfR_en nr_lTWakeRule | exact nfR_en nr_TWakeTable | exact nfR_en nr_li64 | exact nfR_en nr_u64 | exact nfR_lit (by simp only [nrefL, nref, and_self]) | (refine nfR_app (fun x y => ?_) (fun x y => ?_)) | (refine nfR_ins (fun x y => ?_) (fun x y => ?_)) | (refine nfR_del (fun x y => ?_)))) | (intro x hx; repeat (first | (exfalso; omega) | (rcases x with _ | x; first | (and_intros <;> rfl) | rfl))) | (and_intros <;> first | (with_reducible trivial) | omega | assumption | (intro x y _ _; repeat (first | exact nfR_en nr_i64 | exact nfR_en nr_b | exact nfR_en nr_TWakeRule | exact nfR_en nr_lTWakeRule | exact nfR_en nr_TWakeTable | exact nfR_en nr_li64 | exact nfR_en nr_u64 | exact nfR_lit (by simp only [nrefL, nref, and_self]) | (refine nfR_app (fun x y => ?_) (fun x y => ?_)) | (refine nfR_ins (fun x y => ?_) (fun x y => ?_)) | (refine nfR_del (fun x y => ?_)))) | (intro x hx; repeat (first | (exfalso; omega) | (rcases x with _ | x; first | (and_intros <;> rfl) | rfl)))) | grind))
      refine seqM ?_
      obtain ⟨r24, e25, H⟩ := Option.bind_eq_some_iff.1 H
      refine rg ct10t5_ok ?_
      simp only [go_sem, Nat.reduceLeDiff, Nat.reduceLT, Nat.reduceAdd, Nat.reduceMul, Nat.reduceSub, Nat.reduceEqDiff, Nat.reduceBEq, Int.reduceToNat, reduceCtorEq, ct10t5_28, body28, e25]
      repeat ((with_reducible refine And.intro ?_ ?_); focus (first | (with_reducible trivial) | omega | (intro x y _ _; repeat (first | exact nfR_en nr_i64 | exact nfR_en nr_b | exact nfR_en nr_TWakeRule | exact nfR_en nr_lTWakeRule | exact nfR_en nr_TWakeTable | exact nfR_en nr_li64 | exact nfR_en nr_u64 | exact nfR_lit (by simp only [nrefL, nref, and_self]) | (refine nfR_app (fun x y => ?_) (fun x y => ?_)) | (refine nfR_ins (fun x y => ?_) (fun x y => ?_)) | (refine nfR_del (fun x y => ?_)))) | (intro x hx; repeat (first | (exfalso; omega) | (rcases x with _ | x; first | (and_intros <;> rfl) | rfl))) | (and_intros <;> first | (with_reducible trivial) | omega | assumption | (intro x y _ _; repeat (first | exact nfR_en nr_i64 | exact nfR_en nr_b | exact nfR_en nr_TWakeRule | exact nfR_en nr_lTWakeRule | exact nfR_en nr_TWakeTable | exact nfR_en nr_li64 | exact nfR_en nr_u64 | exact nfR_lit (by simp only [nrefL, nref, and_self]) | (refine nfR_app (fun x y => ?_) (fun x y => ?_)) | (refine nfR_ins (fun x y => ?_) (fun x y => ?_)) | (refine nfR_del (fun x y => ?_)))) | (intro x hx; repeat (first | (exfalso; omega) | (rcases x with _ | x; first | (and_intros <;> rfl) | rfl)))) | grind))
      refine seqM ?_
      obtain ⟨r26, e27, H⟩ := Option.bind_eq_some_iff.1 H
      refine rg ct10t1_ok ?_
      simp only [go_sem, Nat.reduceLeDiff, Nat.reduceLT, Nat.reduceAdd, Nat.reduceMul, Nat.reduceSub, Nat.reduceEqDiff, Nat.reduceBEq, Int.reduceToNat, reduceCtorEq, ct10t1_24, body24, e27]
      repeat ((with_reducible refine And.intro ?_ ?_); focus (first | (with_reducible trivial) | omega | (intro x y _ _; repeat (first | exact nfR_en nr_i64 | exact nfR_en nr_b | exact nfR_en nr_TWakeRule | exact nfR_en nr_lTWakeRule | exact nfR_en nr_TWakeTable | exact nfR_en nr_li64 | exact nfR_en nr_u64 | exact nfR_lit (by simp only [nrefL, nref, and_self]) | (refine nfR_app (fun x y => ?_) (fun x y => ?_)) | (refine nfR_ins (fun x y => ?_) (fun x y => ?_)) | (refine nfR_del (fun x y => ?_)))) | (intro x hx; repeat (first | (exfalso; omega) | (rcases x with _ | x; first | (and_intros <;> rfl) | rfl))) | (and_intros <;> first | (with_reducible trivial) | omega | assumption | (intro x y _ _; repeat (first | exact nfR_en nr_i64 | exact nfR_en nr_b | exact nfR_en nr_TWakeRule | exact nfR_en nr_lTWakeRule | exact nfR_en nr_TWakeTable | exact nfR_en nr_li64 | exact nfR_en nr_u64 | exact nfR_lit (by simp only [nrefL, nref, and_self]) | (refine nfR_app (fun x y => ?_) (fun x y => ?_)) | (refine nfR_ins (fun x y => ?_) (fun x y => ?_)) | (refine nfR_del (fun x y => ?_)))) | (intro x hx; repeat (first | (exfalso; omega) | (rcases x with _ | x; first | (and_intros <;> rfl) | rfl)))) | grind))
      refine seqM ?_
      obtain ⟨r28, e29, H⟩ := Option.bind_eq_some_iff.1 H
      refine rg ct10t5_ok ?_
      simp only [go_sem, Nat.reduceLeDiff, Nat.reduceLT, Nat.reduceAdd, Nat.reduceMul, Nat.reduceSub, Nat.reduceEqDiff, Nat.reduceBEq, Int.reduceToNat, reduceCtorEq, ct10t5_28, body28, e29]
      repeat ((with_reducible refine And.intro ?_ ?_); focus (first | (with_reducible trivial) | omega | (intro x y _ _; repeat (first | exact nfR_en nr_i64 | exact nfR_en nr_b | exact nfR_en nr_TWakeRule | exact nfR_en nr_lTWakeRule | exact nfR_en nr_TWakeTable | exact nfR_en nr_li64 | exact nfR_en nr_u64 | exact nfR_lit (by simp only [nrefL, nref, and_self]) | (refine nfR_app (fun x y => ?_) (fun x y => ?_)) | (refine nfR_ins (fun x y => ?_) (fun x y => ?_)) | (refine nfR_del (fun x y => ?_)))) | (intro x hx; repeat (first | (exfalso; omega) | (rcases x with _ | x; first | (and_intros <;> rfl) | rfl))) | (and_intros <;> first | (with_reducible trivial) | omega | assumption | (intro x y _ _; repeat (first | exact nfR_en nr_i64 | exact nfR_en nr_b | exact nfR_en nr_TWakeRule | exact nfR_en nr_lTWakeRule | exact nfR_en nr_TWakeTable | exact nfR_en nr_li64 | exact nfR_en nr_u64 | exact nfR_lit (by simp only [nrefL, nref, and_self]) | (refine nfR_app (fun x y => ?_) (fun x y => ?_)) | (refine nfR_ins (fun x y => ?_) (fun x y => ?_)) | (refine nfR_del (fun x y => ?_)))) | (intro x hx; repeat (first | (exfalso; omega) | (rcases x with _ | x; first | (and_intros <;> rfl) | rfl)))) | grind))
      refine seqM ?_
      obtain ⟨r30, e31, H⟩ := Option.bind_eq_some_iff.1 H
      refine rg ct10t6_ok ?_
      simp only [go_sem, Nat.reduceLeDiff, Nat.reduceLT, Nat.reduceAdd, Nat.reduceMul, Nat.reduceSub, Nat.reduceEqDiff, Nat.reduceBEq, Int.reduceToNat, reduceCtorEq, ct10t6_22, body22, e31]
      repeat ((with_reducible refine And.intro ?_ ?_); focus (first | (with_reducible trivial) | omega | (intro x y _ _; repeat (first | exact nfR_en nr_i64 | exact nfR_en nr_b | exact nfR_en nr_TWakeRule | exact nfR_en nr_lTWakeRule | exact nfR_en nr_TWakeTable | exact nfR_en nr_li64 | exact nfR_en nr_u64 | exact nfR_lit (by simp only [nrefL, nref, and_self]) | (refine nfR_app (fun x y => ?_) (fun x y => ?_)) | (refine nfR_ins (fun x y => ?_) (fun x y => ?_)) | (refine nfR_del (fun x y => ?_)))) | (intro x hx; repeat (first | (exfalso; omega) | (rcases x with _ | x; first | (and_intros <;> rfl) | rfl))) | (and_intros <;> first | (with_reducible trivial) | omega | assumption | (intro x y _ _; repeat (first | exact nfR_en nr_i64 | exact nfR_en nr_b | exact nfR_en nr_TWakeRule | exact nfR_en nr_lTWakeRule | exact nfR_en nr_TWakeTable | exact nfR_en nr_li64 | exact nfR_en nr_u64 | exact nfR_lit (by simp only [nrefL, nref, and_self]) | (refine nfR_app (fun x y => ?_) (fun x y => ?_)) | (refine nfR_ins (fun x y => ?_) (fun x y => ?_)) | (refine nfR_del (fun x y => ?_)))) | (intro x hx; repeat (first | (exfalso; omega) | (rcases x with _ | x; first | (and_intros <;> rfl) | rfl)))) | grind))
      refine seqM ?_
      obtain ⟨r32, e33, H⟩ := Option.bind_eq_some_iff.1 H
      refine rg ct10t6_ok ?_
      simp only [go_sem, Nat.reduceLeDiff, Nat.reduceLT, Nat.reduceAdd, Nat.reduceMul, Nat.reduceSub, Nat.reduceEqDiff, Nat.reduceBEq, Int.reduceToNat, reduceCtorEq, ct10t6_22, body22, e33]
      repeat ((with_reducible refine And.intro ?_ ?_); focus (first | (with_reducible trivial) | omega | (intro x y _ _; repeat (first | exact nfR_en nr_i64 | exact nfR_en nr_b | exact nfR_en nr_TWakeRule | exact nfR_en nr_lTWakeRule | exact nfR_en nr_TWakeTable | exact nfR_en nr_li64 | exact nfR_en nr_u64 | exact nfR_lit (by simp only [nrefL, nref, and_self]) | (refine nfR_app (fun x y => ?_) (fun x y => ?_)) | (refine nfR_ins (fun x y => ?_) (fun x y => ?_)) | (refine nfR_del (fun x y => ?_)))) | (intro x hx; repeat (first | (exfalso; omega) | (rcases x with _ | x; first | (and_intros <;> rfl) | rfl))) | (and_intros <;> first | (with_reducible trivial) | omega | assumption | (intro x y _ _; repeat (first | exact nfR_en nr_i64 | exact nfR_en nr_b | exact nfR_en nr_TWakeRule | exact nfR_en nr_lTWakeRule | exact nfR_en nr_TWakeTable | exact nfR_en nr_li64 | exact nfR_en nr_u64 | exact nfR_lit (by simp only [nrefL, nref, and_self]) | (refine nfR_app (fun x y => ?_) (fun x y => ?_)) | (refine nfR_ins (fun x y => ?_) (fun x y => ?_)) | (refine nfR_del (fun x y => ?_)))) | (intro x hx; repeat (first | (exfalso; omega) | (rcases x with _ | x; first | (and_intros <;> rfl) | rfl)))) | grind))
      refine seqM ?_
      obtain ⟨r34, e35, H⟩ := Option.bind_eq_some_iff.1 H
      refine rg ct10t6_ok ?_
      simp only [go_sem, Nat.reduceLeDiff, Nat.reduceLT, Nat.reduceAdd, Nat.reduceMul, Nat.reduceSub, Nat.reduceEqDiff, Nat.reduceBEq, Int.reduceToNat, reduceCtorEq, ct10t6_22, body22, e35]
      repeat ((with_reducible refine And.intro ?_ ?_); focus (first | (with_reducible trivial) | omega | (intro x y _ _; repeat (first | exact nfR_en nr_i64 | exact nfR_en nr_b | exact nfR_en nr_TWakeRule | exact nfR_en nr_lTWakeRule | exact nfR_en nr_TWakeTable | exact nfR_en nr_li64 | exact nfR_en nr_u64 | exact nfR_lit (by simp only [nrefL, nref, and_self]) | (refine nfR_app (fun x y => ?_) (fun x y => ?_)) | (refine nfR_ins (fun x y => ?_) (fun x y => ?_)) | (refine nfR_del (fun x y => ?_)))) | (intro x hx; repeat (first | (exfalso; omega) | (rcases x with _ | x; first | (and_intros <;> rfl) | rfl))) | (and_intros <;> first | (with_reducible trivial) | omega | assumption | (intro x y _ _; repeat (first | exact nfR_en nr_i64 | exact nfR_en nr_b | exact nfR_en nr_TWakeRule | exact nfR_en nr_lTWakeRule | exact nfR_en nr_TWakeTable | exact nfR_en nr_li64 | exact nfR_en nr_u64 | exact nfR_lit (by simp only [nrefL, nref, and_self]) | (refine nfR_app (fun x y => ?_) (fun x y => ?_)) | (refine nfR_ins (fun x y => ?_) (fun x y => ?_)) | (refine nfR_del (fun x y => ?_)))) | (intro x hx; repeat (first | (exfalso; omega) | (rcases x with _ | x; first | (and_intros <;> rfl) | rfl)))) | grind))
      refine seqM ?_
      obtain ⟨r36, e37, H⟩ := Option.bind_eq_some_iff.1 H
      refine rg ct10t7_ok ?_
      simp only [go_sem, Nat.reduceLeDiff, Nat.reduceLT, Nat.reduceAdd, Nat.reduceMul, Nat.reduceSub, Nat.reduceEqDiff, Nat.reduceBEq, Int.reduceToNat, reduceCtorEq, ct10t7_18, body18, e37]
      repeat ((with_reducible refine And.intro ?_ ?_); focus (first | (with_reducible trivial) | omega | (intro x y _ _; repeat (first | exact nfR_en nr_i64 | exact nfR_en nr_b | exact nfR_en nr_TWakeRule | exact nfR_en nr_lTWakeRule | exact nfR_en nr_TWakeTable | exact nfR_en nr_li64 | exact nfR_en nr_u64 | exact nfR_lit (by simp only [nrefL, nref, and_self]) | (refine nfR_app (fun x y => ?_) (fun x y => ?_)) | (refine nfR_ins (fun x y => ?_) (fun x y => ?_)) | (refine nfR_del (fun x y => ?_)))) | (intro x hx; repeat (first | (exfalso; omega) | (rcases x with _ | x; first | (and_intros <;> rfl) | rfl))) | (and_intros <;> first | (with_reducible trivial) | omega | assumption | (intro x y _ _; repeat (first | exact nfR_en nr_i64 | exact nfR_en nr_b | exact nfR_en nr_TWakeRule | exact nfR_en nr_lTWakeRule | exact nfR_en nr_TWakeTable | exact nfR_en nr_li64 | exact nfR_en nr_u64 | exact nfR_lit (by simp only [nrefL, nref, and_self]) | (refine nfR_app (fun x y => ?_) (fun x y => ?_)) | (refine nfR_ins (fun x y => ?_) (fun x y => ?_)) | (refine nfR_del (fun x y => ?_)))) | (intro x hx; repeat (first | (exfalso; omega) | (rcases x with _ | x; first | (and_intros <;> rfl) | rfl)))) | grind))
      refine sq ctNo_ok ?_
      simp only [go_sem, Nat.reduceLeDiff, Nat.reduceLT, Nat.reduceAdd, Nat.reduceMul, Nat.reduceSub, Nat.reduceEqDiff, Nat.reduceBEq, Int.reduceToNat, reduceCtorEq]
      repeat ((with_reducible refine And.intro ?_ ?_); focus (first | (with_reducible trivial) | omega | grind))
      refine seqM ?_
      refine sq ctNo_ok ?_
      simp only [go_sem, Nat.reduceLeDiff, Nat.reduceLT, Nat.reduceAdd, Nat.reduceMul, Nat.reduceSub, Nat.reduceEqDiff, Nat.reduceBEq, Int.reduceToNat, reduceCtorEq]
      refine blkM ?_
      refine loop_den (fun s : Int × (List TWakeRule) => [.top, .top, .top, .top, .top, .int .i64 r6.2, .top, .int .i64 r8.2, .top, .int .i64 r10.2, .top, .int .i64 r12.2, .top, .int .i64 r14.2, .top, .bool r16.2, .int .i64 r18.1, .bool r18.2, .top, .bool r20.2, .int .i64 r22.1, .bool r22.2, .top, .top, .int .i64 r24.2.2, .top, .int .i64 r26.2, .int .i64 r28.1, .ro 1 r28.2.1.length false (enR c_i64 r28.2.1), .int .i64 r28.2.2, .ptr 11 0 0 0, .int .i64 r30.2, .top, .int .i64 r32.2, .ptr 15 0 0 0, .int .i64 r34.2, .top, .int .i64 r36.2, .ptr 16 0 0 0, .int .i64 s.1, .top, .top, .top, .top, .top, .top, .top, .top, .top, .top, .top, .top, .top, .top, .top, .top, .top, .top, .top, .top, .top, .top, .top, .top, .top, .top, .top, .top, .top, .top, .top, .top, .top, .top, .top, .top, .top, .top, .top, .top, .top, .top, .top, .top, .top, .top, .top, .top, .top, .top, .top, .top, .top, .top, .top, .top, .top, .top, .top, .top, .top, .top, .top, .top, .top, .top, .top, .top, .top, .top, .top, .top, .top, .top, .top, .top, .top, .top, .top, .top, .top, .top, .top, .top, .top, .top, .top, .top, .top, .top, .top, .top, .top, .top, .top, .top, .top, .top, .top, .top, .top, .top, .top, .top, .top, .top, .top, .top, .top, .top, .top, .top, .top, .top, .top, .top, .top, .top, .top, .top, .top, .top, .top, .top, .top, .top, .top, .top, .top, .top, .top, .top, .top, .top, .top, .top, .top, .top, .top, .top, .top, .top, .top, .top, .top, .top, .top, .top, .top, .top, .top, .top, .top, .top, .top, .top, .top, .top, .top, .top, .top, .top, .top, .top, .top, .top, .top, .top, .top, .top, .top, .top, .top, .top, .top, .top, .top, .top, .top, .top, .top, .top, .top, .top, .top, .top, .top, .top, .top, .top, .top, .top, .top, .top, .top, .top, .top, .top, .top, .top, .top, .top, .top, .top, .top, .top, .top, .top, .top, .top, .top, .top, .top, .top, .top, .top, .top, .top, .top, .top, .top, .top, .top, .top, .top, .top, .top, .top, .top, .top, .top, .top, .top, .top, .top, .top, .top, .top, .top, .top, .top, .top, .top, .top, .top, .top, .top, .top, .top]) (fun s => [.dead, .dead, .dead, .dead, .dead, .dead, .dead, .dead, .dead, .dead, .dead, .lit 23 [.int .i64 r30.1.Id, .int .i64 r30.1.Start, .int .i64 r30.1.Every, .int .i64 r30.1.Length, .int .i64 r30.1.Group], .dead, .dead, .dead, .lit 23 [.int .i64 r34.1.Id, .int .i64 r34.1.Start, .int .i64 r34.1.Every, .int .i64 r34.1.Length, .int .i64 r34.1.Group], .lit 37 [.sl 17 5 0 s.2.length false], .row 23 5 s.2.length (enR c_TWakeRule s.2)]) (fun e : List TWakeRule => [.top, .top, .top, .top, .top, .int .i64 r6.2, .top, .int .i64 r8.2, .top, .int .i64 r10.2, .top, .int .i64 r12.2, .top, .int .i64 r14.2, .top, .bool r16.2, .int .i64 r18.1, .bool r18.2, .top, .bool r20.2, .int .i64 r22.1, .bool r22.2, .top, .top, .int .i64 r24.2.2, .top, .int .i64 r26.2, .int .i64 r28.1, .ro 1 r28.2.1.length false (enR c_i64 r28.2.1), .int .i64 r28.2.2, .ptr 11 0 0 0, .int .i64 r30.2, .top, .int .i64 r32.2, .ptr 15 0 0 0, .int .i64 r34.2, .top, .int .i64 r36.2, .ptr 16 0 0 0, .top, .top, .top, .top, .top, .top, .top, .top, .top, .top, .top, .top, .top, .top, .top, .top, .top, .top, .top, .top, .top, .top, .top, .top, .top, .top, .top, .top, .top, .top, .top, .top, .top, .top, .top, .top, .top, .top, .top, .top, .top, .top, .top, .top, .top, .top, .top, .top, .top, .top, .top, .top, .top, .top, .top, .top, .top, .top, .top, .top, .top, .top, .top, .top, .top, .top, .top, .top, .top, .top, .top, .top, .top, .top, .top, .top, .top, .top, .top, .top, .top, .top, .top, .top, .top, .top, .top, .top, .top, .top, .top, .top, .top, .top, .top, .top, .top, .top, .top, .top, .top, .top, .top, .top, .top, .top, .top, .top, .top, .top, .top, .top, .top, .top, .top, .top, .top, .top, .top, .top, .top, .top, .top, .top, .top, .top, .top, .top, .top, .top, .top, .top, .top, .top, .top, .top, .top, .top, .top, .top, .top, .top, .top, .top, .top, .top, .top, .top, .top, .top, .top, .top, .top, .top, .top, .top, .top, .top, .top, .top, .top, .top, .top, .top, .top, .top, .top, .top, .top, .top, .top, .top, .top, .top, .top, .top, .top, .top, .top, .top, .top, .top, .top, .top, .top, .top, .top, .top, .top, .top, .top, .top, .top, .top, .top, .top, .top, .top, .top, .top, .top, .top, .top, .top, .top, .top, .top, .top, .top, .top, .top, .top, .top, .top, .top, .top, .top, .top, .top, .top, .top, .top, .top, .top, .top, .top, .top, .top, .top, .top, .top, .top, .top, .top, .top, .top, .top, .top, .top, .top, .top, .top, .top, .top, .top, .top, .top, .top, .top, .top]) (fun e => [.dead, .dead, .dead, .dead, .dead, .dead, .dead, .dead, .dead, .dead, .dead, .lit 23 [.int .i64 r30.1.Id, .int .i64 r30.1.Start, .int .i64 r30.1.Every, .int .i64 r30.1.Length, .int .i64 r30.1.Group], .dead, .dead, .dead, .lit 23 [.int .i64 r34.1.Id, .int .i64 r34.1.Start, .int .i64 r34.1.Every, .int .i64 r34.1.Length, .int .i64 r34.1.Group], .lit 37 [.sl 17 5 0 e.length false], .row 23 5 e.length (enR c_TWakeRule e)]) H ?_ (fun s o H hn1_2 hn2_2 => ?_) (fun w2_3 H => ?_)
      · refine SubF_of ⟨[some 0, some 1, some 2, some 3, some 4, some 5, some 6, some 7, some 8, some 9, some 10, some 11, some 12, some 13, some 14, some 15, some 16, none], ?_, ?_, by rfl, by rfl⟩
        · simp [CvL, Cv, getM]
        · exact ⟨CvB_dead, CvB_dead, CvB_dead, CvB_dead, CvB_dead, CvB_dead, CvB_dead, CvB_dead, CvB_dead, CvB_dead, CvB_dead, (by simp [CvB, CvL, Cv, blkAt, geth, getM]), CvB_dead, CvB_dead, CvB_dead, (by simp [CvB, CvL, Cv, blkAt, geth, getM]), (by simp [CvB, CvL, Cv, blkAt, geth, getM]), CvB_none, trivial⟩
      · obtain ⟨v2_1, v2_2⟩ := s
        unfold F10_L2 at H
        try dsimp only at H ⊢
        refine seqM ?_
        refine sq ctNo_ok ?_
        simp only [go_sem, Nat.reduceLeDiff, Nat.reduceLT, Nat.reduceAdd, Nat.reduceMul, Nat.reduceSub, Nat.reduceEqDiff, Nat.reduceBEq, Int.reduceToNat, reduceCtorEq]
        refine condM' rfl trivial (fun hc => ?_) (fun hc => ?_)
        · replace H := cond_f hc H
          refine rg ctNo_ok ?_
          simp only [go_sem, Nat.reduceLeDiff, Nat.reduceLT, Nat.reduceAdd, Nat.reduceMul, Nat.reduceSub, Nat.reduceEqDiff, Nat.reduceBEq, Int.reduceToNat, reduceCtorEq]
          refine ⟨_, (Option.some.inj H).symm, ?_⟩
          refine SubF_of ⟨[some 0, some 1, some 2, some 3, some 4, some 5, some 6, some 7, some 8, some 9, some 10, some 11, some 12, some 13, some 14, some 15, some 16, some 17], ?_, ?_, by rfl, by rfl⟩
          · simp [CvL, Cv, getM]
          · exact ⟨CvB_dead, CvB_dead, CvB_dead, CvB_dead, CvB_dead, CvB_dead, CvB_dead, CvB_dead, CvB_dead, CvB_dead, CvB_dead, (by simp [CvB, CvL, Cv, blkAt, geth, getM]), CvB_dead, CvB_dead, CvB_dead, (by simp [CvB, CvL, Cv, blkAt, geth, getM]), (by simp [CvB, CvL, Cv, blkAt, geth, getM]), CvB_row nr_TWakeRule (by simp) (fun _ _ _ _ => rfl), trivial⟩
        replace H := cond_t hc H
        refine rg ctNo_ok ?_
        simp only [go_sem, Nat.reduceLeDiff, Nat.reduceLT, Nat.reduceAdd, Nat.reduceMul, Nat.reduceSub, Nat.reduceEqDiff, Nat.reduceBEq, Int.reduceToNat, reduceCtorEq]
        refine seqM ?_
        refine blkM ?_
        obtain ⟨f38, H⟩ := need_some.1 H
        replace f38 := capb_iff.1 f38
        refine rg ctNo_ok ?_
        simp only [go_sem, Nat.reduceLeDiff, Nat.reduceLT, Nat.reduceAdd, Nat.reduceMul, Nat.reduceSub, Nat.reduceEqDiff, Nat.reduceBEq, Int.reduceToNat, reduceCtorEq, f38]
        repeat ((with_reducible refine And.intro ?_ ?_); focus (first | (with_reducible trivial) | omega | (intro x y _ _; repeat (first | exact nfR_en nr_i64 | exact nfR_en nr_b | exact nfR_en nr_TWakeRule | exact nfR_en nr_lTWakeRule | exact nfR_en nr_TWakeTable | exact nfR_en nr_li64 | exact nfR_en nr_u64 | exact nfR_lit (by simp only [nrefL, nref, and_self]) | (refine nfR_app (fun x y => ?_) (fun x y => ?_)) | (refine nfR_ins (fun x y => ?_) (fun x y => ?_)) | (refine nfR_del (fun x y => ?_)))) | (intro x hx; repeat (first | (exfalso; omega) | (rcases x with _ | x; first | (and_intros <;> rfl) | rfl))) | (and_intros <;> first | (with_reducible trivial) | omega | assumption | (intro x y _ _; repeat (first | exact nfR_en nr_i64 | exact nfR_en nr_b | exact nfR_en nr_TWakeRule | exact nfR_en nr_lTWakeRule | exact nfR_en nr_TWakeTable | exact nfR_en nr_li64 | exact nfR_en nr_u64 | exact nfR_lit (by simp only [nrefL, nref, and_self]) | (refine nfR_app (fun x y => ?_) (fun x y => ?_)) | (refine nfR_ins (fun x y => ?_) (fun x y => ?_)) | (refine nfR_del (fun x y => ?_)))) | (intro x hx; repeat (first | (exfalso; omega) | (rcases x with _ | x; first | (and_intros <;> rfl) | rfl)))) | grind))
        refine rg ctNo_ok ?_
        simp only [go_sem, Nat.reduceLeDiff, Nat.reduceLT, Nat.reduceAdd, Nat.reduceMul, Nat.reduceSub, Nat.reduceEqDiff, Nat.reduceBEq, Int.reduceToNat, reduceCtorEq]
        refine ⟨_, (Option.some.inj H).symm, ?_⟩
        refine SubF_of ⟨[some 0, some 1, some 2, some 3, some 4, some 5, some 6, some 7, some 8, some 9, some 10, some 11, some 12, some 13, some 14, some 15, some 16, some 19], ?_, ?_, by rfl, by rfl⟩
        · simp [CvL, Cv, getM]
        · exact ⟨CvB_dead, CvB_dead, CvB_dead, CvB_dead, CvB_dead, CvB_dead, CvB_dead, CvB_dead, CvB_dead, CvB_dead, CvB_dead, (by simp [CvB, CvL, Cv, blkAt, geth, getM]), CvB_dead, CvB_dead, CvB_dead, (by simp [CvB, CvL, Cv, blkAt, geth, getM]), (by simp [CvB, CvL, Cv, blkAt, geth, getM]), CvB_row nr_TWakeRule (by simp) (app_row (f := c_TWakeRule) v2_2 [(TWakeRule.mk v2_1 0 0 1 0)] (fun _ _ _ _ => rfl) (lit_row (f := c_TWakeRule) [(TWakeRule.mk v2_1 0 0 1 0)] (fun _ _ => rfl) rfl)), trivial⟩
      · try dsimp only at H ⊢
        try simp only [m_normal, k_normal, b_normal, kL_normal, r_normal]
        refine seqM ?_
        refine fz_mean [17] ?_ ?_
        · simp only [fzV, fzL, fzOb, fzObL, fzH, fzHF, fzB, fzObB, fzObH, inL, rowOb, geth, cond_true, cond_false, Bool.or_false, Bool.or_true, Bool.false_or, Bool.true_or, and_self, true_and, and_true, Nat.reduceEqDiff, Nat.reduceBEq, beq_self_eq_true, sub_enR0, Nat.reduceAdd, Nat.zero_add, Nat.le_refl, List.nil_append]
          try (and_intros <;> first | trivial | omega | (intro x y _ _; first | exact nfR_en nr_i64 | exact nfR_en nr_b | exact nfR_en nr_TWakeRule | exact nfR_en nr_lTWakeRule | exact nfR_en nr_TWakeTable | exact nfR_en nr_li64 | exact nfR_en nr_u64))
        simp only [fzV, fzL, fzOb, fzObL, fzH, fzHF, fzB, fzObB, fzObH, inL, rowOb, geth, cond_true, cond_false, Bool.or_false, Bool.or_true, Bool.false_or, Bool.true_or, and_self, true_and, and_true, Nat.reduceEqDiff, Nat.reduceBEq, beq_self_eq_true, sub_enR0, Nat.reduceAdd, Nat.zero_add, Nat.le_refl, List.nil_append]
        obtain ⟨r39, e40, H⟩ := Option.bind_eq_some_iff.1 H
        refine rg ct10t1_ok ?_
        simp only [go_sem, Nat.reduceLeDiff, Nat.reduceLT, Nat.reduceAdd, Nat.reduceMul, Nat.reduceSub, Nat.reduceEqDiff, Nat.reduceBEq, Int.reduceToNat, reduceCtorEq, ct10t1_24, body24, e40]
        repeat ((with_reducible refine And.intro ?_ ?_); focus (first | (with_reducible trivial) | omega | (intro x y _ _; repeat (first | exact nfR_en nr_i64 | exact nfR_en nr_b | exact nfR_en nr_TWakeRule | exact nfR_en nr_lTWakeRule | exact nfR_en nr_TWakeTable | exact nfR_en nr_li64 | exact nfR_en nr_u64 | exact nfR_lit (by simp only [nrefL, nref, and_self]) | (refine nfR_app (fun x y => ?_) (fun x y => ?_)) | (refine nfR_ins (fun x y => ?_) (fun x y => ?_)) | (refine nfR_del (fun x y => ?_)))) | (intro x hx; repeat (first | (exfalso; omega) | (rcases x with _ | x; first | (and_intros <;> rfl) | rfl))) | (and_intros <;> first | (with_reducible trivial) | omega | assumption | (intro x y _ _; repeat (first | exact nfR_en nr_i64 | exact nfR_en nr_b | exact nfR_en nr_TWakeRule | exact nfR_en nr_lTWakeRule | exact nfR_en nr_TWakeTable | exact nfR_en nr_li64 | exact nfR_en nr_u64 | exact nfR_lit (by simp only [nrefL, nref, and_self]) | (refine nfR_app (fun x y => ?_) (fun x y => ?_)) | (refine nfR_ins (fun x y => ?_) (fun x y => ?_)) | (refine nfR_del (fun x y => ?_)))) | (intro x hx; repeat (first | (exfalso; omega) | (rcases x with _ | x; first | (and_intros <;> rfl) | rfl)))) | grind))
        refine sq ctNo_ok ?_
        simp only [go_sem, Nat.reduceLeDiff, Nat.reduceLT, Nat.reduceAdd, Nat.reduceMul, Nat.reduceSub, Nat.reduceEqDiff, Nat.reduceBEq, Int.reduceToNat, reduceCtorEq]
        repeat ((with_reducible refine And.intro ?_ ?_); focus (first | (with_reducible trivial) | omega | grind))
        refine sq ctNo_ok ?_
        simp only [go_sem, Nat.reduceLeDiff, Nat.reduceLT, Nat.reduceAdd, Nat.reduceMul, Nat.reduceSub, Nat.reduceEqDiff, Nat.reduceBEq, Int.reduceToNat, reduceCtorEq]
        repeat ((with_reducible refine And.intro ?_ ?_); focus (first | (with_reducible trivial) | omega | grind))
        refine seqM ?_
        refine bif_split (c := (((bEq r26.2 0) && (bEq r28.2.2 0)) && (bEq r28.1 10))) (fun hg41 => ?_) (fun hg41 => ?_)
        · replace H := cond_t hg41 H
          obtain ⟨r41, e42, H⟩ := Option.bind_eq_some_iff.1 H
          refine rg ct10t8_ok ?_
          simp only [go_sem, Nat.reduceLeDiff, Nat.reduceLT, Nat.reduceAdd, Nat.reduceMul, Nat.reduceSub, Nat.reduceEqDiff, Nat.reduceBEq, Int.reduceToNat, reduceCtorEq, ct10t8_31, body31, hg41, e42]
          repeat ((with_reducible refine And.intro ?_ ?_); focus (first | (with_reducible trivial) | omega | (intro x y _ _; repeat (first | exact nfR_en nr_i64 | exact nfR_en nr_b | exact nfR_en nr_TWakeRule | exact nfR_en nr_lTWakeRule | exact nfR_en nr_TWakeTable | exact nfR_en nr_li64 | exact nfR_en nr_u64 | exact nfR_lit (by simp only [nrefL, nref, and_self]) | (refine nfR_app (fun x y => ?_) (fun x y => ?_)) | (refine nfR_ins (fun x y => ?_) (fun x y => ?_)) | (refine nfR_del (fun x y => ?_)))) | (intro x hx; repeat (first | (exfalso; omega) | (rcases x with _ | x; first | (and_intros <;> rfl) | rfl))) | (and_intros <;> first | (with_reducible trivial) | omega | assumption | (intro x y _ _; repeat (first | exact nfR_en nr_i64 | exact nfR_en nr_b | exact nfR_en nr_TWakeRule | exact nfR_en nr_lTWakeRule | exact nfR_en nr_TWakeTable | exact nfR_en nr_li64 | exact nfR_en nr_u64 | exact nfR_lit (by simp only [nrefL, nref, and_self]) | (refine nfR_app (fun x y => ?_) (fun x y => ?_)) | (refine nfR_ins (fun x y => ?_) (fun x y => ?_)) | (refine nfR_del (fun x y => ?_)))) | (intro x hx; repeat (first | (exfalso; omega) | (rcases x with _ | x; first | (and_intros <;> rfl) | rfl)))) | grind))
          refine seqM ?_
          obtain ⟨r42, e43, H⟩ := Option.bind_eq_some_iff.1 H
          refine rg ct10t9_ok ?_
          simp only [go_sem, Nat.reduceLeDiff, Nat.reduceLT, Nat.reduceAdd, Nat.reduceMul, Nat.reduceSub, Nat.reduceEqDiff, Nat.reduceBEq, Int.reduceToNat, reduceCtorEq, ct10t9_16, body16, e43]
          repeat ((with_reducible refine And.intro ?_ ?_); focus (first | (with_reducible trivial) | omega | (intro x y _ _; repeat (first | exact nfR_en nr_i64 | exact nfR_en nr_b | exact nfR_en nr_TWakeRule | exact nfR_en nr_lTWakeRule | exact nfR_en nr_TWakeTable | exact nfR_en nr_li64 | exact nfR_en nr_u64 | exact nfR_lit (by simp only [nrefL, nref, and_self]) | (refine nfR_app (fun x y => ?_) (fun x y => ?_)) | (refine nfR_ins (fun x y => ?_) (fun x y => ?_)) | (refine nfR_del (fun x y => ?_)))) | (intro x hx; repeat (first | (exfalso; omega) | (rcases x with _ | x; first | (and_intros <;> rfl) | rfl))) | (and_intros <;> first | (with_reducible trivial) | omega | assumption | (intro x y _ _; repeat (first | exact nfR_en nr_i64 | exact nfR_en nr_b | exact nfR_en nr_TWakeRule | exact nfR_en nr_lTWakeRule | exact nfR_en nr_TWakeTable | exact nfR_en nr_li64 | exact nfR_en nr_u64 | exact nfR_lit (by simp only [nrefL, nref, and_self]) | (refine nfR_app (fun x y => ?_) (fun x y => ?_)) | (refine nfR_ins (fun x y => ?_) (fun x y => ?_)) | (refine nfR_del (fun x y => ?_)))) | (intro x hx; repeat (first | (exfalso; omega) | (rcases x with _ | x; first | (and_intros <;> rfl) | rfl)))) | grind))
          refine rg ctNo_ok ?_
          simp only [go_sem, Nat.reduceLeDiff, Nat.reduceLT, Nat.reduceAdd, Nat.reduceMul, Nat.reduceSub, Nat.reduceEqDiff, Nat.reduceBEq, Int.reduceToNat, reduceCtorEq]
          obtain rfl := Option.some.inj H
          first | rfl | simp only [Bool.and_false, Bool.false_and, Bool.and_true, Bool.true_and]
        replace H := cond_f hg41 H
        refine rg ctNo_ok ?_
        simp only [go_sem, Nat.reduceLeDiff, Nat.reduceLT, Nat.reduceAdd, Nat.reduceMul, Nat.reduceSub, Nat.reduceEqDiff, Nat.reduceBEq, Int.reduceToNat, reduceCtorEq, hg41]
        repeat ((with_reducible refine And.intro ?_ ?_); focus (first | (with_reducible trivial) | omega | (intro x y _ _; repeat (first | exact nfR_en nr_i64 | exact nfR_en nr_b | exact nfR_en nr_TWakeRule | exact nfR_en nr_lTWakeRule | exact nfR_en nr_TWakeTable | exact nfR_en nr_li64 | exact nfR_en nr_u64 | exact nfR_lit (by simp only [nrefL, nref, and_self]) | (refine nfR_app (fun x y => ?_) (fun x y => ?_)) | (refine nfR_ins (fun x y => ?_) (fun x y => ?_)) | (refine nfR_del (fun x y => ?_)))) | (intro x hx; repeat (first | (exfalso; omega) | (rcases x with _ | x; first | (and_intros <;> rfl) | rfl))) | (and_intros <;> first | (with_reducible trivial) | omega | assumption | (intro x y _ _; repeat (first | exact nfR_en nr_i64 | exact nfR_en nr_b | exact nfR_en nr_TWakeRule | exact nfR_en nr_lTWakeRule | exact nfR_en nr_TWakeTable | exact nfR_en nr_li64 | exact nfR_en nr_u64 | exact nfR_lit (by simp only [nrefL, nref, and_self]) | (refine nfR_app (fun x y => ?_) (fun x y => ?_)) | (refine nfR_ins (fun x y => ?_) (fun x y => ?_)) | (refine nfR_del (fun x y => ?_)))) | (intro x hx; repeat (first | (exfalso; omega) | (rcases x with _ | x; first | (and_intros <;> rfl) | rfl)))) | grind))
        refine seqM ?_
        obtain ⟨r44, e45, H⟩ := Option.bind_eq_some_iff.1 H
        refine rg ct10t9_ok ?_
        simp only [go_sem, Nat.reduceLeDiff, Nat.reduceLT, Nat.reduceAdd, Nat.reduceMul, Nat.reduceSub, Nat.reduceEqDiff, Nat.reduceBEq, Int.reduceToNat, reduceCtorEq, ct10t9_16, body16, e45]
        repeat ((with_reducible refine And.intro ?_ ?_); focus (first | (with_reducible trivial) | omega | (intro x y _ _; repeat (first | exact nfR_en nr_i64 | exact nfR_en nr_b | exact nfR_en nr_TWakeRule | exact nfR_en nr_lTWakeRule | exact nfR_en nr_TWakeTable | exact nfR_en nr_li64 | exact nfR_en nr_u64 | exact nfR_lit (by simp only [nrefL, nref, and_self]) | (refine nfR_app (fun x y => ?_) (fun x y => ?_)) | (refine nfR_ins (fun x y => ?_) (fun x y => ?_)) | (refine nfR_del (fun x y => ?_)))) | (intro x hx; repeat (first | (exfalso; omega) | (rcases x with _ | x; first | (and_intros <;> rfl) | rfl))) | (and_intros <;> first | (with_reducible trivial) | omega | assumption | (intro x y _ _; repeat (first | exact nfR_en nr_i64 | exact nfR_en nr_b | exact nfR_en nr_TWakeRule | exact nfR_en nr_lTWakeRule | exact nfR_en nr_TWakeTable | exact nfR_en nr_li64 | exact nfR_en nr_u64 | exact nfR_lit (by simp only [nrefL, nref, and_self]) | (refine nfR_app (fun x y => ?_) (fun x y => ?_)) | (refine nfR_ins (fun x y => ?_) (fun x y => ?_)) | (refine nfR_del (fun x y => ?_)))) | (intro x hx; repeat (first | (exfalso; omega) | (rcases x with _ | x; first | (and_intros <;> rfl) | rfl)))) | grind))
        refine rg ctNo_ok ?_
        simp only [go_sem, Nat.reduceLeDiff, Nat.reduceLT, Nat.reduceAdd, Nat.reduceMul, Nat.reduceSub, Nat.reduceEqDiff, Nat.reduceBEq, Int.reduceToNat, reduceCtorEq]
        obtain rfl := Option.some.inj H
        first | rfl | simp only [Bool.and_false, Bool.false_and, Bool.and_true, Bool.true_and]
  · cases hb
end Go.Proofs.Ytpgcekjnpieibaa
