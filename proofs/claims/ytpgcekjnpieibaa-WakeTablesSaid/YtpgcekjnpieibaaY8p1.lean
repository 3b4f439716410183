/-
  What WakeTables reaches.
-/
import Derived.Test.YtpgcekjnpieibaaB
namespace Go.Proofs.Ytpgcekjnpieibaa
open Go.Am
set_option linter.unusedVariables false
set_option linter.unusedSimpArgs false
attribute [local go_sem] w_skip w_label w_goto w_scope k_goto b_goto l_goto s_normal s_exit s_ret s_goto w_region w_draw w_seq w_cond w_block w_exit w_ret w_loop k_normal k_exit k_ret b_normal b_exit b_ret l_normal l_exit l_ret m_normal m_exit m_ret m_goto kL_normal kL_exit kL_ret kS_normal kS_exit kS_ret kS_goto r_normal r_ret o_nil o_cons q_nil q_cons nxt gval gvd gvl gvw dstOf evO ogOp ogC og ogL ogP ogO rho rhoO strip optOk getL setL setT absC absV absL pO hO evLoad ldB geth seth evStore stRes stB evBox evAlloc evFieldAddr evField evIndexAddr evBin2 binI binB binNR binU nilR_isEmpty nilR_t nilR_0 nilR_s evInt evStr evUn evConv cvO evPick mrg evExtract evNil evCall mapR evBuiltin evLen2 vcells vcOk atom tabF cnd retK resFin resL resA resC resCons evBuild evBuildP placeS placeA fillA fillOk putL getP nxtQ pureC_eq pureR genC_eq genR roV roL roOb roObL roW roWL roWOb roWObL nref nrefL binA binN eqSh eqRes evIndex evIndex2 evIndexS evSlice evSlice2 evSliceS evBound evConv2 cvS evAppend appRes srcOf evMake evBuildSlice repL evFn evMin evMax freshC freshR sub_enR0 evClear evClearR evCopy evCopyR lenS cutS Bool.or_false Bool.false_or Bool.or_true Bool.true_or Bool.and_false Bool.false_and Option.map_some Option.map_none Option.getD_some Option.getD_none Option.bind_some Option.bind_none Option.or_some Option.or_none Option.none_or Option.isSome_none Option.isNone_none Option.isNone_some List.nil_append List.cons_append List.append_nil cond_true cond_false List.length_cons List.length_nil beq_self_eq_true Bool.and_true Bool.true_and Bool.not_true Bool.not_false true_and and_true and_self true_implies implies_true ne_eq not_false_eq_true Bool.false_eq_true Bool.true_eq_false false_implies Nat.lt_irrefl Nat.le_refl Nat.succ_ne_self imp_self Bool.cond_false_right Bool.cond_true_left decide_true decide_false Bool.not_eq_true' Bool.not_eq_false' Bool.not_not Nat.zero_mul Nat.zero_add Nat.add_zero Nat.mul_one Nat.one_mul Bool.cond_self tsz3 tby3 tagg3 tslice3 tarr3 tzero3 tzn3 tplaces3 tint3 tstr3 tnoint3 tbool3 tany3 tintk3 tbytes3 tsz4 tby4 tagg4 tslice4 tarr4 tzero4 tzn4 tplaces4 tint4 tstr4 tnoint4 tbool4 tany4 tintk4 tbytes4 tsz23 tby23 tagg23 tslice23 tarr23 tzero23 tzn23 tplaces23 tint23 tstr23 tnoint23 tbool23 tany23 tintk23 tbytes23 tfld23_0 tfld23_1 tfld23_2 tfld23_3 tfld23_4 tsz24 tby24 tagg24 tslice24 tarr24 tzero24 tzn24 tplaces24 tint24 tstr24 tnoint24 tbool24 tany24 tintk24 tbytes24 tsz29 tby29 tagg29 tslice29 tarr29 tzero29 tzn29 tplaces29 tint29 tstr29 tnoint29 tbool29 tany29 tintk29 tbytes29 tsz35 tby35 tagg35 tslice35 tarr35 tzero35 tzn35 tplaces35 tint35 tstr35 tnoint35 tbool35 tany35 tintk35 tbytes35 tsz37 tby37 tagg37 tslice37 tarr37 tzero37 tzn37 tplaces37 tint37 tstr37 tnoint37 tbool37 tany37 tintk37 tbytes37 tfld37_0 tsz51 tby51 tagg51 tslice51 tarr51 tzero51 tzn51 tplaces51 tint51 tstr51 tnoint51 tbool51 tany51 tintk51 tbytes51 tsz61 tby61 tagg61 tslice61 tarr61 tzero61 tzn61 tplaces61 tint61 tstr61 tnoint61 tbool61 tany61 tintk61 tbytes61 tsz71 tby71 tagg71 tslice71 tarr71 tzero71 tzn71 tplaces71 tint71 tstr71 tnoint71 tbool71 tany71 tintk71 tbytes71 tsz74 tby74 tagg74 tslice74 tarr74 tzero74 tzn74 tplaces74 tint74 tstr74 tnoint74 tbool74 tany74 tintk74 tbytes74 e_u8_0 fit_u8 de_u8 g_u8 k_u8 e_i64_0 fit_i64 de_i64 g_i64 k_i64 e_b_0 fit_b de_b g_b k_b e_TWakeRule_0 e_TWakeRule_1 e_TWakeRule_2 e_TWakeRule_3 e_TWakeRule_4 fit_TWakeRule de_TWakeRule g_TWakeRule k_TWakeRule eta_TWakeRule e_lTWakeRule_0 fit_lTWakeRule de_lTWakeRule g_lTWakeRule k_lTWakeRule e_TWakeTable_0 fit_TWakeTable de_TWakeTable g_TWakeTable k_TWakeTable eta_TWakeTable e_li64_0 fit_li64 de_li64 g_li64 k_li64 e_u64_0 fit_u64 de_u64 g_u64 k_u64 deR_0 deR_1 deR_2 deR_3 deR_4 deR_5 deR_6 deR_7 deR_8 deR_9 deR_10 deR_11 deR_12 litC_x0 litC_x1 litC_x2 litC_x3 litC_x4 litC_x5 litC_x6 litC_x7 litC_x8 litC_x9 litC_x10 litC_x11 strE_u8 Fit_0 Option.isSome_some gt_some gd_one rK rG aL aK iK bK sK lK iA bA sA lA or_true true_or Int.toNat_natCast shT_23 Int.toNat_zero Int.cast_ofNat_Int
/-! hotspot/hotspotref36.Small -/
noncomputable def F11 (p0 : TWakeRule) : Option (Bool) :=
  some ((((bLe p0.Start 20000) && (bLe p0.Every 2000)) && (bLe p0.Length 2000)) && ((bLe p0.Every 0) || (bLe 10 p0.Every)))
noncomputable def body11 : List AV → AR
  | [v0] => .pure (aK 5 k_TWakeRule v0 ∧ (F11 (g_TWakeRule (aL v0))).isSome = true) (.bool (gt (F11 (g_TWakeRule (aL v0)))))
  | _ => .fail
set_option maxHeartbeats 4000000 in
set_option maxRecDepth 20000 in
theorem ok11 : FnOk Try.prog 11 (pureC body11) := by
  refine pure_fnM body11 (rs := [.tmp 2]) Try.func11 (by kernel_rfl) rfl rfl ?_
  intro l ob v hb hob
  unfold body11 at hb
  split at hb
  · rename_i v0
    injection hb with q1 q2; subst q1 q2
    obtain ⟨hk0, hob⟩ := hob
    obtain ⟨r, H⟩ := Option.isSome_iff_exists.1 hob
    rw [H, gt_some]
    have hw0 := wA_TWakeRule hk0
    generalize g_TWakeRule (aL v0) = p0 at H hw0
    refine ⟨[.agg [.int .i64 p0.Id, .int .i64 p0.Start, .int .i64 p0.Every, .int .i64 p0.Length, .int .i64 p0.Group]], _, (fun E vs F => FR_wk1 hw0.1 F (fun vs F => F)), rfl, rfl, ?_⟩
    rw [Try.ntmps11]
    simp only [List.length_cons, List.length_nil, Nat.reduceAdd, Nat.reduceSub, List.replicate_succ, List.replicate_zero, List.cons_append, List.nil_append]
    unfold F11 at H
    try dsimp only at H
    refine sq ctNo_ok ?_
    simp only [go_sem, Nat.reduceLeDiff, Nat.reduceLT, Nat.reduceAdd, Nat.reduceMul, Nat.reduceSub, Nat.reduceEqDiff, Nat.reduceBEq, Int.reduceToNat, reduceCtorEq]
    refine sq ctNo_ok ?_
    simp only [go_sem, Nat.reduceLeDiff, Nat.reduceLT, Nat.reduceAdd, Nat.reduceMul, Nat.reduceSub, Nat.reduceEqDiff, Nat.reduceBEq, Int.reduceToNat, reduceCtorEq]
    repeat ((with_reducible refine And.intro ?_ ?_); focus (first | (with_reducible trivial) | omega | grind))
    refine rg ctNo_ok ?_
    simp only [go_sem, Nat.reduceLeDiff, Nat.reduceLT, Nat.reduceAdd, Nat.reduceMul, Nat.reduceSub, Nat.reduceEqDiff, Nat.reduceBEq, Int.reduceToNat, reduceCtorEq]
    obtain rfl := Option.some.inj H
    first | rfl | simp only [Bool.and_false, Bool.false_and, Bool.and_true, Bool.true_and]
  · cases hb
/-! hotspot/hotspotlaw36.small -/
noncomputable def ct19t0 : Ct := tab [(11, pureC body11)]
theorem ct19t0_ok : CtOk Try.prog ct19t0 := tab_cons ok11 <| tab_nil
theorem ct19t0_11 (l : List AV) (h : List ABlk) : ct19t0 11 l h = pureC body11 l h := rfl
noncomputable def F19_L1 (p0 : TWakeTable) (v1_1 : Int) : Option (Lp (Int) ((Unit) ⊕ (Bool))) :=
  bif (bLt v1_1 (p0.List.length : Nat)) then (need (inb v1_1 p0.List.length) <| (F11 (gd p0.List v1_1.toNat)).bind fun r2 => bif (!r2) then (some (.done (.inr false))) else (some (.next (wr .i64 (v1_1 + 1))))) else (some (.done (.inl ())))
noncomputable def F19 (p0 : TWakeTable) : Option (Bool) :=
  bif (bLt 40 (p0.List.length : Nat)) then (some false) else (lp (loopD (fun s => F19_L1 p0 s) 0) (fun e => some true) some)
noncomputable def body19 : List AV → AR
  | [v0] => .pure (aK 1 k_TWakeTable v0 ∧ (F19 (g_TWakeTable (aL v0))).isSome = true) (.bool (gt (F19 (g_TWakeTable (aL v0)))))
  | _ => .fail
set_option maxHeartbeats 4000000 in
set_option maxRecDepth 20000 in
theorem ok19 : FnOk Try.prog 19 (pureC body19) := by
  refine pure_fnM body19 (rs := [.tmp 2]) Try.func19 (by kernel_rfl) rfl rfl ?_
  intro l ob v hb hob
  unfold body19 at hb
  split at hb
  · rename_i v0
    injection hb with q1 q2; subst q1 q2
    obtain ⟨hk0, hob⟩ := hob
    obtain ⟨r, H⟩ := Option.isSome_iff_exists.1 hob
    rw [H, gt_some]
    have hw0 := wA_TWakeTable hk0
    generalize g_TWakeTable (aL v0) = p0 at H hw0
    refine ⟨[.agg [.ro 5 p0.List.length false (enR c_TWakeRule p0.List)]], _, (fun E vs F => FR_wk1 hw0.1 F (fun vs F => F)), rfl, rfl, ?_⟩
    rw [Try.ntmps19]
    simp only [List.length_cons, List.length_nil, Nat.reduceAdd, Nat.reduceSub, List.replicate_succ, List.replicate_zero, List.cons_append, List.nil_append]
    unfold F19 at H
    try dsimp only at H
    refine sq ctNo_ok ?_
    simp only [go_sem, Nat.reduceLeDiff, Nat.reduceLT, Nat.reduceAdd, Nat.reduceMul, Nat.reduceSub, Nat.reduceEqDiff, Nat.reduceBEq, Int.reduceToNat, reduceCtorEq]
    refine seqM ?_
    refine sq ctNo_ok ?_
    simp only [go_sem, Nat.reduceLeDiff, Nat.reduceLT, Nat.reduceAdd, Nat.reduceMul, Nat.reduceSub, Nat.reduceEqDiff, Nat.reduceBEq, Int.reduceToNat, reduceCtorEq]
    repeat ((with_reducible refine And.intro ?_ ?_); focus (first | (with_reducible trivial) | omega | (intro x y _ _; (repeat (first | exact nfR_enI | exact nfR_lit (by simp only [nrefL, nref, and_self]) | (refine nfR_app (fun x y => ?_) (fun x y => ?_)) | (refine nfR_ins (fun x y => ?_) (fun x y => ?_)) | (refine nfR_del (fun x y => ?_)) | (refine nfR_upc (fun x y => ?_) (by simp only [nrefL, nref, and_self])) | (refine nfR_ovw (fun x y => ?_) (fun x y => ?_)) | exact nfR_getL (by simp only [nrefL, nref, and_self]))); done) | (intro x hx; (repeat (first | (exfalso; omega) | (rcases x with _ | x; first | (and_intros <;> (first | exact rfl | exact trivial | exact ⟨Or.inr rfl, Fit_enI⟩ | exact Fit_enI | exact Or.inr rfl | exact Or.inl rfl | exact fun x hx => absurd hx (by omega) | exact ⟨Or.inl rfl, fun x hx => absurd hx (by omega)⟩)) | (first | exact rfl | exact trivial | exact ⟨Or.inr rfl, Fit_enI⟩ | exact Fit_enI | exact Or.inr rfl | exact Or.inl rfl | exact fun x hx => absurd hx (by omega) | exact ⟨Or.inl rfl, fun x hx => absurd hx (by omega)⟩)))); done) | (and_intros <;> first | (with_reducible trivial) | omega | assumption | (intro x y _ _; (repeat (first | exact nfR_enI | exact nfR_lit (by simp only [nrefL, nref, and_self]) | (refine nfR_app (fun x y => ?_) (fun x y => ?_)) | (refine nfR_ins (fun x y => ?_) (fun x y => ?_)) | (refine nfR_del (fun x y => ?_)) | (refine nfR_upc (fun x y => ?_) (by simp only [nrefL, nref, and_self])) | (refine nfR_ovw (fun x y => ?_) (fun x y => ?_)) | exact nfR_getL (by simp only [nrefL, nref, and_self]))); done) | (intro x hx; (repeat (first | (exfalso; omega) | (rcases x with _ | x; first | (and_intros <;> (first | exact rfl | exact trivial | exact ⟨Or.inr rfl, Fit_enI⟩ | exact Fit_enI | exact Or.inr rfl | exact Or.inl rfl | exact fun x hx => absurd hx (by omega) | exact ⟨Or.inl rfl, fun x hx => absurd hx (by omega)⟩)) | (first | exact rfl | exact trivial | exact ⟨Or.inr rfl, Fit_enI⟩ | exact Fit_enI | exact Or.inr rfl | exact Or.inl rfl | exact fun x hx => absurd hx (by omega) | exact ⟨Or.inl rfl, fun x hx => absurd hx (by omega)⟩)))); done)) | grind))
    refine condM rfl trivial (fun hc => ?_) (fun hc => ?_)
    · replace H := cond_t hc H
      refine sq ctNo_ok ?_
      simp only [go_sem, Nat.reduceLeDiff, Nat.reduceLT, Nat.reduceAdd, Nat.reduceMul, Nat.reduceSub, Nat.reduceEqDiff, Nat.reduceBEq, Int.reduceToNat, reduceCtorEq]
      refine rg ctNo_ok ?_
      simp only [go_sem, Nat.reduceLeDiff, Nat.reduceLT, Nat.reduceAdd, Nat.reduceMul, Nat.reduceSub, Nat.reduceEqDiff, Nat.reduceBEq, Int.reduceToNat, reduceCtorEq]
      obtain rfl := Option.some.inj H
      first | rfl | simp only [Bool.and_false, Bool.false_and, Bool.and_true, Bool.true_and]
    replace H := cond_f hc H
    refine rg ctNo_ok ?_
    simp only [go_sem, Nat.reduceLeDiff, Nat.reduceLT, Nat.reduceAdd, Nat.reduceMul, Nat.reduceSub, Nat.reduceEqDiff, Nat.reduceBEq, Int.reduceToNat, reduceCtorEq]
    refine seqM ?_
    refine sq ctNo_ok ?_
    simp only [go_sem, Nat.reduceLeDiff, Nat.reduceLT, Nat.reduceAdd, Nat.reduceMul, Nat.reduceSub, Nat.reduceEqDiff, Nat.reduceBEq, Int.reduceToNat, reduceCtorEq]
    refine blkM ?_
    refine loop_den (fun s : Int => [.top, .ptr 0 0 0 0, .top, .int .i64 s, .top, .top, .top, .top, .top, .top, .top, .top, .top, .top, .top, .top, .top, .top, .top, .top, .top, .top]) (fun s => [.lit 37 [.ro 5 p0.List.length false (enR c_TWakeRule p0.List)]]) (fun e : Unit => [.top, .top, .top, .top, .top, .top, .top, .top, .top, .top, .top, .top, .top, .top, .top, .top, .top, .top, .top, .top, .top, .top]) (fun e => [.dead]) H ?_ (fun v1_1 o H hn1_1 hn2_1 => ?_) (fun e H => ?_)
    · refine SubF_of ⟨[some 0], ?_, ?_, by rfl, by rfl⟩
      · simp [CvL, Cv, getM]
      · exact ⟨(by simp [CvB, CvL, Cv, blkAt, geth, getM]), trivial⟩
    · unfold F19_L1 at H
      try dsimp only at H ⊢
      refine seqM ?_
      refine sq ctNo_ok ?_
      simp only [go_sem, Nat.reduceLeDiff, Nat.reduceLT, Nat.reduceAdd, Nat.reduceMul, Nat.reduceSub, Nat.reduceEqDiff, Nat.reduceBEq, Int.reduceToNat, reduceCtorEq]
      repeat ((with_reducible refine And.intro ?_ ?_); focus (first | (with_reducible trivial) | omega | (intro x y _ _; (repeat (first | exact nfR_enI | exact nfR_lit (by simp only [nrefL, nref, and_self]) | (refine nfR_app (fun x y => ?_) (fun x y => ?_)) | (refine nfR_ins (fun x y => ?_) (fun x y => ?_)) | (refine nfR_del (fun x y => ?_)) | (refine nfR_upc (fun x y => ?_) (by simp only [nrefL, nref, and_self])) | (refine nfR_ovw (fun x y => ?_) (fun x y => ?_)) | exact nfR_getL (by simp only [nrefL, nref, and_self]))); done) | (intro x hx; (repeat (first | (exfalso; omega) | (rcases x with _ | x; first | (and_intros <;> (first | exact rfl | exact trivial | exact ⟨Or.inr rfl, Fit_enI⟩ | exact Fit_enI | exact Or.inr rfl | exact Or.inl rfl | exact fun x hx => absurd hx (by omega) | exact ⟨Or.inl rfl, fun x hx => absurd hx (by omega)⟩)) | (first | exact rfl | exact trivial | exact ⟨Or.inr rfl, Fit_enI⟩ | exact Fit_enI | exact Or.inr rfl | exact Or.inl rfl | exact fun x hx => absurd hx (by omega) | exact ⟨Or.inl rfl, fun x hx => absurd hx (by omega)⟩)))); done) | (and_intros <;> first | (with_reducible trivial) | omega | assumption | (intro x y _ _; (repeat (first | exact nfR_enI | exact nfR_lit (by simp only [nrefL, nref, and_self]) | (refine nfR_app (fun x y => ?_) (fun x y => ?_)) | (refine nfR_ins (fun x y => ?_) (fun x y => ?_)) | (refine nfR_del (fun x y => ?_)) | (refine nfR_upc (fun x y => ?_) (by simp only [nrefL, nref, and_self])) | (refine nfR_ovw (fun x y => ?_) (fun x y => ?_)) | exact nfR_getL (by simp only [nrefL, nref, and_self]))); done) | (intro x hx; (repeat (first | (exfalso; omega) | (rcases x with _ | x; first | (and_intros <;> (first | exact rfl | exact trivial | exact ⟨Or.inr rfl, Fit_enI⟩ | exact Fit_enI | exact Or.inr rfl | exact Or.inl rfl | exact fun x hx => absurd hx (by omega) | exact ⟨Or.inl rfl, fun x hx => absurd hx (by omega)⟩)) | (first | exact rfl | exact trivial | exact ⟨Or.inr rfl, Fit_enI⟩ | exact Fit_enI | exact Or.inr rfl | exact Or.inl rfl | exact fun x hx => absurd hx (by omega) | exact ⟨Or.inl rfl, fun x hx => absurd hx (by omega)⟩)))); done)) | grind))
      refine condM' rfl trivial (fun hc => ?_) (fun hc => ?_)
      · replace H := cond_f hc H
        refine rg ctNo_ok ?_
        simp only [go_sem, Nat.reduceLeDiff, Nat.reduceLT, Nat.reduceAdd, Nat.reduceMul, Nat.reduceSub, Nat.reduceEqDiff, Nat.reduceBEq, Int.reduceToNat, reduceCtorEq]
        refine ⟨_, (Option.some.inj H).symm, ?_⟩
        refine SubF_of ⟨[some 0], ?_, ?_, by rfl, by rfl⟩
        · simp [CvL, Cv, getM]
        · exact ⟨CvB_dead, trivial⟩
      replace H := cond_t hc H
      refine rg ctNo_ok ?_
      simp only [go_sem, Nat.reduceLeDiff, Nat.reduceLT, Nat.reduceAdd, Nat.reduceMul, Nat.reduceSub, Nat.reduceEqDiff, Nat.reduceBEq, Int.reduceToNat, reduceCtorEq]
      refine seqM ?_
      refine blkM ?_
      refine seqM ?_
      obtain ⟨f1, H⟩ := need_some.1 H
      replace f1 := inb_iff.1 f1
      obtain ⟨r2, e3, H⟩ := Option.bind_eq_some_iff.1 H
      refine rg ct19t0_ok ?_
      simp only [go_sem, Nat.reduceLeDiff, Nat.reduceLT, Nat.reduceAdd, Nat.reduceMul, Nat.reduceSub, Nat.reduceEqDiff, Nat.reduceBEq, Int.reduceToNat, reduceCtorEq, ct19t0_11, body11, f1, e3]
      repeat ((with_reducible refine And.intro ?_ ?_); focus (first | (with_reducible trivial) | omega | (intro x y _ _; (repeat (first | exact nfR_enI | exact nfR_lit (by simp only [nrefL, nref, and_self]) | (refine nfR_app (fun x y => ?_) (fun x y => ?_)) | (refine nfR_ins (fun x y => ?_) (fun x y => ?_)) | (refine nfR_del (fun x y => ?_)) | (refine nfR_upc (fun x y => ?_) (by simp only [nrefL, nref, and_self])) | (refine nfR_ovw (fun x y => ?_) (fun x y => ?_)) | exact nfR_getL (by simp only [nrefL, nref, and_self]))); done) | (intro x hx; (repeat (first | (exfalso; omega) | (rcases x with _ | x; first | (and_intros <;> (first | exact rfl | exact trivial | exact ⟨Or.inr rfl, Fit_enI⟩ | exact Fit_enI | exact Or.inr rfl | exact Or.inl rfl | exact fun x hx => absurd hx (by omega) | exact ⟨Or.inl rfl, fun x hx => absurd hx (by omega)⟩)) | (first | exact rfl | exact trivial | exact ⟨Or.inr rfl, Fit_enI⟩ | exact Fit_enI | exact Or.inr rfl | exact Or.inl rfl | exact fun x hx => absurd hx (by omega) | exact ⟨Or.inl rfl, fun x hx => absurd hx (by omega)⟩)))); done) | (and_intros <;> first | (with_reducible trivial) | omega | assumption | (intro x y _ _; (repeat (first | exact nfR_enI | exact nfR_lit (by simp only [nrefL, nref, and_self]) | (refine nfR_app (fun x y => ?_) (fun x y => ?_)) | (refine nfR_ins (fun x y => ?_) (fun x y => ?_)) | (refine nfR_del (fun x y => ?_)) | (refine nfR_upc (fun x y => ?_) (by simp only [nrefL, nref, and_self])) | (refine nfR_ovw (fun x y => ?_) (fun x y => ?_)) | exact nfR_getL (by simp only [nrefL, nref, and_self]))); done) | (intro x hx; (repeat (first | (exfalso; omega) | (rcases x with _ | x; first | (and_intros <;> (first | exact rfl | exact trivial | exact ⟨Or.inr rfl, Fit_enI⟩ | exact Fit_enI | exact Or.inr rfl | exact Or.inl rfl | exact fun x hx => absurd hx (by omega) | exact ⟨Or.inl rfl, fun x hx => absurd hx (by omega)⟩)) | (first | exact rfl | exact trivial | exact ⟨Or.inr rfl, Fit_enI⟩ | exact Fit_enI | exact Or.inr rfl | exact Or.inl rfl | exact fun x hx => absurd hx (by omega) | exact ⟨Or.inl rfl, fun x hx => absurd hx (by omega)⟩)))); done)) | grind))
      refine condM rfl trivial (fun hc => ?_) (fun hc => ?_)
      · replace H := cond_t hc H
        refine sq ctNo_ok ?_
        simp only [go_sem, Nat.reduceLeDiff, Nat.reduceLT, Nat.reduceAdd, Nat.reduceMul, Nat.reduceSub, Nat.reduceEqDiff, Nat.reduceBEq, Int.reduceToNat, reduceCtorEq]
        refine rg ctNo_ok ?_
        simp only [go_sem, Nat.reduceLeDiff, Nat.reduceLT, Nat.reduceAdd, Nat.reduceMul, Nat.reduceSub, Nat.reduceEqDiff, Nat.reduceBEq, Int.reduceToNat, reduceCtorEq]
        have H := hn2_1 _ (Option.some.inj H).symm
        obtain rfl := Option.some.inj H
        first | rfl | simp only [Bool.and_false, Bool.false_and, Bool.and_true, Bool.true_and]
      replace H := cond_f hc H
      refine rg ctNo_ok ?_
      simp only [go_sem, Nat.reduceLeDiff, Nat.reduceLT, Nat.reduceAdd, Nat.reduceMul, Nat.reduceSub, Nat.reduceEqDiff, Nat.reduceBEq, Int.reduceToNat, reduceCtorEq]
      refine rg ctNo_ok ?_
      simp only [go_sem, Nat.reduceLeDiff, Nat.reduceLT, Nat.reduceAdd, Nat.reduceMul, Nat.reduceSub, Nat.reduceEqDiff, Nat.reduceBEq, Int.reduceToNat, reduceCtorEq]
      refine ⟨_, (Option.some.inj H).symm, ?_⟩
      refine SubF_of ⟨[some 0], ?_, ?_, by rfl, by rfl⟩
      · simp [CvL, Cv, getM]
      · exact ⟨(by simp [CvB, CvL, Cv, blkAt, geth, getM]), trivial⟩
    · try dsimp only at H ⊢
      try simp only [m_normal, k_normal, b_normal, kL_normal, r_normal]
      refine sq ctNo_ok ?_
      simp only [go_sem, Nat.reduceLeDiff, Nat.reduceLT, Nat.reduceAdd, Nat.reduceMul, Nat.reduceSub, Nat.reduceEqDiff, Nat.reduceBEq, Int.reduceToNat, reduceCtorEq]
      refine rg ctNo_ok ?_
      simp only [go_sem, Nat.reduceLeDiff, Nat.reduceLT, Nat.reduceAdd, Nat.reduceMul, Nat.reduceSub, Nat.reduceEqDiff, Nat.reduceBEq, Int.reduceToNat, reduceCtorEq]
      obtain rfl := Option.some.inj H
      first | rfl | simp only [Bool.and_false, Bool.false_and, Bool.and_true, Bool.true_and]
  · cases hb
/-! hotspot/wake.CheckRule -/
noncomputable def F17 (p0 : TWakeRule) : Option (Int) :=
  bif ((((!((((bLe 0 p0.Id) && (bLe p0.Id 255)) && (bLe 0 p0.Group)) && (bLe p0.Group 255))) || (!(((((bLe 0 p0.Every) && (bLe p0.Every 4294967296)) && (bLe 1 p0.Length)) && (bLe p0.Length 4294967296)) && ((bEq p0.Every 0) || (bLe p0.Length p0.Every))))) || (bLt p0.Start 0)) || (bLt 1099511627776 p0.Start)) then (some 8) else (some 0)
noncomputable def body17 : List AV → AR
  | [v0] => .pure (aK 5 k_TWakeRule v0 ∧ (F17 (g_TWakeRule (aL v0))).isSome = true) (.int .i64 (gt (F17 (g_TWakeRule (aL v0)))))
  | _ => .fail
set_option maxHeartbeats 4000000 in
set_option maxRecDepth 20000 in
theorem ok17 : FnOk Try.prog 17 (pureC body17) := by
  refine pure_fnM body17 (rs := [.tmp 2]) Try.func17 (by kernel_rfl) rfl rfl ?_
  intro l ob v hb hob
  unfold body17 at hb
  split at hb
  · rename_i v0
    injection hb with q1 q2; subst q1 q2
    obtain ⟨hk0, hob⟩ := hob
    obtain ⟨r, H⟩ := Option.isSome_iff_exists.1 hob
    rw [H, gt_some]
    have hw0 := wA_TWakeRule hk0
    generalize g_TWakeRule (aL v0) = p0 at H hw0
    refine ⟨[.agg [.int .i64 p0.Id, .int .i64 p0.Start, .int .i64 p0.Every, .int .i64 p0.Length, .int .i64 p0.Group]], _, (fun E vs F => FR_wk1 hw0.1 F (fun vs F => F)), rfl, rfl, ?_⟩
    rw [Try.ntmps17]
    simp only [List.length_cons, List.length_nil, Nat.reduceAdd, Nat.reduceSub, List.replicate_succ, List.replicate_zero, List.cons_append, List.nil_append]
    unfold F17 at H
    try dsimp only at H
    refine sq ctNo_ok ?_
    simp only [go_sem, Nat.reduceLeDiff, Nat.reduceLT, Nat.reduceAdd, Nat.reduceMul, Nat.reduceSub, Nat.reduceEqDiff, Nat.reduceBEq, Int.reduceToNat, reduceCtorEq]
    refine sq ctNo_ok ?_
    simp only [go_sem, Nat.reduceLeDiff, Nat.reduceLT, Nat.reduceAdd, Nat.reduceMul, Nat.reduceSub, Nat.reduceEqDiff, Nat.reduceBEq, Int.reduceToNat, reduceCtorEq]
    repeat ((with_reducible refine And.intro ?_ ?_); focus (first | (with_reducible trivial) | omega | grind))
    refine sq ctNo_ok ?_
    simp only [go_sem, Nat.reduceLeDiff, Nat.reduceLT, Nat.reduceAdd, Nat.reduceMul, Nat.reduceSub, Nat.reduceEqDiff, Nat.reduceBEq, Int.reduceToNat, reduceCtorEq]
    repeat ((with_reducible refine And.intro ?_ ?_); focus (first | (with_reducible trivial) | omega | grind))
    refine seqM ?_
    refine sq ctNo_ok ?_
    simp only [go_sem, Nat.reduceLeDiff, Nat.reduceLT, Nat.reduceAdd, Nat.reduceMul, Nat.reduceSub, Nat.reduceEqDiff, Nat.reduceBEq, Int.reduceToNat, reduceCtorEq]
    repeat ((with_reducible refine And.intro ?_ ?_); focus (first | (with_reducible trivial) | omega | grind))
    refine condM rfl trivial (fun hc => ?_) (fun hc => ?_)
    · replace H := cond_t hc H
      refine sq ctNo_ok ?_
      simp only [go_sem, Nat.reduceLeDiff, Nat.reduceLT, Nat.reduceAdd, Nat.reduceMul, Nat.reduceSub, Nat.reduceEqDiff, Nat.reduceBEq, Int.reduceToNat, reduceCtorEq]
      refine rg ctNo_ok ?_
      simp only [go_sem, Nat.reduceLeDiff, Nat.reduceLT, Nat.reduceAdd, Nat.reduceMul, Nat.reduceSub, Nat.reduceEqDiff, Nat.reduceBEq, Int.reduceToNat, reduceCtorEq]
      obtain rfl := Option.some.inj H
      first | rfl | simp only [Bool.and_false, Bool.false_and, Bool.and_true, Bool.true_and]
    replace H := cond_f hc H
    refine rg ctNo_ok ?_
    simp only [go_sem, Nat.reduceLeDiff, Nat.reduceLT, Nat.reduceAdd, Nat.reduceMul, Nat.reduceSub, Nat.reduceEqDiff, Nat.reduceBEq, Int.reduceToNat, reduceCtorEq]
    refine sq ctNo_ok ?_
    simp only [go_sem, Nat.reduceLeDiff, Nat.reduceLT, Nat.reduceAdd, Nat.reduceMul, Nat.reduceSub, Nat.reduceEqDiff, Nat.reduceBEq, Int.reduceToNat, reduceCtorEq]
    refine rg ctNo_ok ?_
    simp only [go_sem, Nat.reduceLeDiff, Nat.reduceLT, Nat.reduceAdd, Nat.reduceMul, Nat.reduceSub, Nat.reduceEqDiff, Nat.reduceBEq, Int.reduceToNat, reduceCtorEq]
    obtain rfl := Option.some.inj H
    first | rfl | simp only [Bool.and_false, Bool.false_and, Bool.and_true, Bool.true_and]
  · cases hb
/-! hotspot/wake.Check -/
noncomputable def ct32t0 : Ct := tab [(17, pureC body17)]
theorem ct32t0_ok : CtOk Try.prog ct32t0 := tab_cons ok17 <| tab_nil
theorem ct32t0_17 (l : List AV) (h : List ABlk) : ct32t0 17 l h = pureC body17 l h := rfl
noncomputable def F32_L1 (p0 : TWakeTable) (v1_1 : Int) : Option (Lp (Int) ((Unit) ⊕ (Int))) :=
  bif (bLt v1_1 (p0.List.length : Nat)) then (need (inb v1_1 p0.List.length) <| (F17 (gd p0.List v1_1.toNat)).bind fun r2 => need (bif ((!(!bEq r2 0)) && (bLt 0 v1_1)) then inb (wr .i64 (v1_1 - 1)) p0.List.length else true) <| bif ((!bEq r2 0) || ((bLt 0 v1_1) && (bLe ((gd p0.List v1_1.toNat).Id) ((gd p0.List ((wr .i64 (v1_1 - 1)).toNat)).Id)))) then (some (.done (.inr 8))) else (some (.next (wr .i64 (v1_1 + 1))))) else (some (.done (.inl ())))
noncomputable def F32 (p0 : TWakeTable) : Option (Int) :=
  bif (bLt 32 (p0.List.length : Nat)) then (some 8) else (lp (loopD (fun s => F32_L1 p0 s) 0) (fun e => some 0) some)
noncomputable def body32 : List AV → AR
  | [v0] => .pure (aK 1 k_TWakeTable v0 ∧ (F32 (g_TWakeTable (aL v0))).isSome = true) (.int .i64 (gt (F32 (g_TWakeTable (aL v0)))))
  | _ => .fail
set_option maxHeartbeats 4000000 in
set_option maxRecDepth 20000 in
theorem ok32 : FnOk Try.prog 32 (pureC body32) := by
  refine pure_fnM body32 (rs := [.tmp 2]) Try.func32 (by kernel_rfl) rfl rfl ?_
  intro l ob v hb hob
  unfold body32 at hb
  split at hb
  · rename_i v0
    injection hb with q1 q2; subst q1 q2
    obtain ⟨hk0, hob⟩ := hob
    obtain ⟨r, H⟩ := Option.isSome_iff_exists.1 hob
    rw [H, gt_some]
    have hw0 := wA_TWakeTable hk0
    generalize g_TWakeTable (aL v0) = p0 at H hw0
    refine ⟨[.agg [.ro 5 p0.List.length false (enR c_TWakeRule p0.List)]], _, (fun E vs F => FR_wk1 hw0.1 F (fun vs F => F)), rfl, rfl, ?_⟩
    rw [Try.ntmps32]
    simp only [List.length_cons, List.length_nil, Nat.reduceAdd, Nat.reduceSub, List.replicate_succ, List.replicate_zero, List.cons_append, List.nil_append]
    unfold F32 at H
    try dsimp only at H
    refine sq ctNo_ok ?_
    simp only [go_sem, Nat.reduceLeDiff, Nat.reduceLT, Nat.reduceAdd, Nat.reduceMul, Nat.reduceSub, Nat.reduceEqDiff, Nat.reduceBEq, Int.reduceToNat, reduceCtorEq]
    refine seqM ?_
    refine sq ctNo_ok ?_
    simp only [go_sem, Nat.reduceLeDiff, Nat.reduceLT, Nat.reduceAdd, Nat.reduceMul, Nat.reduceSub, Nat.reduceEqDiff, Nat.reduceBEq, Int.reduceToNat, reduceCtorEq]
    repeat ((with_reducible refine And.intro ?_ ?_); focus (first | (with_reducible trivial) | omega | (intro x y _ _; (repeat (first | exact nfR_enI | exact nfR_lit (by simp only [nrefL, nref, and_self]) | (refine nfR_app (fun x y => ?_) (fun x y => ?_)) | (refine nfR_ins (fun x y => ?_) (fun x y => ?_)) | (refine nfR_del (fun x y => ?_)) | (refine nfR_upc (fun x y => ?_) (by simp only [nrefL, nref, and_self])) | (refine nfR_ovw (fun x y => ?_) (fun x y => ?_)) | exact nfR_getL (by simp only [nrefL, nref, and_self]))); done) | (intro x hx; (repeat (first | (exfalso; omega) | (rcases x with _ | x; first | (and_intros <;> (first | exact rfl | exact trivial | exact ⟨Or.inr rfl, Fit_enI⟩ | exact Fit_enI | exact Or.inr rfl | exact Or.inl rfl | exact fun x hx => absurd hx (by omega) | exact ⟨Or.inl rfl, fun x hx => absurd hx (by omega)⟩)) | (first | exact rfl | exact trivial | exact ⟨Or.inr rfl, Fit_enI⟩ | exact Fit_enI | exact Or.inr rfl | exact Or.inl rfl | exact fun x hx => absurd hx (by omega) | exact ⟨Or.inl rfl, fun x hx => absurd hx (by omega)⟩)))); done) | (and_intros <;> first | (with_reducible trivial) | omega | assumption | (intro x y _ _; (repeat (first | exact nfR_enI | exact nfR_lit (by simp only [nrefL, nref, and_self]) | (refine nfR_app (fun x y => ?_) (fun x y => ?_)) | (refine nfR_ins (fun x y => ?_) (fun x y => ?_)) | (refine nfR_del (fun x y => ?_)) | (refine nfR_upc (fun x y => ?_) (by simp only [nrefL, nref, and_self])) | (refine nfR_ovw (fun x y => ?_) (fun x y => ?_)) | exact nfR_getL (by simp only [nrefL, nref, and_self]))); done) | (intro x hx; (repeat (first | (exfalso; omega) | (rcases x with _ | x; first | (and_intros <;> (first | exact rfl | exact trivial | exact ⟨Or.inr rfl, Fit_enI⟩ | exact Fit_enI | exact Or.inr rfl | exact Or.inl rfl | exact fun x hx => absurd hx (by omega) | exact ⟨Or.inl rfl, fun x hx => absurd hx (by omega)⟩)) | (first | exact rfl | exact trivial | exact ⟨Or.inr rfl, Fit_enI⟩ | exact Fit_enI | exact Or.inr rfl | exact Or.inl rfl | exact fun x hx => absurd hx (by omega) | exact ⟨Or.inl rfl, fun x hx => absurd hx (by omega)⟩)))); done)) | grind))
    refine condM rfl trivial (fun hc => ?_) (fun hc => ?_)
    · replace H := cond_t hc H
      refine sq ctNo_ok ?_
      simp only [go_sem, Nat.reduceLeDiff, Nat.reduceLT, Nat.reduceAdd, Nat.reduceMul, Nat.reduceSub, Nat.reduceEqDiff, Nat.reduceBEq, Int.reduceToNat, reduceCtorEq]
      refine rg ctNo_ok ?_
      simp only [go_sem, Nat.reduceLeDiff, Nat.reduceLT, Nat.reduceAdd, Nat.reduceMul, Nat.reduceSub, Nat.reduceEqDiff, Nat.reduceBEq, Int.reduceToNat, reduceCtorEq]
      obtain rfl := Option.some.inj H
      first | rfl | simp only [Bool.and_false, Bool.false_and, Bool.and_true, Bool.true_and]
    replace H := cond_f hc H
    refine rg ctNo_ok ?_
    simp only [go_sem, Nat.reduceLeDiff, Nat.reduceLT, Nat.reduceAdd, Nat.reduceMul, Nat.reduceSub, Nat.reduceEqDiff, Nat.reduceBEq, Int.reduceToNat, reduceCtorEq]
    refine seqM ?_
    refine sq ctNo_ok ?_
    simp only [go_sem, Nat.reduceLeDiff, Nat.reduceLT, Nat.reduceAdd, Nat.reduceMul, Nat.reduceSub, Nat.reduceEqDiff, Nat.reduceBEq, Int.reduceToNat, reduceCtorEq]
    repeat ((with_reducible refine And.intro ?_ ?_); focus (first | (with_reducible trivial) | omega | (intro x y _ _; (repeat (first | exact nfR_enI | exact nfR_lit (by simp only [nrefL, nref, and_self]) | (refine nfR_app (fun x y => ?_) (fun x y => ?_)) | (refine nfR_ins (fun x y => ?_) (fun x y => ?_)) | (refine nfR_del (fun x y => ?_)) | (refine nfR_upc (fun x y => ?_) (by simp only [nrefL, nref, and_self])) | (refine nfR_ovw (fun x y => ?_) (fun x y => ?_)) | exact nfR_getL (by simp only [nrefL, nref, and_self]))); done) | (intro x hx; (repeat (first | (exfalso; omega) | (rcases x with _ | x; first | (and_intros <;> (first | exact rfl | exact trivial | exact ⟨Or.inr rfl, Fit_enI⟩ | exact Fit_enI | exact Or.inr rfl | exact Or.inl rfl | exact fun x hx => absurd hx (by omega) | exact ⟨Or.inl rfl, fun x hx => absurd hx (by omega)⟩)) | (first | exact rfl | exact trivial | exact ⟨Or.inr rfl, Fit_enI⟩ | exact Fit_enI | exact Or.inr rfl | exact Or.inl rfl | exact fun x hx => absurd hx (by omega) | exact ⟨Or.inl rfl, fun x hx => absurd hx (by omega)⟩)))); done) | (and_intros <;> first | (with_reducible trivial) | omega | assumption | (intro x y _ _; (repeat (first | exact nfR_enI | exact nfR_lit (by simp only [nrefL, nref, and_self]) | (refine nfR_app (fun x y => ?_) (fun x y => ?_)) | (refine nfR_ins (fun x y => ?_) (fun x y => ?_)) | (refine nfR_del (fun x y => ?_)) | (refine nfR_upc (fun x y => ?_) (by simp only [nrefL, nref, and_self])) | (refine nfR_ovw (fun x y => ?_) (fun x y => ?_)) | exact nfR_getL (by simp only [nrefL, nref, and_self]))); done) | (intro x hx; (repeat (first | (exfalso; omega) | (rcases x with _ | x; first | (and_intros <;> (first | exact rfl | exact trivial | exact ⟨Or.inr rfl, Fit_enI⟩ | exact Fit_enI | exact Or.inr rfl | exact Or.inl rfl | exact fun x hx => absurd hx (by omega) | exact ⟨Or.inl rfl, fun x hx => absurd hx (by omega)⟩)) | (first | exact rfl | exact trivial | exact ⟨Or.inr rfl, Fit_enI⟩ | exact Fit_enI | exact Or.inr rfl | exact Or.inl rfl | exact fun x hx => absurd hx (by omega) | exact ⟨Or.inl rfl, fun x hx => absurd hx (by omega)⟩)))); done)) | grind))
    refine blkM ?_
    refine loop_den (fun s : Int => (.top :: .ptr 0 0 0 0 :: .top :: .top :: .top :: .top :: .top :: .top :: .top :: .top :: .ro 5 p0.List.length false (enR c_TWakeRule p0.List) :: .int .i64 (p0.List.length : Nat) :: .int .i64 s :: .top :: .top :: .top :: .top :: .top :: .top :: .top :: .top :: .top :: .top :: .top :: .top :: .top :: .top :: .top :: .top :: .top :: .top :: .top :: .top :: .top :: .top :: .top :: .top :: [])) (fun s => [.lit 37 [.ro 5 p0.List.length false (enR c_TWakeRule p0.List)]]) (fun e : Unit => (.top :: .top :: .top :: .top :: .top :: .top :: .top :: .top :: .top :: .top :: .top :: .top :: .top :: .top :: .top :: .top :: .top :: .top :: .top :: .top :: .top :: .top :: .top :: .top :: .top :: .top :: .top :: .top :: .top :: .top :: .top :: .top :: .top :: .top :: .top :: .top :: .top :: [])) (fun e => [.dead]) H ?_ (fun v1_1 o H hn1_1 hn2_1 => ?_) (fun e H => ?_)
    · refine SubF_of ⟨[some 0], ?_, ?_, by rfl, by rfl⟩
      · simp [CvL, Cv, getM]
      · exact ⟨(by simp [CvB, CvL, Cv, blkAt, geth, getM]), trivial⟩
    · unfold F32_L1 at H
      try dsimp only at H ⊢
      refine sq ctNo_ok ?_
      simp only [go_sem, Nat.reduceLeDiff, Nat.reduceLT, Nat.reduceAdd, Nat.reduceMul, Nat.reduceSub, Nat.reduceEqDiff, Nat.reduceBEq, Int.reduceToNat, reduceCtorEq]
      refine seqM ?_
      refine condM' rfl trivial (fun hc => ?_) (fun hc => ?_)
      · replace H := cond_f hc H
        refine rg ctNo_ok ?_
        simp only [go_sem, Nat.reduceLeDiff, Nat.reduceLT, Nat.reduceAdd, Nat.reduceMul, Nat.reduceSub, Nat.reduceEqDiff, Nat.reduceBEq, Int.reduceToNat, reduceCtorEq]
        refine ⟨_, (Option.some.inj H).symm, ?_⟩
        refine SubF_of ⟨[some 0], ?_, ?_, by rfl, by rfl⟩
        · simp [CvL, Cv, getM]
        · exact ⟨CvB_dead, trivial⟩
      replace H := cond_t hc H
      refine rg ctNo_ok ?_
      simp only [go_sem, Nat.reduceLeDiff, Nat.reduceLT, Nat.reduceAdd, Nat.reduceMul, Nat.reduceSub, Nat.reduceEqDiff, Nat.reduceBEq, Int.reduceToNat, reduceCtorEq]
      refine seqM ?_
      refine blkM ?_
      refine seqM ?_
      obtain ⟨f1, H⟩ := need_some.1 H
      replace f1 := inb_iff.1 f1
      refine rg ctNo_ok ?_
      simp only [go_sem, Nat.reduceLeDiff, Nat.reduceLT, Nat.reduceAdd, Nat.reduceMul, Nat.reduceSub, Nat.reduceEqDiff, Nat.reduceBEq, Int.reduceToNat, reduceCtorEq, f1]
      repeat ((with_reducible refine And.intro ?_ ?_); focus (first | (with_reducible trivial) | omega | grind))
      refine seqM ?_
      obtain ⟨r2, e3, H⟩ := Option.bind_eq_some_iff.1 H
      obtain ⟨f4, H⟩ := need_some.1 H
      replace f4 := g_iff.1 f4
      replace f4 := fun g => inb_iff.1 (f4 g)
      refine draw_quiet shT_ok ct32t0_ok (by kernel_rfl) (by kernel_rfl) ?_
      simp only [go_sem, Nat.reduceLeDiff, Nat.reduceLT, Nat.reduceAdd, Nat.reduceMul, Nat.reduceSub, Nat.reduceEqDiff, Nat.reduceBEq, Int.reduceToNat, reduceCtorEq, ct32t0_17, body17, e3]
      repeat ((with_reducible refine And.intro ?_ ?_); focus (first | (with_reducible trivial) | omega | exact f4 | (intro g; have q := f4 (by first | exact g | simpa using g); first | exact q | exact ⟨q.1, q.2.1⟩ | exact q.2.2 | omega | exact ⟨g, q⟩ | exact ⟨trivial, q⟩) | (intro x y _ _; (repeat (first | exact nfR_enI | exact nfR_lit (by simp only [nrefL, nref, and_self]) | (refine nfR_app (fun x y => ?_) (fun x y => ?_)) | (refine nfR_ins (fun x y => ?_) (fun x y => ?_)) | (refine nfR_del (fun x y => ?_)) | (refine nfR_upc (fun x y => ?_) (by simp only [nrefL, nref, and_self])) | (refine nfR_ovw (fun x y => ?_) (fun x y => ?_)) | exact nfR_getL (by simp only [nrefL, nref, and_self]))); done) | (intro x hx; (repeat (first | (exfalso; omega) | (rcases x with _ | x; first | (and_intros <;> (first | exact rfl | exact trivial | exact ⟨Or.inr rfl, Fit_enI⟩ | exact Fit_enI | exact Or.inr rfl | exact Or.inl rfl | exact fun x hx => absurd hx (by omega) | exact ⟨Or.inl rfl, fun x hx => absurd hx (by omega)⟩)) | (first | exact rfl | exact trivial | exact ⟨Or.inr rfl, Fit_enI⟩ | exact Fit_enI | exact Or.inr rfl | exact Or.inl rfl | exact fun x hx => absurd hx (by omega) | exact ⟨Or.inl rfl, fun x hx => absurd hx (by omega)⟩)))); done) | (and_intros <;> first | (with_reducible trivial) | omega | assumption | (intro x y _ _; (repeat (first | exact nfR_enI | exact nfR_lit (by simp only [nrefL, nref, and_self]) | (refine nfR_app (fun x y => ?_) (fun x y => ?_)) | (refine nfR_ins (fun x y => ?_) (fun x y => ?_)) | (refine nfR_del (fun x y => ?_)) | (refine nfR_upc (fun x y => ?_) (by simp only [nrefL, nref, and_self])) | (refine nfR_ovw (fun x y => ?_) (fun x y => ?_)) | exact nfR_getL (by simp only [nrefL, nref, and_self]))); done) | (intro x hx; (repeat (first | (exfalso; omega) | (rcases x with _ | x; first | (and_intros <;> (first | exact rfl | exact trivial | exact ⟨Or.inr rfl, Fit_enI⟩ | exact Fit_enI | exact Or.inr rfl | exact Or.inl rfl | exact fun x hx => absurd hx (by omega) | exact ⟨Or.inl rfl, fun x hx => absurd hx (by omega)⟩)) | (first | exact rfl | exact trivial | exact ⟨Or.inr rfl, Fit_enI⟩ | exact Fit_enI | exact Or.inr rfl | exact Or.inl rfl | exact fun x hx => absurd hx (by omega) | exact ⟨Or.inl rfl, fun x hx => absurd hx (by omega)⟩)))); done)) | (intro g; and_intros <;> first | (with_reducible trivial) | assumption | exact f4 g | (intro x y _ _; (repeat (first | exact nfR_enI | exact nfR_lit (by simp only [nrefL, nref, and_self]) | (refine nfR_app (fun x y => ?_) (fun x y => ?_)) | (refine nfR_ins (fun x y => ?_) (fun x y => ?_)) | (refine nfR_del (fun x y => ?_)) | (refine nfR_upc (fun x y => ?_) (by simp only [nrefL, nref, and_self])) | (refine nfR_ovw (fun x y => ?_) (fun x y => ?_)) | exact nfR_getL (by simp only [nrefL, nref, and_self]))); done) | (intro x hx; (repeat (first | (exfalso; omega) | (rcases x with _ | x; first | (and_intros <;> (first | exact rfl | exact trivial | exact ⟨Or.inr rfl, Fit_enI⟩ | exact Fit_enI | exact Or.inr rfl | exact Or.inl rfl | exact fun x hx => absurd hx (by omega) | exact ⟨Or.inl rfl, fun x hx => absurd hx (by omega)⟩)) | (first | exact rfl | exact trivial | exact ⟨Or.inr rfl, Fit_enI⟩ | exact Fit_enI | exact Or.inr rfl | exact Or.inl rfl | exact fun x hx => absurd hx (by omega) | exact ⟨Or.inl rfl, fun x hx => absurd hx (by omega)⟩)))); done) | (and_intros <;> first | (with_reducible trivial) | omega | assumption | (intro x y _ _; (repeat (first | exact nfR_enI | exact nfR_lit (by simp only [nrefL, nref, and_self]) | (refine nfR_app (fun x y => ?_) (fun x y => ?_)) | (refine nfR_ins (fun x y => ?_) (fun x y => ?_)) | (refine nfR_del (fun x y => ?_)) | (refine nfR_upc (fun x y => ?_) (by simp only [nrefL, nref, and_self])) | (refine nfR_ovw (fun x y => ?_) (fun x y => ?_)) | exact nfR_getL (by simp only [nrefL, nref, and_self]))); done) | (intro x hx; (repeat (first | (exfalso; omega) | (rcases x with _ | x; first | (and_intros <;> (first | exact rfl | exact trivial | exact ⟨Or.inr rfl, Fit_enI⟩ | exact Fit_enI | exact Or.inr rfl | exact Or.inl rfl | exact fun x hx => absurd hx (by omega) | exact ⟨Or.inl rfl, fun x hx => absurd hx (by omega)⟩)) | (first | exact rfl | exact trivial | exact ⟨Or.inr rfl, Fit_enI⟩ | exact Fit_enI | exact Or.inr rfl | exact Or.inl rfl | exact fun x hx => absurd hx (by omega) | exact ⟨Or.inl rfl, fun x hx => absurd hx (by omega)⟩)))); done))) | grind))
      refine condM rfl trivial (fun hc => ?_) (fun hc => ?_)
      · replace H := cond_t hc H
        refine sq ctNo_ok ?_
        simp only [go_sem, Nat.reduceLeDiff, Nat.reduceLT, Nat.reduceAdd, Nat.reduceMul, Nat.reduceSub, Nat.reduceEqDiff, Nat.reduceBEq, Int.reduceToNat, reduceCtorEq]
        refine rg ctNo_ok ?_
        simp only [go_sem, Nat.reduceLeDiff, Nat.reduceLT, Nat.reduceAdd, Nat.reduceMul, Nat.reduceSub, Nat.reduceEqDiff, Nat.reduceBEq, Int.reduceToNat, reduceCtorEq]
        have H := hn2_1 _ (Option.some.inj H).symm
        obtain rfl := Option.some.inj H
        first | rfl | simp only [Bool.and_false, Bool.false_and, Bool.and_true, Bool.true_and]
      replace H := cond_f hc H
      refine rg ctNo_ok ?_
      simp only [go_sem, Nat.reduceLeDiff, Nat.reduceLT, Nat.reduceAdd, Nat.reduceMul, Nat.reduceSub, Nat.reduceEqDiff, Nat.reduceBEq, Int.reduceToNat, reduceCtorEq]
      refine rg ctNo_ok ?_
      simp only [go_sem, Nat.reduceLeDiff, Nat.reduceLT, Nat.reduceAdd, Nat.reduceMul, Nat.reduceSub, Nat.reduceEqDiff, Nat.reduceBEq, Int.reduceToNat, reduceCtorEq]
      refine ⟨_, (Option.some.inj H).symm, ?_⟩
      refine SubF_of ⟨[some 0], ?_, ?_, by rfl, by rfl⟩
      · simp [CvL, Cv, getM]
      · exact ⟨(by simp [CvB, CvL, Cv, blkAt, geth, getM]), trivial⟩
    · try dsimp only at H ⊢
      try simp only [m_normal, k_normal, b_normal, kL_normal, r_normal]
      refine sq ctNo_ok ?_
      simp only [go_sem, Nat.reduceLeDiff, Nat.reduceLT, Nat.reduceAdd, Nat.reduceMul, Nat.reduceSub, Nat.reduceEqDiff, Nat.reduceBEq, Int.reduceToNat, reduceCtorEq]
      refine rg ctNo_ok ?_
      simp only [go_sem, Nat.reduceLeDiff, Nat.reduceLT, Nat.reduceAdd, Nat.reduceMul, Nat.reduceSub, Nat.reduceEqDiff, Nat.reduceBEq, Int.reduceToNat, reduceCtorEq]
      obtain rfl := Option.some.inj H
      first | rfl | simp only [Bool.and_false, Bool.false_and, Bool.and_true, Bool.true_and]
  · cases hb
/-! hotspot/wake.find$1 -/
noncomputable def F49 (p0 : TWakeRule) (p1 : Int) : Option (Int) :=
  some (wr .i64 (p0.Id - p1))
noncomputable def body49 : List AV → AR
  | [v0, v1] => .pure (aK 5 k_TWakeRule v0 ∧ iK .i64 v1 ∧ (F49 (g_TWakeRule (aL v0)) (iA v1)).isSome = true) (.int .i64 (gt (F49 (g_TWakeRule (aL v0)) (iA v1))))
  | _ => .fail
set_option maxHeartbeats 4000000 in
set_option maxRecDepth 20000 in
theorem ok49 : FnOk Try.prog 49 (pureC body49) := by
  refine pure_fnM body49 (rs := [.tmp 4]) Try.func49 (by kernel_rfl) rfl rfl ?_
  intro l ob v hb hob
  unfold body49 at hb
  split at hb
  · rename_i v0 v1
    injection hb with q1 q2; subst q1 q2
    obtain ⟨hk0, hk1, hob⟩ := hob
    obtain ⟨r, H⟩ := Option.isSome_iff_exists.1 hob
    rw [H, gt_some]
    have hw0 := wA_TWakeRule hk0
    have hw1 := iK_wk hk1
    generalize g_TWakeRule (aL v0) = p0 at H hw0
    generalize iA v1 = p1 at H hw1
    refine ⟨[.agg [.int .i64 p0.Id, .int .i64 p0.Start, .int .i64 p0.Every, .int .i64 p0.Length, .int .i64 p0.Group], .int .i64 p1], _, (fun E vs F => FR_wk1 hw0.1 F (fun vs F => FR_wk1 hw1.1 F (fun vs F => F))), rfl, rfl, ?_⟩
    rw [Try.ntmps49]
    simp only [List.length_cons, List.length_nil, Nat.reduceAdd, Nat.reduceSub, List.replicate_succ, List.replicate_zero, List.cons_append, List.nil_append]
    unfold F49 at H
    try dsimp only at H
    refine sq ctNo_ok ?_
    simp only [go_sem, Nat.reduceLeDiff, Nat.reduceLT, Nat.reduceAdd, Nat.reduceMul, Nat.reduceSub, Nat.reduceEqDiff, Nat.reduceBEq, Int.reduceToNat, reduceCtorEq]
    refine sq ctNo_ok ?_
    simp only [go_sem, Nat.reduceLeDiff, Nat.reduceLT, Nat.reduceAdd, Nat.reduceMul, Nat.reduceSub, Nat.reduceEqDiff, Nat.reduceBEq, Int.reduceToNat, reduceCtorEq]
    refine rg ctNo_ok ?_
    simp only [go_sem, Nat.reduceLeDiff, Nat.reduceLT, Nat.reduceAdd, Nat.reduceMul, Nat.reduceSub, Nat.reduceEqDiff, Nat.reduceBEq, Int.reduceToNat, reduceCtorEq]
    obtain rfl := Option.some.inj H
    first | rfl | simp only [Bool.and_false, Bool.false_and, Bool.and_true, Bool.true_and]
  · cases hb
/-! slices.BinarySearchFunc[[]hotspot/api.WakeRule,hotspot/api.WakeRule,int] -/
noncomputable def ct48_0t0 : Ct := tab [(49, pureC body49)]
theorem ct48_0t0_ok : CtOk Try.prog ct48_0t0 := tab_cons ok49 <| tab_nil
theorem ct48_0t0_49 (l : List AV) (h : List ABlk) : ct48_0t0 49 l h = pureC body49 l h := rfl
noncomputable def F48_0_L1 (p0 : List TWakeRule) (p1 : Int) (v1_1 : Int) (v1_2 : Int) : Option (Lp (Int × Int) ((Int) ⊕ (Int × Bool))) :=
  bif (bLt v1_1 v1_2) then (need (inb (wr .i64 (shrI .u64 (wr .u64 (wr .i64 (v1_1 + v1_2))) 1)) p0.length) <| (F49 (gd p0 ((wr .i64 (shrI .u64 (wr .u64 (wr .i64 (v1_1 + v1_2))) 1)).toNat)) p1).bind fun r2 => bif (bLt r2 0) then (some (.next (wr .i64 ((wr .i64 (shrI .u64 (wr .u64 (wr .i64 (v1_1 + v1_2))) 1)) + 1), v1_2))) else (some (.next (v1_1, wr .i64 (shrI .u64 (wr .u64 (wr .i64 (v1_1 + v1_2))) 1))))) else (some (.done (.inl v1_1)))
noncomputable def F48_0 (p0 : List TWakeRule) (p1 : Int) : Option (Int × Bool) :=
  lp (loopD (fun s => F48_0_L1 p0 p1 s.1 s.2) (0, (p0.length : Nat))) (fun w1_3 => need (bif (bLt w1_3 (p0.length : Nat)) then inb w1_3 p0.length else true) <| need (bif (bLt w1_3 (p0.length : Nat)) then ((F49 (gd p0 w1_3.toNat) p1).isSome) else true) <| some (w1_3, ((bLt w1_3 (p0.length : Nat)) && (bEq (gt (F49 (gd p0 w1_3.toNat) p1)) 0)))) some
noncomputable def body48_0 : List AV → AR
  | [v0, v1, .fn 49 []] => .pure (lK k_TWakeRule 5 v0 ∧ iK .i64 v1 ∧ (F48_0 (lA g_TWakeRule v0) (iA v1)).isSome = true) (.tup [.int .i64 ((gt (F48_0 (lA g_TWakeRule v0) (iA v1))).1), .bool ((gt (F48_0 (lA g_TWakeRule v0) (iA v1))).2)])
  | _ => .fail
set_option maxHeartbeats 4000000 in
set_option maxRecDepth 20000 in
theorem ok48_0 : FnOk Try.prog 48 (pureC body48_0) := by
  refine pure_fnM body48_0 (rs := [.tmp 6, .tmp 7]) Try.func48 (by kernel_rfl) rfl rfl ?_
  intro l ob v hb hob
  unfold body48_0 at hb
  split at hb
  · rename_i v0 v1
    injection hb with q1 q2; subst q1 q2
    obtain ⟨hk0, hk1, hob⟩ := hob
    obtain ⟨r, H⟩ := Option.isSome_iff_exists.1 hob
    rw [H, gt_some]
    have hw0 := lK_wk (fun r h => w_TWakeRule h) hk0
    have hw1 := iK_wk hk1
    generalize lA g_TWakeRule v0 = p0 at H hw0
    generalize iA v1 = p1 at H hw1
    refine ⟨[.ro 5 p0.length false (enR c_TWakeRule p0), .int .i64 p1, .fn 49 []], _, (fun E vs F => FR_wk1 hw0.1 F (fun vs F => FR_wk1 hw1.1 F (fun vs F => FR_wk1 (fn_wk LW_nil) F (fun vs F => F)))), rfl, rfl, ?_⟩
    rw [Try.ntmps48]
    simp only [List.length_cons, List.length_nil, Nat.reduceAdd, Nat.reduceSub, List.replicate_succ, List.replicate_zero, List.cons_append, List.nil_append]
    unfold F48_0 at H
    try dsimp only at H
    refine sq ctNo_ok ?_
    simp only [go_sem, Nat.reduceLeDiff, Nat.reduceLT, Nat.reduceAdd, Nat.reduceMul, Nat.reduceSub, Nat.reduceEqDiff, Nat.reduceBEq, Int.reduceToNat, reduceCtorEq]
    refine sq ctNo_ok ?_
    simp only [go_sem, Nat.reduceLeDiff, Nat.reduceLT, Nat.reduceAdd, Nat.reduceMul, Nat.reduceSub, Nat.reduceEqDiff, Nat.reduceBEq, Int.reduceToNat, reduceCtorEq]
    repeat ((with_reducible refine And.intro ?_ ?_); focus (first | (with_reducible trivial) | omega | (intro x y _ _; (repeat (first | exact nfR_enI | exact nfR_lit (by simp only [nrefL, nref, and_self]) | (refine nfR_app (fun x y => ?_) (fun x y => ?_)) | (refine nfR_ins (fun x y => ?_) (fun x y => ?_)) | (refine nfR_del (fun x y => ?_)) | (refine nfR_upc (fun x y => ?_) (by simp only [nrefL, nref, and_self])) | (refine nfR_ovw (fun x y => ?_) (fun x y => ?_)) | exact nfR_getL (by simp only [nrefL, nref, and_self]))); done) | (intro x hx; (repeat (first | (exfalso; omega) | (rcases x with _ | x; first | (and_intros <;> (first | exact rfl | exact trivial | exact ⟨Or.inr rfl, Fit_enI⟩ | exact Fit_enI | exact Or.inr rfl | exact Or.inl rfl | exact fun x hx => absurd hx (by omega) | exact ⟨Or.inl rfl, fun x hx => absurd hx (by omega)⟩)) | (first | exact rfl | exact trivial | exact ⟨Or.inr rfl, Fit_enI⟩ | exact Fit_enI | exact Or.inr rfl | exact Or.inl rfl | exact fun x hx => absurd hx (by omega) | exact ⟨Or.inl rfl, fun x hx => absurd hx (by omega)⟩)))); done) | (and_intros <;> first | (with_reducible trivial) | omega | assumption | (intro x y _ _; (repeat (first | exact nfR_enI | exact nfR_lit (by simp only [nrefL, nref, and_self]) | (refine nfR_app (fun x y => ?_) (fun x y => ?_)) | (refine nfR_ins (fun x y => ?_) (fun x y => ?_)) | (refine nfR_del (fun x y => ?_)) | (refine nfR_upc (fun x y => ?_) (by simp only [nrefL, nref, and_self])) | (refine nfR_ovw (fun x y => ?_) (fun x y => ?_)) | exact nfR_getL (by simp only [nrefL, nref, and_self]))); done) | (intro x hx; (repeat (first | (exfalso; omega) | (rcases x with _ | x; first | (and_intros <;> (first | exact rfl | exact trivial | exact ⟨Or.inr rfl, Fit_enI⟩ | exact Fit_enI | exact Or.inr rfl | exact Or.inl rfl | exact fun x hx => absurd hx (by omega) | exact ⟨Or.inl rfl, fun x hx => absurd hx (by omega)⟩)) | (first | exact rfl | exact trivial | exact ⟨Or.inr rfl, Fit_enI⟩ | exact Fit_enI | exact Or.inr rfl | exact Or.inl rfl | exact fun x hx => absurd hx (by omega) | exact ⟨Or.inl rfl, fun x hx => absurd hx (by omega)⟩)))); done)) | grind))
    refine sq ctNo_ok ?_
    simp only [go_sem, Nat.reduceLeDiff, Nat.reduceLT, Nat.reduceAdd, Nat.reduceMul, Nat.reduceSub, Nat.reduceEqDiff, Nat.reduceBEq, Int.reduceToNat, reduceCtorEq]
    refine seqM ?_
    refine blkM ?_
    refine loop_den (fun s : Int × Int => (.ro 5 p0.length false (enR c_TWakeRule p0) :: .int .i64 p1 :: .fn 49 [] :: .top :: .top :: .top :: .top :: .top :: .int .i64 (p0.length : Nat) :: .int .i64 s.1 :: .int .i64 s.2 :: .top :: .top :: .top :: .top :: .top :: .top :: .top :: .top :: .top :: .top :: .top :: .top :: .top :: .top :: .top :: .top :: .top :: .top :: .top :: .top :: .top :: .top :: .top :: .top :: .top :: .top :: .top :: .top :: .top :: .top :: .top :: .top :: .top :: .top :: .top :: .top :: .top :: .top :: [])) (fun s => []) (fun e : Int => (.ro 5 p0.length false (enR c_TWakeRule p0) :: .int .i64 p1 :: .fn 49 [] :: .top :: .top :: .top :: .top :: .top :: .int .i64 (p0.length : Nat) :: .int .i64 e :: .top :: .top :: .top :: .top :: .top :: .top :: .top :: .top :: .top :: .top :: .top :: .top :: .top :: .top :: .top :: .top :: .top :: .top :: .top :: .top :: .top :: .top :: .top :: .top :: .top :: .top :: .top :: .top :: .top :: .top :: .top :: .top :: .top :: .top :: .top :: .top :: .top :: .top :: .top :: [])) (fun e => []) H ?_ (fun s o H hn1_1 hn2_1 => ?_) (fun w1_3 H => ?_)
    · refine SubF_of ⟨[], ?_, ?_, by rfl, by rfl⟩
      · simp [CvL, Cv, getM]
      · trivial
    · obtain ⟨v1_1, v1_2⟩ := s
      unfold F48_0_L1 at H
      try dsimp only at H ⊢
      refine seqM ?_
      refine sq ctNo_ok ?_
      simp only [go_sem, Nat.reduceLeDiff, Nat.reduceLT, Nat.reduceAdd, Nat.reduceMul, Nat.reduceSub, Nat.reduceEqDiff, Nat.reduceBEq, Int.reduceToNat, reduceCtorEq]
      refine condM' rfl trivial (fun hc => ?_) (fun hc => ?_)
      · replace H := cond_f hc H
        refine rg ctNo_ok ?_
        simp only [go_sem, Nat.reduceLeDiff, Nat.reduceLT, Nat.reduceAdd, Nat.reduceMul, Nat.reduceSub, Nat.reduceEqDiff, Nat.reduceBEq, Int.reduceToNat, reduceCtorEq]
        refine ⟨_, (Option.some.inj H).symm, ?_⟩
        refine SubF_of ⟨[], ?_, ?_, by rfl, by rfl⟩
        · simp [CvL, Cv, getM]
        · trivial
      replace H := cond_t hc H
      refine rg ctNo_ok ?_
      simp only [go_sem, Nat.reduceLeDiff, Nat.reduceLT, Nat.reduceAdd, Nat.reduceMul, Nat.reduceSub, Nat.reduceEqDiff, Nat.reduceBEq, Int.reduceToNat, reduceCtorEq]
      refine blkM ?_
      refine sq ctNo_ok ?_
      simp only [go_sem, Nat.reduceLeDiff, Nat.reduceLT, Nat.reduceAdd, Nat.reduceMul, Nat.reduceSub, Nat.reduceEqDiff, Nat.reduceBEq, Int.reduceToNat, reduceCtorEq]
      repeat ((with_reducible refine And.intro ?_ ?_); focus (first | (with_reducible trivial) | omega | grind))
      refine seqM ?_
      obtain ⟨f1, H⟩ := need_some.1 H
      replace f1 := inb_iff.1 f1
      obtain ⟨r2, e3, H⟩ := Option.bind_eq_some_iff.1 H
      refine rg ct48_0t0_ok ?_
      simp only [go_sem, Nat.reduceLeDiff, Nat.reduceLT, Nat.reduceAdd, Nat.reduceMul, Nat.reduceSub, Nat.reduceEqDiff, Nat.reduceBEq, Int.reduceToNat, reduceCtorEq, ct48_0t0_49, body49, f1, e3]
      repeat ((with_reducible refine And.intro ?_ ?_); focus (first | (with_reducible trivial) | omega | (intro x y _ _; (repeat (first | exact nfR_enI | exact nfR_lit (by simp only [nrefL, nref, and_self]) | (refine nfR_app (fun x y => ?_) (fun x y => ?_)) | (refine nfR_ins (fun x y => ?_) (fun x y => ?_)) | (refine nfR_del (fun x y => ?_)) | (refine nfR_upc (fun x y => ?_) (by simp only [nrefL, nref, and_self])) | (refine nfR_ovw (fun x y => ?_) (fun x y => ?_)) | exact nfR_getL (by simp only [nrefL, nref, and_self]))); done) | (intro x hx; (repeat (first | (exfalso; omega) | (rcases x with _ | x; first | (and_intros <;> (first | exact rfl | exact trivial | exact ⟨Or.inr rfl, Fit_enI⟩ | exact Fit_enI | exact Or.inr rfl | exact Or.inl rfl | exact fun x hx => absurd hx (by omega) | exact ⟨Or.inl rfl, fun x hx => absurd hx (by omega)⟩)) | (first | exact rfl | exact trivial | exact ⟨Or.inr rfl, Fit_enI⟩ | exact Fit_enI | exact Or.inr rfl | exact Or.inl rfl | exact fun x hx => absurd hx (by omega) | exact ⟨Or.inl rfl, fun x hx => absurd hx (by omega)⟩)))); done) | (and_intros <;> first | (with_reducible trivial) | omega | assumption | (intro x y _ _; (repeat (first | exact nfR_enI | exact nfR_lit (by simp only [nrefL, nref, and_self]) | (refine nfR_app (fun x y => ?_) (fun x y => ?_)) | (refine nfR_ins (fun x y => ?_) (fun x y => ?_)) | (refine nfR_del (fun x y => ?_)) | (refine nfR_upc (fun x y => ?_) (by simp only [nrefL, nref, and_self])) | (refine nfR_ovw (fun x y => ?_) (fun x y => ?_)) | exact nfR_getL (by simp only [nrefL, nref, and_self]))); done) | (intro x hx; (repeat (first | (exfalso; omega) | (rcases x with _ | x; first | (and_intros <;> (first | exact rfl | exact trivial | exact ⟨Or.inr rfl, Fit_enI⟩ | exact Fit_enI | exact Or.inr rfl | exact Or.inl rfl | exact fun x hx => absurd hx (by omega) | exact ⟨Or.inl rfl, fun x hx => absurd hx (by omega)⟩)) | (first | exact rfl | exact trivial | exact ⟨Or.inr rfl, Fit_enI⟩ | exact Fit_enI | exact Or.inr rfl | exact Or.inl rfl | exact fun x hx => absurd hx (by omega) | exact ⟨Or.inl rfl, fun x hx => absurd hx (by omega)⟩)))); done)) | grind))
      refine condM rfl trivial (fun hc => ?_) (fun hc => ?_)
      · replace H := cond_t hc H
        refine rg ctNo_ok ?_
        simp only [go_sem, Nat.reduceLeDiff, Nat.reduceLT, Nat.reduceAdd, Nat.reduceMul, Nat.reduceSub, Nat.reduceEqDiff, Nat.reduceBEq, Int.reduceToNat, reduceCtorEq]
        refine ⟨_, (Option.some.inj H).symm, ?_⟩
        refine SubF_of ⟨[], ?_, ?_, by rfl, by rfl⟩
        · simp [CvL, Cv, getM]
        · trivial
      replace H := cond_f hc H
      refine rg ctNo_ok ?_
      simp only [go_sem, Nat.reduceLeDiff, Nat.reduceLT, Nat.reduceAdd, Nat.reduceMul, Nat.reduceSub, Nat.reduceEqDiff, Nat.reduceBEq, Int.reduceToNat, reduceCtorEq]
      refine ⟨_, (Option.some.inj H).symm, ?_⟩
      refine SubF_of ⟨[], ?_, ?_, by rfl, by rfl⟩
      · simp [CvL, Cv, getM]
      · trivial
    · try dsimp only at H ⊢
      try simp only [m_normal, k_normal, b_normal, kL_normal, r_normal]
      refine seqM ?_
      obtain ⟨f4, H⟩ := need_some.1 H
      replace f4 := g_iff.1 f4
      replace f4 := fun g => inb_iff.1 (f4 g)
      obtain ⟨f5, H⟩ := need_some.1 H
      replace f5 := g_iff.1 f5
      refine rg ct48_0t0_ok ?_
      simp only [go_sem, Nat.reduceLeDiff, Nat.reduceLT, Nat.reduceAdd, Nat.reduceMul, Nat.reduceSub, Nat.reduceEqDiff, Nat.reduceBEq, Int.reduceToNat, reduceCtorEq, ct48_0t0_49, body49]
      repeat ((with_reducible refine And.intro ?_ ?_); focus (first | (with_reducible trivial) | omega | exact f4 | exact f5 | (intro g; have q := f4 (by first | exact g | simpa using g); first | exact q | exact ⟨q.1, q.2.1⟩ | exact q.2.2 | omega | exact ⟨g, q⟩ | exact ⟨trivial, q⟩) | (intro g; have q := f5 (by first | exact g | simpa using g); first | exact q | exact ⟨q.1, q.2.1⟩ | exact q.2.2 | omega | exact ⟨g, q⟩ | exact ⟨trivial, q⟩) | (intro x y _ _; (repeat (first | exact nfR_enI | exact nfR_lit (by simp only [nrefL, nref, and_self]) | (refine nfR_app (fun x y => ?_) (fun x y => ?_)) | (refine nfR_ins (fun x y => ?_) (fun x y => ?_)) | (refine nfR_del (fun x y => ?_)) | (refine nfR_upc (fun x y => ?_) (by simp only [nrefL, nref, and_self])) | (refine nfR_ovw (fun x y => ?_) (fun x y => ?_)) | exact nfR_getL (by simp only [nrefL, nref, and_self]))); done) | (intro x hx; (repeat (first | (exfalso; omega) | (rcases x with _ | x; first | (and_intros <;> (first | exact rfl | exact trivial | exact ⟨Or.inr rfl, Fit_enI⟩ | exact Fit_enI | exact Or.inr rfl | exact Or.inl rfl | exact fun x hx => absurd hx (by omega) | exact ⟨Or.inl rfl, fun x hx => absurd hx (by omega)⟩)) | (first | exact rfl | exact trivial | exact ⟨Or.inr rfl, Fit_enI⟩ | exact Fit_enI | exact Or.inr rfl | exact Or.inl rfl | exact fun x hx => absurd hx (by omega) | exact ⟨Or.inl rfl, fun x hx => absurd hx (by omega)⟩)))); done) | (and_intros <;> first | (with_reducible trivial) | omega | assumption | (intro x y _ _; (repeat (first | exact nfR_enI | exact nfR_lit (by simp only [nrefL, nref, and_self]) | (refine nfR_app (fun x y => ?_) (fun x y => ?_)) | (refine nfR_ins (fun x y => ?_) (fun x y => ?_)) | (refine nfR_del (fun x y => ?_)) | (refine nfR_upc (fun x y => ?_) (by simp only [nrefL, nref, and_self])) | (refine nfR_ovw (fun x y => ?_) (fun x y => ?_)) | exact nfR_getL (by simp only [nrefL, nref, and_self]))); done) | (intro x hx; (repeat (first | (exfalso; omega) | (rcases x with _ | x; first | (and_intros <;> (first | exact rfl | exact trivial | exact ⟨Or.inr rfl, Fit_enI⟩ | exact Fit_enI | exact Or.inr rfl | exact Or.inl rfl | exact fun x hx => absurd hx (by omega) | exact ⟨Or.inl rfl, fun x hx => absurd hx (by omega)⟩)) | (first | exact rfl | exact trivial | exact ⟨Or.inr rfl, Fit_enI⟩ | exact Fit_enI | exact Or.inr rfl | exact Or.inl rfl | exact fun x hx => absurd hx (by omega) | exact ⟨Or.inl rfl, fun x hx => absurd hx (by omega)⟩)))); done)) | (intro g; and_intros <;> first | (with_reducible trivial) | assumption | exact f4 g | exact f5 g | (intro x y _ _; (repeat (first | exact nfR_enI | exact nfR_lit (by simp only [nrefL, nref, and_self]) | (refine nfR_app (fun x y => ?_) (fun x y => ?_)) | (refine nfR_ins (fun x y => ?_) (fun x y => ?_)) | (refine nfR_del (fun x y => ?_)) | (refine nfR_upc (fun x y => ?_) (by simp only [nrefL, nref, and_self])) | (refine nfR_ovw (fun x y => ?_) (fun x y => ?_)) | exact nfR_getL (by simp only [nrefL, nref, and_self]))); done) | (intro x hx; (repeat (first | (exfalso; omega) | (rcases x with _ | x; first | (and_intros <;> (first | exact rfl | exact trivial | exact ⟨Or.inr rfl, Fit_enI⟩ | exact Fit_enI | exact Or.inr rfl | exact Or.inl rfl | exact fun x hx => absurd hx (by omega) | exact ⟨Or.inl rfl, fun x hx => absurd hx (by omega)⟩)) | (first | exact rfl | exact trivial | exact ⟨Or.inr rfl, Fit_enI⟩ | exact Fit_enI | exact Or.inr rfl | exact Or.inl rfl | exact fun x hx => absurd hx (by omega) | exact ⟨Or.inl rfl, fun x hx => absurd hx (by omega)⟩)))); done) | (and_intros <;> first | (with_reducible trivial) | omega | assumption | (intro x y _ _; (repeat (first | exact nfR_enI | exact nfR_lit (by simp only [nrefL, nref, and_self]) | (refine nfR_app (fun x y => ?_) (fun x y => ?_)) | (refine nfR_ins (fun x y => ?_) (fun x y => ?_)) | (refine nfR_del (fun x y => ?_)) | (refine nfR_upc (fun x y => ?_) (by simp only [nrefL, nref, and_self])) | (refine nfR_ovw (fun x y => ?_) (fun x y => ?_)) | exact nfR_getL (by simp only [nrefL, nref, and_self]))); done) | (intro x hx; (repeat (first | (exfalso; omega) | (rcases x with _ | x; first | (and_intros <;> (first | exact rfl | exact trivial | exact ⟨Or.inr rfl, Fit_enI⟩ | exact Fit_enI | exact Or.inr rfl | exact Or.inl rfl | exact fun x hx => absurd hx (by omega) | exact ⟨Or.inl rfl, fun x hx => absurd hx (by omega)⟩)) | (first | exact rfl | exact trivial | exact ⟨Or.inr rfl, Fit_enI⟩ | exact Fit_enI | exact Or.inr rfl | exact Or.inl rfl | exact fun x hx => absurd hx (by omega) | exact ⟨Or.inl rfl, fun x hx => absurd hx (by omega)⟩)))); done))) | grind))
      refine rg ctNo_ok ?_
      simp only [go_sem, Nat.reduceLeDiff, Nat.reduceLT, Nat.reduceAdd, Nat.reduceMul, Nat.reduceSub, Nat.reduceEqDiff, Nat.reduceBEq, Int.reduceToNat, reduceCtorEq]
      obtain rfl := Option.some.inj H
      first | rfl | simp only [Bool.and_false, Bool.false_and, Bool.and_true, Bool.true_and]
  · cases hb
/-! hotspot/wake.find -/
noncomputable def ct39t0 : Ct := tab [(48, pureC body48_0)]
theorem ct39t0_ok : CtOk Try.prog ct39t0 := tab_cons ok48_0 <| tab_nil
theorem ct39t0_48 (l : List AV) (h : List ABlk) : ct39t0 48 l h = pureC body48_0 l h := rfl
noncomputable def F39 (p0 : TWakeTable) (p1 : Int) : Option (Int × Bool) :=
  (F48_0 p0.List p1).bind fun r1 => some (r1.1, r1.2)
noncomputable def body39 : List AV → AR
  | [v0, v1] => .pure (aK 1 k_TWakeTable v0 ∧ iK .i64 v1 ∧ (F39 (g_TWakeTable (aL v0)) (iA v1)).isSome = true) (.tup [.int .i64 ((gt (F39 (g_TWakeTable (aL v0)) (iA v1))).1), .bool ((gt (F39 (g_TWakeTable (aL v0)) (iA v1))).2)])
  | _ => .fail
set_option maxHeartbeats 4000000 in
set_option maxRecDepth 20000 in
theorem ok39 : FnOk Try.prog 39 (pureC body39) := by
  refine pure_fnM body39 (rs := [.tmp 4, .tmp 5]) Try.func39 (by kernel_rfl) rfl rfl ?_
  intro l ob v hb hob
  unfold body39 at hb
  split at hb
  · rename_i v0 v1
    injection hb with q1 q2; subst q1 q2
    obtain ⟨hk0, hk1, hob⟩ := hob
    obtain ⟨r, H⟩ := Option.isSome_iff_exists.1 hob
    rw [H, gt_some]
    have hw0 := wA_TWakeTable hk0
    have hw1 := iK_wk hk1
    generalize g_TWakeTable (aL v0) = p0 at H hw0
    generalize iA v1 = p1 at H hw1
    refine ⟨[.agg [.ro 5 p0.List.length false (enR c_TWakeRule p0.List)], .int .i64 p1], _, (fun E vs F => FR_wk1 hw0.1 F (fun vs F => FR_wk1 hw1.1 F (fun vs F => F))), rfl, rfl, ?_⟩
    rw [Try.ntmps39]
    simp only [List.length_cons, List.length_nil, Nat.reduceAdd, Nat.reduceSub, List.replicate_succ, List.replicate_zero, List.cons_append, List.nil_append]
    unfold F39 at H
    try dsimp only at H
    refine sq ctNo_ok ?_
    simp only [go_sem, Nat.reduceLeDiff, Nat.reduceLT, Nat.reduceAdd, Nat.reduceMul, Nat.reduceSub, Nat.reduceEqDiff, Nat.reduceBEq, Int.reduceToNat, reduceCtorEq]
    refine seqM ?_
    obtain ⟨r1, e2, H⟩ := Option.bind_eq_some_iff.1 H
    refine rg ct39t0_ok ?_
    simp only [go_sem, Nat.reduceLeDiff, Nat.reduceLT, Nat.reduceAdd, Nat.reduceMul, Nat.reduceSub, Nat.reduceEqDiff, Nat.reduceBEq, Int.reduceToNat, reduceCtorEq, ct39t0_48, body48_0, e2]
    repeat ((with_reducible refine And.intro ?_ ?_); focus (first | (with_reducible trivial) | omega | (intro x y _ _; (repeat (first | exact nfR_enI | exact nfR_lit (by simp only [nrefL, nref, and_self]) | (refine nfR_app (fun x y => ?_) (fun x y => ?_)) | (refine nfR_ins (fun x y => ?_) (fun x y => ?_)) | (refine nfR_del (fun x y => ?_)) | (refine nfR_upc (fun x y => ?_) (by simp only [nrefL, nref, and_self])) | (refine nfR_ovw (fun x y => ?_) (fun x y => ?_)) | exact nfR_getL (by simp only [nrefL, nref, and_self]))); done) | (intro x hx; (repeat (first | (exfalso; omega) | (rcases x with _ | x; first | (and_intros <;> (first | exact rfl | exact trivial | exact ⟨Or.inr rfl, Fit_enI⟩ | exact Fit_enI | exact Or.inr rfl | exact Or.inl rfl | exact fun x hx => absurd hx (by omega) | exact ⟨Or.inl rfl, fun x hx => absurd hx (by omega)⟩)) | (first | exact rfl | exact trivial | exact ⟨Or.inr rfl, Fit_enI⟩ | exact Fit_enI | exact Or.inr rfl | exact Or.inl rfl | exact fun x hx => absurd hx (by omega) | exact ⟨Or.inl rfl, fun x hx => absurd hx (by omega)⟩)))); done) | (and_intros <;> first | (with_reducible trivial) | omega | assumption | (intro x y _ _; (repeat (first | exact nfR_enI | exact nfR_lit (by simp only [nrefL, nref, and_self]) | (refine nfR_app (fun x y => ?_) (fun x y => ?_)) | (refine nfR_ins (fun x y => ?_) (fun x y => ?_)) | (refine nfR_del (fun x y => ?_)) | (refine nfR_upc (fun x y => ?_) (by simp only [nrefL, nref, and_self])) | (refine nfR_ovw (fun x y => ?_) (fun x y => ?_)) | exact nfR_getL (by simp only [nrefL, nref, and_self]))); done) | (intro x hx; (repeat (first | (exfalso; omega) | (rcases x with _ | x; first | (and_intros <;> (first | exact rfl | exact trivial | exact ⟨Or.inr rfl, Fit_enI⟩ | exact Fit_enI | exact Or.inr rfl | exact Or.inl rfl | exact fun x hx => absurd hx (by omega) | exact ⟨Or.inl rfl, fun x hx => absurd hx (by omega)⟩)) | (first | exact rfl | exact trivial | exact ⟨Or.inr rfl, Fit_enI⟩ | exact Fit_enI | exact Or.inr rfl | exact Or.inl rfl | exact fun x hx => absurd hx (by omega) | exact ⟨Or.inl rfl, fun x hx => absurd hx (by omega)⟩)))); done)) | grind))
    refine rg ctNo_ok ?_
    simp only [go_sem, Nat.reduceLeDiff, Nat.reduceLT, Nat.reduceAdd, Nat.reduceMul, Nat.reduceSub, Nat.reduceEqDiff, Nat.reduceBEq, Int.reduceToNat, reduceCtorEq]
    obtain rfl := Option.some.inj H
    first | rfl | simp only [Bool.and_false, Bool.false_and, Bool.and_true, Bool.true_and]
  · cases hb
/-! slices.Clone[[]hotspot/api.WakeRule,hotspot/api.WakeRule] -/
noncomputable def F41 (p0 : List TWakeRule) : Option (List TWakeRule) :=
  need (capb 40 p0.length) <| some p0
noncomputable def body41 : List AV → Nat → AR
  | [v0], s => .heap (lK k_TWakeRule 5 v0 ∧ (F41 (lA g_TWakeRule v0)).isSome = true) (.sl s 5 0 (gt (F41 (lA g_TWakeRule v0))).length false) [.row 23 5 (gt (F41 (lA g_TWakeRule v0))).length (enR c_TWakeRule (gt (F41 (lA g_TWakeRule v0))))]
  | _, _ => .fail
set_option maxHeartbeats 4000000 in
set_option maxRecDepth 20000 in
theorem ok41 : FnOk Try.prog 41 (genC body41) := by
  refine gen_fn body41 (rs := [.tmp 2]) Try.func41 (by kernel_rfl) rfl rfl ?_
  intro l s ob v ns hb hob
  rcases hb with ⟨hb, rfl⟩ | hb
  · unfold body41 at hb
    split at hb <;> cases hb
  · unfold body41 at hb
    split at hb
    · rename_i v0
      injection hb with q1 q2 q3; subst q1 q2 q3
      obtain ⟨hk0, hob⟩ := hob
      obtain ⟨r, H⟩ := Option.isSome_iff_exists.1 hob
      rw [H, gt_some]
      have hw0 := lK_wk (fun r h => w_TWakeRule h) hk0
      generalize lA g_TWakeRule v0 = p0 at H hw0
      unfold F41 at H
      obtain ⟨f1, H⟩ := need_some.1 H
      replace f1 := capb_iff.1 f1
      obtain rfl := Option.some.inj H
      refine ⟨[.ro 5 p0.length false (enR c_TWakeRule p0)], .sl 0 5 0 p0.length false, [.row 23 5 p0.length (enR c_TWakeRule p0)], (fun E vs F => FR_wk1 hw0.1 F (fun vs F => F)), by simp only [ren, rnN_0], ⟨⟨rfl, rfl, rfl, fun x y _ _ => ren_nref _ (nfR_en nr_TWakeRule)⟩, trivial⟩, ?_⟩
      rw [Try.ntmps41]
      simp only [List.length_cons, List.length_nil, Nat.reduceAdd, Nat.reduceSub, List.replicate_succ, List.replicate_zero, List.cons_append, List.nil_append]
      refine rg ctNo_ok ?_
      have nfs : ∀ x y, nref (enR c_TWakeRule p0 x y) := fun x y => nfR_en nr_TWakeRule
      generalize hc : enR c_TWakeRule p0 = c at nfs hw0
      cases hn : p0.length with
      | zero =>
        simp only [go_sem, Nat.reduceLeDiff, Nat.reduceLT, Nat.reduceAdd, Nat.reduceMul, Nat.reduceSub, Nat.reduceEqDiff, Nat.reduceBEq, Int.reduceToNat, reduceCtorEq]
        have hp : p0 = [] := List.eq_nil_of_length_eq_zero hn
        subst hp; subst hc
        refine ⟨?_, ?_⟩
        · refine ⟨[], ?_, ?_, [none], ?_, ?_, rfl⟩
          · simp only [List.length_cons, List.length_nil, Nat.zero_mul, Nat.add_zero, fzV, fzL, fzOb, fzObL, fzH, fzHF, fzB, fzObB, fzObH, inL, rowOb, geth, cond_true, cond_false, Bool.or_false, Bool.or_true, Bool.false_or, Bool.true_or, and_self, true_and, and_true, Nat.reduceEqDiff, Nat.reduceBEq, beq_self_eq_true, sub_enR0, Nat.reduceAdd, Nat.zero_add, Nat.le_refl, List.nil_append]
          · simp only [List.length_cons, List.length_nil, Nat.zero_mul, Nat.add_zero, fzV, fzL, fzOb, fzObL, fzH, fzHF, fzB, fzObB, fzObH, inL, rowOb, geth, cond_true, cond_false, Bool.or_false, Bool.or_true, Bool.false_or, Bool.true_or, and_self, true_and, and_true, Nat.reduceEqDiff, Nat.reduceBEq, beq_self_eq_true, sub_enR0, Nat.reduceAdd, Nat.zero_add, Nat.le_refl, List.nil_append]
          · simp [fzV, Cv, CvL, getM]
          · simp only [List.length_cons, List.length_nil, Nat.zero_mul, Nat.add_zero, fzV, fzL, fzOb, fzObL, fzH, fzHF, fzB, fzObB, fzObH, inL, rowOb, geth, cond_true, cond_false, Bool.or_false, Bool.or_true, Bool.false_or, Bool.true_or, and_self, true_and, and_true, Nat.reduceEqDiff, Nat.reduceBEq, beq_self_eq_true, sub_enR0, Nat.reduceAdd, Nat.zero_add, Nat.le_refl, List.nil_append, CvH, and_true]; exact CvB_none
        · refine ⟨by omega, [], ?_, ?_, [some 1], ?_, ?_, rfl⟩
          · simp only [List.length_cons, List.length_nil, Nat.zero_mul, Nat.add_zero, fzV, fzL, fzOb, fzObL, fzH, fzHF, fzB, fzObB, fzObH, inL, rowOb, geth, cond_true, cond_false, Bool.or_false, Bool.or_true, Bool.false_or, Bool.true_or, and_self, true_and, and_true, Nat.reduceEqDiff, Nat.reduceBEq, beq_self_eq_true, sub_enR0, Nat.reduceAdd, Nat.zero_add, Nat.le_refl, List.nil_append]
          · simp only [List.length_cons, List.length_nil, Nat.zero_mul, Nat.add_zero, fzV, fzL, fzOb, fzObL, fzH, fzHF, fzB, fzObB, fzObH, inL, rowOb, geth, cond_true, cond_false, Bool.or_false, Bool.or_true, Bool.false_or, Bool.true_or, and_self, true_and, and_true, Nat.reduceEqDiff, Nat.reduceBEq, beq_self_eq_true, sub_enR0, Nat.reduceAdd, Nat.zero_add, Nat.le_refl, List.nil_append]
          · simp [fzV, inL, Cv, CvL, getM]
          · simp only [List.length_cons, List.length_nil, Nat.zero_mul, Nat.add_zero, fzV, fzL, fzOb, fzObL, fzH, fzHF, fzB, fzObB, fzObH, inL, rowOb, geth, cond_true, cond_false, Bool.or_false, Bool.or_true, Bool.false_or, Bool.true_or, and_self, true_and, and_true, Nat.reduceEqDiff, Nat.reduceBEq, beq_self_eq_true, sub_enR0, Nat.reduceAdd, Nat.zero_add, Nat.le_refl, List.nil_append, CvH, and_true]; exact CvB_row0 nr_TWakeRule
      | succ m =>
        simp only [go_sem, Nat.reduceLeDiff, Nat.reduceLT, Nat.reduceAdd, Nat.reduceMul, Nat.reduceSub, Nat.reduceEqDiff, Nat.reduceBEq, Int.reduceToNat, reduceCtorEq]
        refine ⟨by omega, [], ?_, ?_, [some 1], ?_, ?_, rfl⟩
        · simp only [List.length_cons, List.length_nil, Nat.zero_mul, Nat.add_zero, fzV, fzL, fzOb, fzObL, fzH, fzHF, fzB, fzObB, fzObH, inL, rowOb, geth, cond_true, cond_false, Bool.or_false, Bool.or_true, Bool.false_or, Bool.true_or, and_self, true_and, and_true, Nat.reduceEqDiff, Nat.reduceBEq, beq_self_eq_true, sub_enR0, Nat.reduceAdd, Nat.zero_add, Nat.le_refl, List.nil_append]
        · simp only [List.length_cons, List.length_nil, Nat.zero_mul, Nat.add_zero, fzV, fzL, fzOb, fzObL, fzH, fzHF, fzB, fzObB, fzObH, inL, rowOb, geth, cond_true, cond_false, Bool.or_false, Bool.or_true, Bool.false_or, Bool.true_or, and_self, true_and, and_true, Nat.reduceEqDiff, Nat.reduceBEq, beq_self_eq_true, sub_enR0, Nat.reduceAdd, Nat.zero_add, Nat.le_refl, List.nil_append]
        · simp [fzV, inL, Cv, CvL, getM]
        · simp only [List.length_cons, List.length_nil, Nat.zero_mul, Nat.add_zero, fzV, fzL, fzOb, fzObL, fzH, fzHF, fzB, fzObB, fzObH, inL, rowOb, geth, cond_true, cond_false, Bool.or_false, Bool.or_true, Bool.false_or, Bool.true_or, and_self, true_and, and_true, Nat.reduceEqDiff, Nat.reduceBEq, beq_self_eq_true, sub_enR0, Nat.reduceAdd, Nat.zero_add, Nat.le_refl, List.nil_append, CvH, and_true]; rw [← hn, ← hc]; exact CvB_row nr_TWakeRule rfl (fun x y hx hy => by simp only [appC, Nat.not_lt_zero, if_false, Nat.sub_zero])
    · cases hb
/-! slices.Insert[[]hotspot/api.WakeRule,hotspot/api.WakeRule] -/
theorem ext40 : ExtOk Try.prog 50 ovC2 := ov_ext2 (t := 35) (tr := 4) (e := 23) (z := 5) Try.func50 (by kernel_rfl) (by kernel_rfl) (by kernel_rfl) (by kernel_rfl) (by kernel_rfl) (by kernel_rfl)
def ctI40 : Ct := tab [(50, ovC2)]
theorem ctI40_ok : CtOk Try.prog ctI40 := tab_ext ext40 tab_nil
theorem ctI40_eq (l : List AV) (h : List ABlk) : ctI40 50 l h = ovC2 l h := rfl
theorem tik40_0 : tintk Try.prog 2 = true := by kernel_rfl
theorem tik40_1 : tintk Try.prog 35 = false := by kernel_rfl
set_option maxHeartbeats 8000000 in
set_option maxRecDepth 20000 in
theorem okF40 : FnOk Try.prog 40 (insF 23 5) := by
  refine edit1_fn (sh := fun _ => none) (fun _ _ h => by cases h) ctI40_ok (insF 23 5) (rs := [.tmp 6]) Try.func40 (by kernel_rfl) rfl rfl insF_np ?_
  intro E h l vs ob v h' H F hc hob
  unfold insF at hc
  split at hc
  · rename_i b es' i n nl p b2 es3 i2 m nl2
    split at hc
    · rename_i e' es2 NN c hb
      split at hc
      · rename_i e4 es4 N2 d hb2
        injection hc with q1 q2 q3
        subst q1 q2 q3
        obtain ⟨rfl, rfl, rfl, rfl, rfl, hbb, hN, hN2, hpn, hmm, hbig, hfl, hfl2⟩ := hob
        obtain ⟨vs⟩ := vs
        match vs, F.1 with
        | [u1, u2, u3], _ =>
          have hne : geth h b ≠ .dead := by rw [hb]; exact fun e => by cases e
          obtain ⟨cap, hcap, hV⟩ := csl_of_sl (only_sl (F.2 0 _ u1 rfl rfl))
          have g2 := F.2 1 _ u2 rfl rfl
          have g3 := only_ro (b := b) H (F.2 2 _ u3 rfl rfl) hb2 hne hbb hN2 fun x y hx hy => (hfl2 x y hx hy).1
          obtain rfl := VR_int g2
          refine ⟨b, 23, 5, NN, c, n + m, insA i p m c (subC i2 d), [.csl 0 5 i n cap, .int .i64 p, .ro 5 m nl2 (subC i2 d)], hb, fun x y hx hy => (hfl x y hx hy).1, fun x y hx hy => ?_, rfl, rfl, ?_, ?_⟩
          · unfold insA subC
            split
            · exact hfl _ _ (by omega) hy
            · split
              · exact hfl2 _ _ (by omega) hy
              · exact hfl _ _ (by omega) hy
          · refine ⟨rfl, fun j a w ha hw => ?_⟩
            match j with
            | 0 => simp at ha hw; subst ha hw; exact hV
            | 1 => simp at ha hw; subst ha hw; exact .int _ _
            | 2 => simp at ha hw; subst ha hw; exact g3
            | j + 3 => simp at ha
          · rw [Try.ntmps40]
            show wpC _ _ _ _ _ (.csl 0 5 i n cap :: .int .i64 p :: .ro 5 m nl2 (subC i2 d) :: .top :: .top :: .top :: .top :: .top :: .top :: .top :: .top :: .top :: .top :: .top :: .top :: .top :: .top :: .top :: .top :: .top :: .top :: .top :: .top :: .top :: .top :: .top :: .top :: .top :: .top :: .top :: .top :: .top :: .top :: .top :: .top :: .top :: .top :: .top :: .top :: .top :: .top :: .top :: .top :: .top :: .top :: .top :: .top :: .top :: .top :: .top :: .top :: .top :: .top :: .top :: .top :: .top :: .top :: .top :: .top :: .top :: .top :: .top :: .top :: .top :: .top :: .top :: .top :: .top :: .top :: .top :: .top :: .top :: .top :: .top :: .top :: .top :: .top :: .top :: .top :: .top :: .top :: .top :: .top :: .top :: .top :: .top :: .top :: .top :: .top :: .top :: .top :: .top :: .top :: .top :: .top :: []) _
            have hm0 : 0 < m := by omega
            have hm1 : ((m : Int) == 0) = false := by simp; omega
            rcases Nat.lt_or_ge p n with hp | hp
            · have hpq : ((p : Int) == (n : Int)) = false := by simp; omega
              have w1 : wr .i64 ((n : Int) + (m : Int)) = ((n + m : Nat) : Int) := by unfold wr; rw [IntWalk.i64_in _ (by omega)]; omega
              have w2 : wr .i64 (((n + m : Nat) : Int) - (p : Int)) = ((n + m - p : Nat) : Int) := by unfold wr; rw [IntWalk.i64_in _ (by omega)]; omega
              have w3 : wr .i64 ((p : Int) + (m : Int)) = ((p + m : Nat) : Int) := by unfold wr; rw [IntWalk.i64_in _ (by omega)]; omega
              have hpm : p + (n + m - p) = n + m := by omega
              have mn1 : min m (n + m - p) = m := by omega
              have mn2 : min (n - p) (n + m - (p + m)) = n - p := by omega
              have mn3 : min (n + m - p) (n + m - (p + m)) = n - p := by omega
              have fin : ∀ x y, x < n + m → insA i p m c (subC i2 d) x y = insA i p m c (subC i2 d) x y := fun _ _ _ => rfl
              by_cases hroom : n + m ≤ cap
              · have hg : decide ((cap : Int) < ((n + m : Nat) : Int)) = false := by simp; omega
                simp only [go_sem, Nat.reduceLeDiff, Nat.reduceLT, Nat.reduceAdd, Nat.reduceMul, Nat.reduceSub, Nat.reduceEqDiff, Nat.reduceBEq, Int.reduceToNat, reduceCtorEq, evCopy, evCopyR, lenS, cutS, evClear, evClearR, evCap, evAppZ, tik40_0, tik40_1, bEq, Option.isSome_some, Option.isNone_some, Option.isSome_none, Option.isNone_none, Int.ofNat_eq_natCast, Int.toNat_natCast, hm1, hpq, hg, Nat.sub_zero, bLt, bLe, w1, w2, w3, hpm, mn1, mn2, mn3, ctI40_eq, ovC2, slB, Nat.add_zero, Nat.zero_add]
                refine ⟨by omega, by omega, by omega, by omega, ?_⟩
                refine draw_rule (sh := fun _ => none) (fun _ _ h => by cases h) ctI40_ok 0 (by kernel_rfl) (by kernel_rfl) ?_
                intro an han
                simp only [go_sem, Nat.reduceLeDiff, Nat.reduceLT, Nat.reduceAdd, Nat.reduceMul, Nat.reduceSub, Nat.reduceEqDiff, Nat.reduceBEq, Int.reduceToNat, reduceCtorEq, evCopy, evCopyR, lenS, cutS, evClear, evClearR, evCap, evAppZ, tik40_0, tik40_1, bEq, Option.isSome_some, Option.isNone_some, Option.isSome_none, Option.isNone_none, Int.ofNat_eq_natCast, Int.toNat_natCast, hm1, hpq, hg, Nat.sub_zero, bLt, bLe, w1, w2, w3, hpm, mn1, mn2, mn3, ctI40_eq, ovC2, slB, Nat.add_zero, Nat.zero_add, d_nil, d_cons, nxtD, refsOp, refs, refsL, mask, maskF, place, placeF, okLog, pairOk, hit, inL, slotsF, ren, renL, rnN, nrH, nrB, nrL, nr, dead0, deadS, List.replicate_zero, List.replicate_succ, Bool.or_false, Bool.false_or, Bool.or_true, Bool.true_or, Bool.and_false, Bool.false_and, Nat.sub_self, Nat.add_zero, Nat.zero_add, Nat.reduceSub, Nat.not_lt_zero, Nat.zero_le, Nat.lt_add_one]
                refine ⟨by omega, by omega, by omega, by omega, by omega, ?_⟩
                refine conv_move (b := 0) rfl (by omega) (by omega) fun x y hx hy => ?_
                unfold ovwC insA subC
                by_cases hxp : x < p
                · rw [if_neg (by omega), if_neg (by omega), if_pos hxp]
                · rw [if_neg hxp]
                  by_cases hxm : x < p + m
                  · rw [if_pos (by omega), if_pos hxm]
                    congr 1
                    omega
                  · rw [if_neg (by omega), if_pos (by omega), if_neg hxm]
                    congr 1
                    omega
              · have hg : decide ((cap : Int) < ((n + m : Nat) : Int)) = true := by simp; omega
                have hd : decide (cap < n + m) = true := by simp; omega
                simp only [go_sem, Nat.reduceLeDiff, Nat.reduceLT, Nat.reduceAdd, Nat.reduceMul, Nat.reduceSub, Nat.reduceEqDiff, Nat.reduceBEq, Int.reduceToNat, reduceCtorEq, evCopy, evCopyR, lenS, cutS, evClear, evClearR, evCap, evAppZ, tik40_0, tik40_1, bEq, Option.isSome_some, Option.isNone_some, Option.isSome_none, Option.isNone_none, Int.ofNat_eq_natCast, Int.toNat_natCast, hm1, hpq, hg, hd, Nat.sub_zero, bLt, bLe, w1, w2, w3, hpm, mn1, mn2, mn3, ctI40_eq, ovC2, slB, Nat.add_zero, Nat.zero_add]
                refine ⟨by omega, by omega, by omega, by omega, by omega, ?_⟩
                refine draw_rule (sh := fun _ => none) (fun _ _ h => by cases h) ctI40_ok 0 (by kernel_rfl) (by kernel_rfl) ?_
                intro an han
                simp only [go_sem, Nat.reduceLeDiff, Nat.reduceLT, Nat.reduceAdd, Nat.reduceMul, Nat.reduceSub, Nat.reduceEqDiff, Nat.reduceBEq, Int.reduceToNat, reduceCtorEq, evCopy, evCopyR, lenS, cutS, evClear, evClearR, evCap, evAppZ, tik40_0, tik40_1, bEq, Option.isSome_some, Option.isNone_some, Option.isSome_none, Option.isNone_none, Int.ofNat_eq_natCast, Int.toNat_natCast, hm1, hpq, hg, hd, Nat.sub_zero, bLt, bLe, w1, w2, w3, hpm, mn1, mn2, mn3, ctI40_eq, ovC2, slB, Nat.add_zero, Nat.zero_add, d_nil, d_cons, nxtD, refsOp, refs, refsL, mask, maskF, place, placeF, okLog, pairOk, hit, inL, slotsF, ren, renL, rnN, nrH, nrB, nrL, nr, dead0, deadS, List.replicate_zero, List.replicate_succ, Bool.or_false, Bool.false_or, Bool.or_true, Bool.true_or, Bool.and_false, Bool.false_and, Nat.sub_self, Nat.add_zero, Nat.zero_add, Nat.reduceSub, Nat.not_lt_zero, Nat.zero_le, Nat.lt_add_one]
                refine ⟨by omega, by omega, by omega, ?_⟩
                refine conv_two (by omega) fun x y hx hy => ?_
                unfold ovwC appC insA subC
                by_cases hxp : x < p
                · rw [if_neg (by omega), if_neg (by omega), if_pos hxp, if_pos hxp]
                · by_cases hxm : x < p + m
                  · rw [if_neg (by omega), if_pos (by omega), if_neg hxp, if_pos hxm]
                  · rw [if_pos (by omega), if_neg hxp, if_neg hxm]
                    congr 1
                    omega
            · obtain rfl : p = n := by omega
              have hpq : ((p : Int) == (p : Int)) = true := by simp
              by_cases hroom : p + m ≤ cap
              · have hd1 : decide (p + m ≤ cap) = true := by simpa using hroom
                simp only [go_sem, Nat.reduceLeDiff, Nat.reduceLT, Nat.reduceAdd, Nat.reduceMul, Nat.reduceSub, Nat.reduceEqDiff, Nat.reduceBEq, Int.reduceToNat, reduceCtorEq, evCopy, evCopyR, lenS, cutS, evClear, evClearR, evCap, evAppZ, tik40_0, tik40_1, bEq, Option.isSome_some, Option.isNone_some, Option.isSome_none, Option.isNone_none, Int.ofNat_eq_natCast, Int.toNat_natCast, hm1, hpq, hd1, Nat.sub_zero]
                refine ⟨by omega, by omega, ?_⟩
                refine conv_move (b := 0) rfl (by omega) (by omega) fun x y hx hy => ?_
                unfold ovwC insA
                by_cases hxp : x < p
                · rw [if_neg (by omega), if_pos hxp]
                · rw [if_pos (by omega), if_neg hxp, if_pos (by omega)]
                  congr 1
                  omega
              · have hd1 : decide (p + m ≤ cap) = false := by simpa using hroom
                simp only [go_sem, Nat.reduceLeDiff, Nat.reduceLT, Nat.reduceAdd, Nat.reduceMul, Nat.reduceSub, Nat.reduceEqDiff, Nat.reduceBEq, Int.reduceToNat, reduceCtorEq, evCopy, evCopyR, lenS, cutS, evClear, evClearR, evCap, evAppZ, tik40_0, tik40_1, bEq, Option.isSome_some, Option.isNone_some, Option.isSome_none, Option.isNone_none, Int.ofNat_eq_natCast, Int.toNat_natCast, hm1, hpq, hd1, Nat.sub_zero]
                refine ⟨by omega, by omega, ?_⟩
                refine conv_two (Nat.le_refl _) fun x y hx hy => ?_
                unfold appC insA subC
                by_cases hxp : x < p
                · rw [if_pos hxp, if_pos hxp]
                · rw [if_neg hxp, if_neg hxp, if_pos (by omega)]
      · cases hc
    · cases hc
  · cases hc
theorem ok40 : FnOk Try.prog 40 (insN 23 5) := insN_ok okF40
/-! hotspot/wake.Add -/
noncomputable def ct24t0 : Ct := tab [(32, pureC body32)]
theorem ct24t0_ok : CtOk Try.prog ct24t0 := tab_cons ok32 <| tab_nil
theorem ct24t0_32 (l : List AV) (h : List ABlk) : ct24t0 32 l h = pureC body32 l h := rfl
noncomputable def ct24t1 : Ct := tab [(39, pureC body39)]
theorem ct24t1_ok : CtOk Try.prog ct24t1 := tab_cons ok39 <| tab_nil
theorem ct24t1_39 (l : List AV) (h : List ABlk) : ct24t1 39 l h = pureC body39 l h := rfl
noncomputable def ct24t2 : Ct := tab [(17, pureC body17)]
theorem ct24t2_ok : CtOk Try.prog ct24t2 := tab_cons ok17 <| tab_nil
theorem ct24t2_17 (l : List AV) (h : List ABlk) : ct24t2 17 l h = pureC body17 l h := rfl
noncomputable def ct24t3 : Ct := tab [(40, insN 23 5), (41, genC body41)]
theorem ct24t3_ok : CtOk Try.prog ct24t3 := tab_cons ok40 <| tab_cons ok41 <| tab_nil
theorem ct24t3_40 (l : List AV) (h : List ABlk) : ct24t3 40 l h = insN 23 5 l h := rfl
theorem ct24t3_41 (l : List AV) (h : List ABlk) : ct24t3 41 l h = genC body41 l h := rfl
noncomputable def F24 (p0 : TWakeTable) (p1 : TWakeRule) : Option (TWakeTable × Int) :=
  (F32 p0).bind fun r1 => bif (!bEq r1 0) then (some ((TWakeTable.mk []), r1)) else ((F39 p0 p1.Id).bind fun r3 => (F17 p1).bind fun r5 => bif (!bEq r5 0) then (some ((TWakeTable.mk []), 2)) else (bif r3.2 then (some ((TWakeTable.mk []), 20)) else (bif (bEq (p0.List.length : Nat) 32) then (some ((TWakeTable.mk []), 22)) else ((F41 p0.List).bind fun r7 => need (insb r3.1 r7.length) <| some ((TWakeTable.mk (insL r7 r3.1 [p1])), 0)))))
noncomputable def body24 : List AV → Nat → AR
  | [v0, v1], _ => .pure (aK 1 k_TWakeTable v0 ∧ aK 5 k_TWakeRule v1 ∧ (F24 (g_TWakeTable (aL v0)) (g_TWakeRule (aL v1))).isSome = true) (.tup [.agg [.ro 5 ((((gt (F24 (g_TWakeTable (aL v0)) (g_TWakeRule (aL v1)))).1).List).length) false (enR c_TWakeRule (((gt (F24 (g_TWakeTable (aL v0)) (g_TWakeRule (aL v1)))).1).List))], .int .i64 ((gt (F24 (g_TWakeTable (aL v0)) (g_TWakeRule (aL v1)))).2)])
  | _, _ => .fail
set_option maxHeartbeats 4000000 in
set_option maxRecDepth 20000 in
theorem ok24 : FnOk Try.prog 24 (genC body24) := by
  refine gen_fn body24 (rs := [.cell 4 37, .tmp 5]) Try.func24 (by kernel_rfl) rfl rfl ?_
  intro l s ob v ns hb hob
  rcases hb with ⟨hb, rfl⟩ | hb
  · unfold body24 at hb
    split at hb
    · rename_i v0 v1
      injection hb with q1 q2; subst q1 q2
      obtain ⟨hk0, hk1, hob⟩ := hob
      obtain ⟨r, H⟩ := Option.isSome_iff_exists.1 hob
      rw [H, gt_some]
      have hw0 := wA_TWakeTable hk0
      have hw1 := wA_TWakeRule hk1
      generalize g_TWakeTable (aL v0) = p0 at H hw0
      generalize g_TWakeRule (aL v1) = p1 at H hw1
      refine ⟨[.agg [.ro 5 p0.List.length false (enR c_TWakeRule p0.List)], .agg [.int .i64 p1.Id, .int .i64 p1.Start, .int .i64 p1.Every, .int .i64 p1.Length, .int .i64 p1.Group]], .tup [.agg [.ro 5 r.1.List.length false (enR c_TWakeRule r.1.List)], .int .i64 r.2], [], (fun E vs F => FR_wk1 hw0.1 F (fun vs F => FR_wk1 hw1.1 F (fun vs F => F))), by simp only [ren, renL], trivial, ?_⟩
      rw [Try.ntmps24]
      simp only [List.length_cons, List.length_nil, Nat.reduceAdd, Nat.reduceSub, List.replicate_succ, List.replicate_zero, List.cons_append, List.nil_append]
      unfold F24 at H
      try dsimp only at H
      refine sq ctNo_ok ?_
      simp only [go_sem, Nat.reduceLeDiff, Nat.reduceLT, Nat.reduceAdd, Nat.reduceMul, Nat.reduceSub, Nat.reduceEqDiff, Nat.reduceBEq, Int.reduceToNat, reduceCtorEq]
      refine seqM ?_
      refine seqM ?_
      obtain ⟨r1, e2, H⟩ := Option.bind_eq_some_iff.1 H
      refine rg ct24t0_ok ?_
      simp only [go_sem, Nat.reduceLeDiff, Nat.reduceLT, Nat.reduceAdd, Nat.reduceMul, Nat.reduceSub, Nat.reduceEqDiff, Nat.reduceBEq, Int.reduceToNat, reduceCtorEq, ct24t0_32, body32, e2]
      repeat ((with_reducible refine And.intro ?_ ?_); focus (first | (with_reducible trivial) | omega | (intro x y _ _; (repeat (first | exact nfR_enI | exact nfR_lit (by simp only [nrefL, nref, and_self]) | (refine nfR_app (fun x y => ?_) (fun x y => ?_)) | (refine nfR_ins (fun x y => ?_) (fun x y => ?_)) | (refine nfR_del (fun x y => ?_)) | (refine nfR_upc (fun x y => ?_) (by simp only [nrefL, nref, and_self])) | (refine nfR_ovw (fun x y => ?_) (fun x y => ?_)) | exact nfR_getL (by simp only [nrefL, nref, and_self]))); done) | (intro x hx; (repeat (first | (exfalso; omega) | (rcases x with _ | x; first | (and_intros <;> (first | exact rfl | exact trivial | exact ⟨Or.inr rfl, Fit_enI⟩ | exact Fit_enI | exact Or.inr rfl | exact Or.inl rfl | exact fun x hx => absurd hx (by omega) | exact ⟨Or.inl rfl, fun x hx => absurd hx (by omega)⟩)) | (first | exact rfl | exact trivial | exact ⟨Or.inr rfl, Fit_enI⟩ | exact Fit_enI | exact Or.inr rfl | exact Or.inl rfl | exact fun x hx => absurd hx (by omega) | exact ⟨Or.inl rfl, fun x hx => absurd hx (by omega)⟩)))); done) | (and_intros <;> first | (with_reducible trivial) | omega | assumption | (intro x y _ _; (repeat (first | exact nfR_enI | exact nfR_lit (by simp only [nrefL, nref, and_self]) | (refine nfR_app (fun x y => ?_) (fun x y => ?_)) | (refine nfR_ins (fun x y => ?_) (fun x y => ?_)) | (refine nfR_del (fun x y => ?_)) | (refine nfR_upc (fun x y => ?_) (by simp only [nrefL, nref, and_self])) | (refine nfR_ovw (fun x y => ?_) (fun x y => ?_)) | exact nfR_getL (by simp only [nrefL, nref, and_self]))); done) | (intro x hx; (repeat (first | (exfalso; omega) | (rcases x with _ | x; first | (and_intros <;> (first | exact rfl | exact trivial | exact ⟨Or.inr rfl, Fit_enI⟩ | exact Fit_enI | exact Or.inr rfl | exact Or.inl rfl | exact fun x hx => absurd hx (by omega) | exact ⟨Or.inl rfl, fun x hx => absurd hx (by omega)⟩)) | (first | exact rfl | exact trivial | exact ⟨Or.inr rfl, Fit_enI⟩ | exact Fit_enI | exact Or.inr rfl | exact Or.inl rfl | exact fun x hx => absurd hx (by omega) | exact ⟨Or.inl rfl, fun x hx => absurd hx (by omega)⟩)))); done)) | grind))
      refine sq ctNo_ok ?_
      simp only [go_sem, Nat.reduceLeDiff, Nat.reduceLT, Nat.reduceAdd, Nat.reduceMul, Nat.reduceSub, Nat.reduceEqDiff, Nat.reduceBEq, Int.reduceToNat, reduceCtorEq]
      refine condM rfl trivial (fun hc => ?_) (fun hc => ?_)
      · replace H := cond_t hc H
        refine sq ctNo_ok ?_
        simp only [go_sem, Nat.reduceLeDiff, Nat.reduceLT, Nat.reduceAdd, Nat.reduceMul, Nat.reduceSub, Nat.reduceEqDiff, Nat.reduceBEq, Int.reduceToNat, reduceCtorEq]
        repeat ((with_reducible refine And.intro ?_ ?_); focus (first | (with_reducible trivial) | omega | grind))
        refine rg ctNo_ok ?_
        simp only [go_sem, Nat.reduceLeDiff, Nat.reduceLT, Nat.reduceAdd, Nat.reduceMul, Nat.reduceSub, Nat.reduceEqDiff, Nat.reduceBEq, Int.reduceToNat, reduceCtorEq]
        obtain rfl := Option.some.inj H
        refine ⟨[0, 1, 2], ?_, ?_, [], ?_, ?_, rfl⟩
        · simp only [List.length_cons, List.length_nil, Nat.zero_mul, Nat.add_zero, fzV, fzL, fzOb, fzObL, fzH, fzHF, fzB, fzObB, fzObH, inL, rowOb, geth, cond_true, cond_false, Bool.or_false, Bool.or_true, Bool.false_or, Bool.true_or, and_self, true_and, and_true, Nat.reduceEqDiff, Nat.reduceBEq, beq_self_eq_true, sub_enR0, Nat.reduceAdd, Nat.zero_add, Nat.le_refl, List.nil_append]
          try (and_intros <;> first | trivial | omega | (intro x y _ _; repeat (first | exact nfR_lit (by simp only [nrefL, nref, and_self]) | exact nfR_enI | (refine nfR_app (fun x y => ?_) (fun x y => ?_)) | (refine nfR_ins (fun x y => ?_) (fun x y => ?_)) | (refine nfR_del (fun x y => ?_)) | (refine nfR_upc (fun x y => ?_) (by simp only [nrefL, nref, and_self])) | (refine nfR_ovw (fun x y => ?_) (fun x y => ?_)) | exact nfR_getL (by simp only [nrefL, nref, and_self]))))
        · simp only [List.length_cons, List.length_nil, Nat.zero_mul, Nat.add_zero, fzV, fzL, fzOb, fzObL, fzH, fzHF, fzB, fzObB, fzObH, inL, rowOb, geth, cond_true, cond_false, Bool.or_false, Bool.or_true, Bool.false_or, Bool.true_or, and_self, true_and, and_true, Nat.reduceEqDiff, Nat.reduceBEq, beq_self_eq_true, sub_enR0, Nat.reduceAdd, Nat.zero_add, Nat.le_refl, List.nil_append]
          try (and_intros <;> first | trivial | omega | (intro x y _ _; repeat (first | exact nfR_lit (by simp only [nrefL, nref, and_self]) | exact nfR_enI | (refine nfR_app (fun x y => ?_) (fun x y => ?_)) | (refine nfR_ins (fun x y => ?_) (fun x y => ?_)) | (refine nfR_del (fun x y => ?_)) | (refine nfR_upc (fun x y => ?_) (by simp only [nrefL, nref, and_self])) | (refine nfR_ovw (fun x y => ?_) (fun x y => ?_)) | exact nfR_getL (by simp only [nrefL, nref, and_self]))))
        · simp only [List.length_cons, List.length_nil, Nat.zero_mul, Nat.add_zero, fzV, fzL, fzOb, fzObL, fzH, fzHF, fzB, fzObB, fzObH, inL, rowOb, geth, cond_true, cond_false, Bool.or_false, Bool.or_true, Bool.false_or, Bool.true_or, and_self, true_and, and_true, Nat.reduceEqDiff, Nat.reduceBEq, beq_self_eq_true, sub_enR0, Nat.reduceAdd, Nat.zero_add, Nat.le_refl, List.nil_append]
          exact Cv_tup (CvL_cons (Cv_agg (CvL_cons (Cv_ronil (α := TWakeRule)) CvL_nil)) (CvL_cons Cv_int CvL_nil))
        · simp only [List.length_cons, List.length_nil, Nat.zero_mul, Nat.add_zero, fzV, fzL, fzOb, fzObL, fzH, fzHF, fzB, fzObB, fzObH, inL, rowOb, geth, cond_true, cond_false, Bool.or_false, Bool.or_true, Bool.false_or, Bool.true_or, and_self, true_and, and_true, Nat.reduceEqDiff, Nat.reduceBEq, beq_self_eq_true, sub_enR0, Nat.reduceAdd, Nat.zero_add, Nat.le_refl, List.nil_append, CvH]
      replace H := cond_f hc H
      refine rg ctNo_ok ?_
      simp only [go_sem, Nat.reduceLeDiff, Nat.reduceLT, Nat.reduceAdd, Nat.reduceMul, Nat.reduceSub, Nat.reduceEqDiff, Nat.reduceBEq, Int.reduceToNat, reduceCtorEq]
      refine seqM ?_
      obtain ⟨r3, e4, H⟩ := Option.bind_eq_some_iff.1 H
      refine rg ct24t1_ok ?_
      simp only [go_sem, Nat.reduceLeDiff, Nat.reduceLT, Nat.reduceAdd, Nat.reduceMul, Nat.reduceSub, Nat.reduceEqDiff, Nat.reduceBEq, Int.reduceToNat, reduceCtorEq, ct24t1_39, body39, e4]
      repeat ((with_reducible refine And.intro ?_ ?_); focus (first | (with_reducible trivial) | omega | (intro x y _ _; (repeat (first | exact nfR_enI | exact nfR_lit (by simp only [nrefL, nref, and_self]) | (refine nfR_app (fun x y => ?_) (fun x y => ?_)) | (refine nfR_ins (fun x y => ?_) (fun x y => ?_)) | (refine nfR_del (fun x y => ?_)) | (refine nfR_upc (fun x y => ?_) (by simp only [nrefL, nref, and_self])) | (refine nfR_ovw (fun x y => ?_) (fun x y => ?_)) | exact nfR_getL (by simp only [nrefL, nref, and_self]))); done) | (intro x hx; (repeat (first | (exfalso; omega) | (rcases x with _ | x; first | (and_intros <;> (first | exact rfl | exact trivial | exact ⟨Or.inr rfl, Fit_enI⟩ | exact Fit_enI | exact Or.inr rfl | exact Or.inl rfl | exact fun x hx => absurd hx (by omega) | exact ⟨Or.inl rfl, fun x hx => absurd hx (by omega)⟩)) | (first | exact rfl | exact trivial | exact ⟨Or.inr rfl, Fit_enI⟩ | exact Fit_enI | exact Or.inr rfl | exact Or.inl rfl | exact fun x hx => absurd hx (by omega) | exact ⟨Or.inl rfl, fun x hx => absurd hx (by omega)⟩)))); done) | (and_intros <;> first | (with_reducible trivial) | omega | assumption | (intro x y _ _; (repeat (first | exact nfR_enI | exact nfR_lit (by simp only [nrefL, nref, and_self]) | (refine nfR_app (fun x y => ?_) (fun x y => ?_)) | (refine nfR_ins (fun x y => ?_) (fun x y => ?_)) | (refine nfR_del (fun x y => ?_)) | (refine nfR_upc (fun x y => ?_) (by simp only [nrefL, nref, and_self])) | (refine nfR_ovw (fun x y => ?_) (fun x y => ?_)) | exact nfR_getL (by simp only [nrefL, nref, and_self]))); done) | (intro x hx; (repeat (first | (exfalso; omega) | (rcases x with _ | x; first | (and_intros <;> (first | exact rfl | exact trivial | exact ⟨Or.inr rfl, Fit_enI⟩ | exact Fit_enI | exact Or.inr rfl | exact Or.inl rfl | exact fun x hx => absurd hx (by omega) | exact ⟨Or.inl rfl, fun x hx => absurd hx (by omega)⟩)) | (first | exact rfl | exact trivial | exact ⟨Or.inr rfl, Fit_enI⟩ | exact Fit_enI | exact Or.inr rfl | exact Or.inl rfl | exact fun x hx => absurd hx (by omega) | exact ⟨Or.inl rfl, fun x hx => absurd hx (by omega)⟩)))); done)) | grind))
      refine seqM ?_
      refine blkM ?_
      refine seqM ?_
      obtain ⟨r5, e6, H⟩ := Option.bind_eq_some_iff.1 H
      refine rg ct24t2_ok ?_
      simp only [go_sem, Nat.reduceLeDiff, Nat.reduceLT, Nat.reduceAdd, Nat.reduceMul, Nat.reduceSub, Nat.reduceEqDiff, Nat.reduceBEq, Int.reduceToNat, reduceCtorEq, ct24t2_17, body17, e6]
      repeat ((with_reducible refine And.intro ?_ ?_); focus (first | (with_reducible trivial) | omega | (intro x y _ _; (repeat (first | exact nfR_enI | exact nfR_lit (by simp only [nrefL, nref, and_self]) | (refine nfR_app (fun x y => ?_) (fun x y => ?_)) | (refine nfR_ins (fun x y => ?_) (fun x y => ?_)) | (refine nfR_del (fun x y => ?_)) | (refine nfR_upc (fun x y => ?_) (by simp only [nrefL, nref, and_self])) | (refine nfR_ovw (fun x y => ?_) (fun x y => ?_)) | exact nfR_getL (by simp only [nrefL, nref, and_self]))); done) | (intro x hx; (repeat (first | (exfalso; omega) | (rcases x with _ | x; first | (and_intros <;> (first | exact rfl | exact trivial | exact ⟨Or.inr rfl, Fit_enI⟩ | exact Fit_enI | exact Or.inr rfl | exact Or.inl rfl | exact fun x hx => absurd hx (by omega) | exact ⟨Or.inl rfl, fun x hx => absurd hx (by omega)⟩)) | (first | exact rfl | exact trivial | exact ⟨Or.inr rfl, Fit_enI⟩ | exact Fit_enI | exact Or.inr rfl | exact Or.inl rfl | exact fun x hx => absurd hx (by omega) | exact ⟨Or.inl rfl, fun x hx => absurd hx (by omega)⟩)))); done) | (and_intros <;> first | (with_reducible trivial) | omega | assumption | (intro x y _ _; (repeat (first | exact nfR_enI | exact nfR_lit (by simp only [nrefL, nref, and_self]) | (refine nfR_app (fun x y => ?_) (fun x y => ?_)) | (refine nfR_ins (fun x y => ?_) (fun x y => ?_)) | (refine nfR_del (fun x y => ?_)) | (refine nfR_upc (fun x y => ?_) (by simp only [nrefL, nref, and_self])) | (refine nfR_ovw (fun x y => ?_) (fun x y => ?_)) | exact nfR_getL (by simp only [nrefL, nref, and_self]))); done) | (intro x hx; (repeat (first | (exfalso; omega) | (rcases x with _ | x; first | (and_intros <;> (first | exact rfl | exact trivial | exact ⟨Or.inr rfl, Fit_enI⟩ | exact Fit_enI | exact Or.inr rfl | exact Or.inl rfl | exact fun x hx => absurd hx (by omega) | exact ⟨Or.inl rfl, fun x hx => absurd hx (by omega)⟩)) | (first | exact rfl | exact trivial | exact ⟨Or.inr rfl, Fit_enI⟩ | exact Fit_enI | exact Or.inr rfl | exact Or.inl rfl | exact fun x hx => absurd hx (by omega) | exact ⟨Or.inl rfl, fun x hx => absurd hx (by omega)⟩)))); done)) | grind))
      refine condM rfl trivial (fun hc => ?_) (fun hc => ?_)
      · replace H := cond_t hc H
        refine sq ctNo_ok ?_
        simp only [go_sem, Nat.reduceLeDiff, Nat.reduceLT, Nat.reduceAdd, Nat.reduceMul, Nat.reduceSub, Nat.reduceEqDiff, Nat.reduceBEq, Int.reduceToNat, reduceCtorEq]
        repeat ((with_reducible refine And.intro ?_ ?_); focus (first | (with_reducible trivial) | omega | grind))
        refine rg ctNo_ok ?_
        simp only [go_sem, Nat.reduceLeDiff, Nat.reduceLT, Nat.reduceAdd, Nat.reduceMul, Nat.reduceSub, Nat.reduceEqDiff, Nat.reduceBEq, Int.reduceToNat, reduceCtorEq]
        obtain rfl := Option.some.inj H
        refine ⟨[0, 1, 2], ?_, ?_, [], ?_, ?_, rfl⟩
        · simp only [List.length_cons, List.length_nil, Nat.zero_mul, Nat.add_zero, fzV, fzL, fzOb, fzObL, fzH, fzHF, fzB, fzObB, fzObH, inL, rowOb, geth, cond_true, cond_false, Bool.or_false, Bool.or_true, Bool.false_or, Bool.true_or, and_self, true_and, and_true, Nat.reduceEqDiff, Nat.reduceBEq, beq_self_eq_true, sub_enR0, Nat.reduceAdd, Nat.zero_add, Nat.le_refl, List.nil_append]
          try (and_intros <;> first | trivial | omega | (intro x y _ _; repeat (first | exact nfR_lit (by simp only [nrefL, nref, and_self]) | exact nfR_enI | (refine nfR_app (fun x y => ?_) (fun x y => ?_)) | (refine nfR_ins (fun x y => ?_) (fun x y => ?_)) | (refine nfR_del (fun x y => ?_)) | (refine nfR_upc (fun x y => ?_) (by simp only [nrefL, nref, and_self])) | (refine nfR_ovw (fun x y => ?_) (fun x y => ?_)) | exact nfR_getL (by simp only [nrefL, nref, and_self]))))
        · simp only [List.length_cons, List.length_nil, Nat.zero_mul, Nat.add_zero, fzV, fzL, fzOb, fzObL, fzH, fzHF, fzB, fzObB, fzObH, inL, rowOb, geth, cond_true, cond_false, Bool.or_false, Bool.or_true, Bool.false_or, Bool.true_or, and_self, true_and, and_true, Nat.reduceEqDiff, Nat.reduceBEq, beq_self_eq_true, sub_enR0, Nat.reduceAdd, Nat.zero_add, Nat.le_refl, List.nil_append]
          try (and_intros <;> first | trivial | omega | (intro x y _ _; repeat (first | exact nfR_lit (by simp only [nrefL, nref, and_self]) | exact nfR_enI | (refine nfR_app (fun x y => ?_) (fun x y => ?_)) | (refine nfR_ins (fun x y => ?_) (fun x y => ?_)) | (refine nfR_del (fun x y => ?_)) | (refine nfR_upc (fun x y => ?_) (by simp only [nrefL, nref, and_self])) | (refine nfR_ovw (fun x y => ?_) (fun x y => ?_)) | exact nfR_getL (by simp only [nrefL, nref, and_self]))))
        · simp only [List.length_cons, List.length_nil, Nat.zero_mul, Nat.add_zero, fzV, fzL, fzOb, fzObL, fzH, fzHF, fzB, fzObB, fzObH, inL, rowOb, geth, cond_true, cond_false, Bool.or_false, Bool.or_true, Bool.false_or, Bool.true_or, and_self, true_and, and_true, Nat.reduceEqDiff, Nat.reduceBEq, beq_self_eq_true, sub_enR0, Nat.reduceAdd, Nat.zero_add, Nat.le_refl, List.nil_append]
          exact Cv_tup (CvL_cons (Cv_agg (CvL_cons (Cv_ronil (α := TWakeRule)) CvL_nil)) (CvL_cons Cv_int CvL_nil))
        · simp only [List.length_cons, List.length_nil, Nat.zero_mul, Nat.add_zero, fzV, fzL, fzOb, fzObL, fzH, fzHF, fzB, fzObB, fzObH, inL, rowOb, geth, cond_true, cond_false, Bool.or_false, Bool.or_true, Bool.false_or, Bool.true_or, and_self, true_and, and_true, Nat.reduceEqDiff, Nat.reduceBEq, beq_self_eq_true, sub_enR0, Nat.reduceAdd, Nat.zero_add, Nat.le_refl, List.nil_append, CvH]
      replace H := cond_f hc H
      refine sq ctNo_ok ?_
      simp only [go_sem, Nat.reduceLeDiff, Nat.reduceLT, Nat.reduceAdd, Nat.reduceMul, Nat.reduceSub, Nat.reduceEqDiff, Nat.reduceBEq, Int.reduceToNat, reduceCtorEq]
      refine condM rfl trivial (fun hc => ?_) (fun hc => ?_)
      · replace H := cond_t hc H
        refine sq ctNo_ok ?_
        simp only [go_sem, Nat.reduceLeDiff, Nat.reduceLT, Nat.reduceAdd, Nat.reduceMul, Nat.reduceSub, Nat.reduceEqDiff, Nat.reduceBEq, Int.reduceToNat, reduceCtorEq]
        repeat ((with_reducible refine And.intro ?_ ?_); focus (first | (with_reducible trivial) | omega | grind))
        refine rg ctNo_ok ?_
        simp only [go_sem, Nat.reduceLeDiff, Nat.reduceLT, Nat.reduceAdd, Nat.reduceMul, Nat.reduceSub, Nat.reduceEqDiff, Nat.reduceBEq, Int.reduceToNat, reduceCtorEq]
        obtain rfl := Option.some.inj H
        refine ⟨[0, 1, 2], ?_, ?_, [], ?_, ?_, rfl⟩
        · simp only [List.length_cons, List.length_nil, Nat.zero_mul, Nat.add_zero, fzV, fzL, fzOb, fzObL, fzH, fzHF, fzB, fzObB, fzObH, inL, rowOb, geth, cond_true, cond_false, Bool.or_false, Bool.or_true, Bool.false_or, Bool.true_or, and_self, true_and, and_true, Nat.reduceEqDiff, Nat.reduceBEq, beq_self_eq_true, sub_enR0, Nat.reduceAdd, Nat.zero_add, Nat.le_refl, List.nil_append]
          try (and_intros <;> first | trivial | omega | (intro x y _ _; repeat (first | exact nfR_lit (by simp only [nrefL, nref, and_self]) | exact nfR_enI | (refine nfR_app (fun x y => ?_) (fun x y => ?_)) | (refine nfR_ins (fun x y => ?_) (fun x y => ?_)) | (refine nfR_del (fun x y => ?_)) | (refine nfR_upc (fun x y => ?_) (by simp only [nrefL, nref, and_self])) | (refine nfR_ovw (fun x y => ?_) (fun x y => ?_)) | exact nfR_getL (by simp only [nrefL, nref, and_self]))))
        · simp only [List.length_cons, List.length_nil, Nat.zero_mul, Nat.add_zero, fzV, fzL, fzOb, fzObL, fzH, fzHF, fzB, fzObB, fzObH, inL, rowOb, geth, cond_true, cond_false, Bool.or_false, Bool.or_true, Bool.false_or, Bool.true_or, and_self, true_and, and_true, Nat.reduceEqDiff, Nat.reduceBEq, beq_self_eq_true, sub_enR0, Nat.reduceAdd, Nat.zero_add, Nat.le_refl, List.nil_append]
          try (and_intros <;> first | trivial | omega | (intro x y _ _; repeat (first | exact nfR_lit (by simp only [nrefL, nref, and_self]) | exact nfR_enI | (refine nfR_app (fun x y => ?_) (fun x y => ?_)) | (refine nfR_ins (fun x y => ?_) (fun x y => ?_)) | (refine nfR_del (fun x y => ?_)) | (refine nfR_upc (fun x y => ?_) (by simp only [nrefL, nref, and_self])) | (refine nfR_ovw (fun x y => ?_) (fun x y => ?_)) | exact nfR_getL (by simp only [nrefL, nref, and_self]))))
        · simp only [List.length_cons, List.length_nil, Nat.zero_mul, Nat.add_zero, fzV, fzL, fzOb, fzObL, fzH, fzHF, fzB, fzObB, fzObH, inL, rowOb, geth, cond_true, cond_false, Bool.or_false, Bool.or_true, Bool.false_or, Bool.true_or, and_self, true_and, and_true, Nat.reduceEqDiff, Nat.reduceBEq, beq_self_eq_true, sub_enR0, Nat.reduceAdd, Nat.zero_add, Nat.le_refl, List.nil_append]
          exact Cv_tup (CvL_cons (Cv_agg (CvL_cons (Cv_ronil (α := TWakeRule)) CvL_nil)) (CvL_cons Cv_int CvL_nil))
        · simp only [List.length_cons, List.length_nil, Nat.zero_mul, Nat.add_zero, fzV, fzL, fzOb, fzObL, fzH, fzHF, fzB, fzObB, fzObH, inL, rowOb, geth, cond_true, cond_false, Bool.or_false, Bool.or_true, Bool.false_or, Bool.true_or, and_self, true_and, and_true, Nat.reduceEqDiff, Nat.reduceBEq, beq_self_eq_true, sub_enR0, Nat.reduceAdd, Nat.zero_add, Nat.le_refl, List.nil_append, CvH]
      replace H := cond_f hc H
      refine sq ctNo_ok ?_
      simp only [go_sem, Nat.reduceLeDiff, Nat.reduceLT, Nat.reduceAdd, Nat.reduceMul, Nat.reduceSub, Nat.reduceEqDiff, Nat.reduceBEq, Int.reduceToNat, reduceCtorEq]
      repeat ((with_reducible refine And.intro ?_ ?_); focus (first | (with_reducible trivial) | omega | (intro x y _ _; (repeat (first | exact nfR_enI | exact nfR_lit (by simp only [nrefL, nref, and_self]) | (refine nfR_app (fun x y => ?_) (fun x y => ?_)) | (refine nfR_ins (fun x y => ?_) (fun x y => ?_)) | (refine nfR_del (fun x y => ?_)) | (refine nfR_upc (fun x y => ?_) (by simp only [nrefL, nref, and_self])) | (refine nfR_ovw (fun x y => ?_) (fun x y => ?_)) | exact nfR_getL (by simp only [nrefL, nref, and_self]))); done) | (intro x hx; (repeat (first | (exfalso; omega) | (rcases x with _ | x; first | (and_intros <;> (first | exact rfl | exact trivial | exact ⟨Or.inr rfl, Fit_enI⟩ | exact Fit_enI | exact Or.inr rfl | exact Or.inl rfl | exact fun x hx => absurd hx (by omega) | exact ⟨Or.inl rfl, fun x hx => absurd hx (by omega)⟩)) | (first | exact rfl | exact trivial | exact ⟨Or.inr rfl, Fit_enI⟩ | exact Fit_enI | exact Or.inr rfl | exact Or.inl rfl | exact fun x hx => absurd hx (by omega) | exact ⟨Or.inl rfl, fun x hx => absurd hx (by omega)⟩)))); done) | (and_intros <;> first | (with_reducible trivial) | omega | assumption | (intro x y _ _; (repeat (first | exact nfR_enI | exact nfR_lit (by simp only [nrefL, nref, and_self]) | (refine nfR_app (fun x y => ?_) (fun x y => ?_)) | (refine nfR_ins (fun x y => ?_) (fun x y => ?_)) | (refine nfR_del (fun x y => ?_)) | (refine nfR_upc (fun x y => ?_) (by simp only [nrefL, nref, and_self])) | (refine nfR_ovw (fun x y => ?_) (fun x y => ?_)) | exact nfR_getL (by simp only [nrefL, nref, and_self]))); done) | (intro x hx; (repeat (first | (exfalso; omega) | (rcases x with _ | x; first | (and_intros <;> (first | exact rfl | exact trivial | exact ⟨Or.inr rfl, Fit_enI⟩ | exact Fit_enI | exact Or.inr rfl | exact Or.inl rfl | exact fun x hx => absurd hx (by omega) | exact ⟨Or.inl rfl, fun x hx => absurd hx (by omega)⟩)) | (first | exact rfl | exact trivial | exact ⟨Or.inr rfl, Fit_enI⟩ | exact Fit_enI | exact Or.inr rfl | exact Or.inl rfl | exact fun x hx => absurd hx (by omega) | exact ⟨Or.inl rfl, fun x hx => absurd hx (by omega)⟩)))); done)) | grind))
      refine condM rfl trivial (fun hc => ?_) (fun hc => ?_)
      · replace H := cond_t hc H
        refine sq ctNo_ok ?_
        simp only [go_sem, Nat.reduceLeDiff, Nat.reduceLT, Nat.reduceAdd, Nat.reduceMul, Nat.reduceSub, Nat.reduceEqDiff, Nat.reduceBEq, Int.reduceToNat, reduceCtorEq]
        repeat ((with_reducible refine And.intro ?_ ?_); focus (first | (with_reducible trivial) | omega | grind))
        refine rg ctNo_ok ?_
        simp only [go_sem, Nat.reduceLeDiff, Nat.reduceLT, Nat.reduceAdd, Nat.reduceMul, Nat.reduceSub, Nat.reduceEqDiff, Nat.reduceBEq, Int.reduceToNat, reduceCtorEq]
        obtain rfl := Option.some.inj H
        refine ⟨[0, 1, 2], ?_, ?_, [], ?_, ?_, rfl⟩
        · simp only [List.length_cons, List.length_nil, Nat.zero_mul, Nat.add_zero, fzV, fzL, fzOb, fzObL, fzH, fzHF, fzB, fzObB, fzObH, inL, rowOb, geth, cond_true, cond_false, Bool.or_false, Bool.or_true, Bool.false_or, Bool.true_or, and_self, true_and, and_true, Nat.reduceEqDiff, Nat.reduceBEq, beq_self_eq_true, sub_enR0, Nat.reduceAdd, Nat.zero_add, Nat.le_refl, List.nil_append]
          try (and_intros <;> first | trivial | omega | (intro x y _ _; repeat (first | exact nfR_lit (by simp only [nrefL, nref, and_self]) | exact nfR_enI | (refine nfR_app (fun x y => ?_) (fun x y => ?_)) | (refine nfR_ins (fun x y => ?_) (fun x y => ?_)) | (refine nfR_del (fun x y => ?_)) | (refine nfR_upc (fun x y => ?_) (by simp only [nrefL, nref, and_self])) | (refine nfR_ovw (fun x y => ?_) (fun x y => ?_)) | exact nfR_getL (by simp only [nrefL, nref, and_self]))))
        · simp only [List.length_cons, List.length_nil, Nat.zero_mul, Nat.add_zero, fzV, fzL, fzOb, fzObL, fzH, fzHF, fzB, fzObB, fzObH, inL, rowOb, geth, cond_true, cond_false, Bool.or_false, Bool.or_true, Bool.false_or, Bool.true_or, and_self, true_and, and_true, Nat.reduceEqDiff, Nat.reduceBEq, beq_self_eq_true, sub_enR0, Nat.reduceAdd, Nat.zero_add, Nat.le_refl, List.nil_append]
          try (and_intros <;> first | trivial | omega | (intro x y _ _; repeat (first | exact nfR_lit (by simp only [nrefL, nref, and_self]) | exact nfR_enI | (refine nfR_app (fun x y => ?_) (fun x y => ?_)) | (refine nfR_ins (fun x y => ?_) (fun x y => ?_)) | (refine nfR_del (fun x y => ?_)) | (refine nfR_upc (fun x y => ?_) (by simp only [nrefL, nref, and_self])) | (refine nfR_ovw (fun x y => ?_) (fun x y => ?_)) | exact nfR_getL (by simp only [nrefL, nref, and_self]))))
        · simp only [List.length_cons, List.length_nil, Nat.zero_mul, Nat.add_zero, fzV, fzL, fzOb, fzObL, fzH, fzHF, fzB, fzObB, fzObH, inL, rowOb, geth, cond_true, cond_false, Bool.or_false, Bool.or_true, Bool.false_or, Bool.true_or, and_self, true_and, and_true, Nat.reduceEqDiff, Nat.reduceBEq, beq_self_eq_true, sub_enR0, Nat.reduceAdd, Nat.zero_add, Nat.le_refl, List.nil_append]
          exact Cv_tup (CvL_cons (Cv_agg (CvL_cons (Cv_ronil (α := TWakeRule)) CvL_nil)) (CvL_cons Cv_int CvL_nil))
        · simp only [List.length_cons, List.length_nil, Nat.zero_mul, Nat.add_zero, fzV, fzL, fzOb, fzObL, fzH, fzHF, fzB, fzObB, fzObH, inL, rowOb, geth, cond_true, cond_false, Bool.or_false, Bool.or_true, Bool.false_or, Bool.true_or, and_self, true_and, and_true, Nat.reduceEqDiff, Nat.reduceBEq, beq_self_eq_true, sub_enR0, Nat.reduceAdd, Nat.zero_add, Nat.le_refl, List.nil_append, CvH]
      replace H := cond_f hc H
      refine rg ctNo_ok ?_
      simp only [go_sem, Nat.reduceLeDiff, Nat.reduceLT, Nat.reduceAdd, Nat.reduceMul, Nat.reduceSub, Nat.reduceEqDiff, Nat.reduceBEq, Int.reduceToNat, reduceCtorEq]
      refine seqM ?_
      obtain ⟨r7, e8, H⟩ := Option.bind_eq_some_iff.1 H
      obtain ⟨f9, H⟩ := need_some.1 H
      replace f9 := insb_iff.1 f9
      refine draw_rule shT_ok ct24t3_ok 3 (by kernel_rfl) (by kernel_rfl) ?_
      intro an han
      simp only [d_nil, d_cons, nxtD, refsOp, refs, refsL, mask, maskF, place, placeF, okLog, pairOk, hit, inL, slotsF, ren, renL, rnN, nrH, nrB, nrL, nr, dead0, deadS, List.replicate_zero, List.replicate_succ, Nat.sub_self, Nat.add_zero, Nat.zero_add, Nat.reduceSub, Nat.not_lt_zero, Nat.zero_le, Nat.lt_add_one, go_sem, Nat.reduceLeDiff, Nat.reduceLT, Nat.reduceAdd, Nat.reduceMul, Nat.reduceSub, Nat.reduceEqDiff, Nat.reduceBEq, Int.reduceToNat, reduceCtorEq, ct24t3_40, insN, ct24t3_41, body41, e8, f9]
      repeat ((with_reducible refine And.intro ?_ ?_); focus (first | (with_reducible trivial) | (show anB _ _ _ = true; subst han; kernel_rfl) | (show (anB _ _ _ && _) = true; subst han; kernel_rfl) | omega | (intro x y _ _; (repeat (first | exact nrR_lit (by simp only [nrefL, nref, and_self]) | exact nrR_enI | (refine nrR_app (fun x y => ?_) (fun x y => ?_)) | (refine nrR_ins (fun x y => ?_) (fun x y => ?_)) | (refine nrR_del (fun x y => ?_)))); done) | (intro x y _ _; (repeat (first | exact nfR_enI | exact nfR_lit (by simp only [nrefL, nref, and_self]))); done) | (intro x hx; (repeat (first | (exfalso; omega) | (rcases x with _ | x; first | (and_intros <;> (first | exact rfl | exact trivial | exact ⟨Or.inr rfl, Fit_enI⟩ | exact Fit_enI | exact Or.inr rfl | exact Or.inl rfl | exact fun x hx => absurd hx (by omega) | exact ⟨Or.inl rfl, fun x hx => absurd hx (by omega)⟩)) | (first | exact rfl | exact trivial | exact ⟨Or.inr rfl, Fit_enI⟩ | exact Fit_enI | exact Or.inr rfl | exact Or.inl rfl | exact fun x hx => absurd hx (by omega) | exact ⟨Or.inl rfl, fun x hx => absurd hx (by omega)⟩)))); done) | (and_intros <;> first | (with_reducible trivial) | omega | assumption | (intro x y _ _; (repeat (first | exact nrR_lit (by simp only [nrefL, nref, and_self]) | exact nrR_enI | (refine nrR_app (fun x y => ?_) (fun x y => ?_)) | (refine nrR_ins (fun x y => ?_) (fun x y => ?_)) | (refine nrR_del (fun x y => ?_)))); done) | (intro x y _ _; (repeat (first | exact nfR_enI | exact nfR_lit (by simp only [nrefL, nref, and_self]))); done) | (intro x hx; (repeat (first | (exfalso; omega) | (rcases x with _ | x; first | (and_intros <;> (first | exact rfl | exact trivial | exact ⟨Or.inr rfl, Fit_enI⟩ | exact Fit_enI | exact Or.inr rfl | exact Or.inl rfl | exact fun x hx => absurd hx (by omega) | exact ⟨Or.inl rfl, fun x hx => absurd hx (by omega)⟩)) | (first | exact rfl | exact trivial | exact ⟨Or.inr rfl, Fit_enI⟩ | exact Fit_enI | exact Or.inr rfl | exact Or.inl rfl | exact fun x hx => absurd hx (by omega) | exact ⟨Or.inl rfl, fun x hx => absurd hx (by omega)⟩)))); done))))
      refine rg ctNo_ok ?_
      simp only [go_sem, Nat.reduceLeDiff, Nat.reduceLT, Nat.reduceAdd, Nat.reduceMul, Nat.reduceSub, Nat.reduceEqDiff, Nat.reduceBEq, Int.reduceToNat, reduceCtorEq]
      obtain rfl := Option.some.inj H
      refine ⟨[5, 0, 1, 2], ?_, ?_, [], ?_, ?_, rfl⟩
      · simp only [List.length_cons, List.length_nil, Nat.zero_mul, Nat.add_zero, fzV, fzL, fzOb, fzObL, fzH, fzHF, fzB, fzObB, fzObH, inL, rowOb, geth, cond_true, cond_false, Bool.or_false, Bool.or_true, Bool.false_or, Bool.true_or, and_self, true_and, and_true, Nat.reduceEqDiff, Nat.reduceBEq, beq_self_eq_true, sub_enR0, Nat.reduceAdd, Nat.zero_add, Nat.le_refl, List.nil_append]
        try (and_intros <;> first | trivial | omega | (intro x y _ _; repeat (first | exact nfR_lit (by simp only [nrefL, nref, and_self]) | exact nfR_enI | (refine nfR_app (fun x y => ?_) (fun x y => ?_)) | (refine nfR_ins (fun x y => ?_) (fun x y => ?_)) | (refine nfR_del (fun x y => ?_)) | (refine nfR_upc (fun x y => ?_) (by simp only [nrefL, nref, and_self])) | (refine nfR_ovw (fun x y => ?_) (fun x y => ?_)) | exact nfR_getL (by simp only [nrefL, nref, and_self]))))
      · simp only [List.length_cons, List.length_nil, Nat.zero_mul, Nat.add_zero, fzV, fzL, fzOb, fzObL, fzH, fzHF, fzB, fzObB, fzObH, inL, rowOb, geth, cond_true, cond_false, Bool.or_false, Bool.or_true, Bool.false_or, Bool.true_or, and_self, true_and, and_true, Nat.reduceEqDiff, Nat.reduceBEq, beq_self_eq_true, sub_enR0, Nat.reduceAdd, Nat.zero_add, Nat.le_refl, List.nil_append]
        try (and_intros <;> first | trivial | omega | (intro x y _ _; repeat (first | exact nfR_lit (by simp only [nrefL, nref, and_self]) | exact nfR_enI | (refine nfR_app (fun x y => ?_) (fun x y => ?_)) | (refine nfR_ins (fun x y => ?_) (fun x y => ?_)) | (refine nfR_del (fun x y => ?_)) | (refine nfR_upc (fun x y => ?_) (by simp only [nrefL, nref, and_self])) | (refine nfR_ovw (fun x y => ?_) (fun x y => ?_)) | exact nfR_getL (by simp only [nrefL, nref, and_self]))))
      · simp only [List.length_cons, List.length_nil, Nat.zero_mul, Nat.add_zero, fzV, fzL, fzOb, fzObL, fzH, fzHF, fzB, fzObB, fzObH, inL, rowOb, geth, cond_true, cond_false, Bool.or_false, Bool.or_true, Bool.false_or, Bool.true_or, and_self, true_and, and_true, Nat.reduceEqDiff, Nat.reduceBEq, beq_self_eq_true, sub_enR0, Nat.reduceAdd, Nat.zero_add, Nat.le_refl, List.nil_append]
        exact Cv_tup (CvL_cons (Cv_agg (CvL_cons (ro_row (ins_len f9 (by first | rfl | simp)) (ins_row f9 (by first | rfl | simp) (fun _ _ _ _ => rfl) (lit_row (f := c_TWakeRule) [p1] (fun _ _ => rfl) rfl))) CvL_nil)) (CvL_cons Cv_int CvL_nil))
      · simp only [List.length_cons, List.length_nil, Nat.zero_mul, Nat.add_zero, fzV, fzL, fzOb, fzObL, fzH, fzHF, fzB, fzObB, fzObH, inL, rowOb, geth, cond_true, cond_false, Bool.or_false, Bool.or_true, Bool.false_or, Bool.true_or, and_self, true_and, and_true, Nat.reduceEqDiff, Nat.reduceBEq, beq_self_eq_true, sub_enR0, Nat.reduceAdd, Nat.zero_add, Nat.le_refl, List.nil_append, CvH]
    · cases hb
  · unfold body24 at hb
    split at hb <;> cases hb
/-! hotspot/hotspotref36.Valid -/
noncomputable def F20 (p0 : TWakeRule) : Option (Bool) :=
  bif ((((((bLt p0.Id 0) || (bLt 255 p0.Id)) || (bLt p0.Group 0)) || (bLt 255 p0.Group)) || (bLt p0.Start 0)) || (bLt 1099511627776 p0.Start)) then (some false) else (bif ((((bLt p0.Every 0) || (bLt 4294967296 p0.Every)) || (bLt p0.Length 1)) || (bLt 4294967296 p0.Length)) then (some false) else (some ((bEq p0.Every 0) || (bLe p0.Length p0.Every))))
noncomputable def body20 : List AV → AR
  | [v0] => .pure (aK 5 k_TWakeRule v0 ∧ (F20 (g_TWakeRule (aL v0))).isSome = true) (.bool (gt (F20 (g_TWakeRule (aL v0)))))
  | _ => .fail
set_option maxHeartbeats 4000000 in
set_option maxRecDepth 20000 in
theorem ok20 : FnOk Try.prog 20 (pureC body20) := by
  refine pure_fnM body20 (rs := [.tmp 2]) Try.func20 (by kernel_rfl) rfl rfl ?_
  intro l ob v hb hob
  unfold body20 at hb
  split at hb
  · rename_i v0
    injection hb with q1 q2; subst q1 q2
    obtain ⟨hk0, hob⟩ := hob
    obtain ⟨r, H⟩ := Option.isSome_iff_exists.1 hob
    rw [H, gt_some]
    have hw0 := wA_TWakeRule hk0
    generalize g_TWakeRule (aL v0) = p0 at H hw0
    refine ⟨[.agg [.int .i64 p0.Id, .int .i64 p0.Start, .int .i64 p0.Every, .int .i64 p0.Length, .int .i64 p0.Group]], _, (fun E vs F => FR_wk1 hw0.1 F (fun vs F => F)), rfl, rfl, ?_⟩
    rw [Try.ntmps20]
    simp only [List.length_cons, List.length_nil, Nat.reduceAdd, Nat.reduceSub, List.replicate_succ, List.replicate_zero, List.cons_append, List.nil_append]
    unfold F20 at H
    try dsimp only at H
    refine sq ctNo_ok ?_
    simp only [go_sem, Nat.reduceLeDiff, Nat.reduceLT, Nat.reduceAdd, Nat.reduceMul, Nat.reduceSub, Nat.reduceEqDiff, Nat.reduceBEq, Int.reduceToNat, reduceCtorEq]
    refine seqM ?_
    refine sq ctNo_ok ?_
    simp only [go_sem, Nat.reduceLeDiff, Nat.reduceLT, Nat.reduceAdd, Nat.reduceMul, Nat.reduceSub, Nat.reduceEqDiff, Nat.reduceBEq, Int.reduceToNat, reduceCtorEq]
    repeat ((with_reducible refine And.intro ?_ ?_); focus (first | (with_reducible trivial) | omega | grind))
    refine condM rfl trivial (fun hc => ?_) (fun hc => ?_)
    · replace H := cond_t hc H
      refine sq ctNo_ok ?_
      simp only [go_sem, Nat.reduceLeDiff, Nat.reduceLT, Nat.reduceAdd, Nat.reduceMul, Nat.reduceSub, Nat.reduceEqDiff, Nat.reduceBEq, Int.reduceToNat, reduceCtorEq]
      refine rg ctNo_ok ?_
      simp only [go_sem, Nat.reduceLeDiff, Nat.reduceLT, Nat.reduceAdd, Nat.reduceMul, Nat.reduceSub, Nat.reduceEqDiff, Nat.reduceBEq, Int.reduceToNat, reduceCtorEq]
      obtain rfl := Option.some.inj H
      first | rfl | simp only [Bool.and_false, Bool.false_and, Bool.and_true, Bool.true_and]
    replace H := cond_f hc H
    refine rg ctNo_ok ?_
    simp only [go_sem, Nat.reduceLeDiff, Nat.reduceLT, Nat.reduceAdd, Nat.reduceMul, Nat.reduceSub, Nat.reduceEqDiff, Nat.reduceBEq, Int.reduceToNat, reduceCtorEq]
    refine seqM ?_
    refine sq ctNo_ok ?_
    simp only [go_sem, Nat.reduceLeDiff, Nat.reduceLT, Nat.reduceAdd, Nat.reduceMul, Nat.reduceSub, Nat.reduceEqDiff, Nat.reduceBEq, Int.reduceToNat, reduceCtorEq]
    repeat ((with_reducible refine And.intro ?_ ?_); focus (first | (with_reducible trivial) | omega | grind))
    refine condM rfl trivial (fun hc => ?_) (fun hc => ?_)
    · replace H := cond_t hc H
      refine sq ctNo_ok ?_
      simp only [go_sem, Nat.reduceLeDiff, Nat.reduceLT, Nat.reduceAdd, Nat.reduceMul, Nat.reduceSub, Nat.reduceEqDiff, Nat.reduceBEq, Int.reduceToNat, reduceCtorEq]
      refine rg ctNo_ok ?_
      simp only [go_sem, Nat.reduceLeDiff, Nat.reduceLT, Nat.reduceAdd, Nat.reduceMul, Nat.reduceSub, Nat.reduceEqDiff, Nat.reduceBEq, Int.reduceToNat, reduceCtorEq]
      obtain rfl := Option.some.inj H
      first | rfl | simp only [Bool.and_false, Bool.false_and, Bool.and_true, Bool.true_and]
    replace H := cond_f hc H
    refine rg ctNo_ok ?_
    simp only [go_sem, Nat.reduceLeDiff, Nat.reduceLT, Nat.reduceAdd, Nat.reduceMul, Nat.reduceSub, Nat.reduceEqDiff, Nat.reduceBEq, Int.reduceToNat, reduceCtorEq]
    refine sq ctNo_ok ?_
    simp only [go_sem, Nat.reduceLeDiff, Nat.reduceLT, Nat.reduceAdd, Nat.reduceMul, Nat.reduceSub, Nat.reduceEqDiff, Nat.reduceBEq, Int.reduceToNat, reduceCtorEq]
    repeat ((with_reducible refine And.intro ?_ ?_); focus (first | (with_reducible trivial) | omega | grind))
    refine rg ctNo_ok ?_
    simp only [go_sem, Nat.reduceLeDiff, Nat.reduceLT, Nat.reduceAdd, Nat.reduceMul, Nat.reduceSub, Nat.reduceEqDiff, Nat.reduceBEq, Int.reduceToNat, reduceCtorEq]
    obtain rfl := Option.some.inj H
    first | rfl | simp only [Bool.and_false, Bool.false_and, Bool.and_true, Bool.true_and]
  · cases hb
/-! hotspot/hotspotref36.ValidTable -/
noncomputable def ct33t0 : Ct := tab [(20, pureC body20)]
theorem ct33t0_ok : CtOk Try.prog ct33t0 := tab_cons ok20 <| tab_nil
theorem ct33t0_20 (l : List AV) (h : List ABlk) : ct33t0 20 l h = pureC body20 l h := rfl
noncomputable def F33_L1 (p0 : TWakeTable) (v1_1 : Int) : Option (Lp (Int) ((Unit) ⊕ (Bool))) :=
  bif (bLt v1_1 (p0.List.length : Nat)) then (need (inb v1_1 p0.List.length) <| (F20 (gd p0.List v1_1.toNat)).bind fun r2 => need (bif ((!(!r2)) && (bLt 0 v1_1)) then inb (wr .i64 (v1_1 - 1)) p0.List.length else true) <| need (bif ((!(!r2)) && (bLt 0 v1_1)) then inb v1_1 p0.List.length else true) <| bif ((!r2) || ((bLt 0 v1_1) && (bLe ((gd p0.List v1_1.toNat).Id) ((gd p0.List ((wr .i64 (v1_1 - 1)).toNat)).Id)))) then (some (.done (.inr false))) else (some (.next (wr .i64 (v1_1 + 1))))) else (some (.done (.inl ())))
noncomputable def F33 (p0 : TWakeTable) : Option (Bool) :=
  bif (bLt 32 (p0.List.length : Nat)) then (some false) else (lp (loopD (fun s => F33_L1 p0 s) 0) (fun e => some true) some)
noncomputable def body33 : List AV → AR
  | [v0] => .pure (aK 1 k_TWakeTable v0 ∧ (F33 (g_TWakeTable (aL v0))).isSome = true) (.bool (gt (F33 (g_TWakeTable (aL v0)))))
  | _ => .fail
set_option maxHeartbeats 4000000 in
set_option maxRecDepth 20000 in
theorem ok33 : FnOk Try.prog 33 (pureC body33) := by
  refine pure_fnM body33 (rs := [.tmp 2]) Try.func33 (by kernel_rfl) rfl rfl ?_
  intro l ob v hb hob
  unfold body33 at hb
  split at hb
  · rename_i v0
    injection hb with q1 q2; subst q1 q2
    obtain ⟨hk0, hob⟩ := hob
    obtain ⟨r, H⟩ := Option.isSome_iff_exists.1 hob
    rw [H, gt_some]
    have hw0 := wA_TWakeTable hk0
    generalize g_TWakeTable (aL v0) = p0 at H hw0
    refine ⟨[.agg [.ro 5 p0.List.length false (enR c_TWakeRule p0.List)]], _, (fun E vs F => FR_wk1 hw0.1 F (fun vs F => F)), rfl, rfl, ?_⟩
    rw [Try.ntmps33]
    simp only [List.length_cons, List.length_nil, Nat.reduceAdd, Nat.reduceSub, List.replicate_succ, List.replicate_zero, List.cons_append, List.nil_append]
    unfold F33 at H
    try dsimp only at H
    refine sq ctNo_ok ?_
    simp only [go_sem, Nat.reduceLeDiff, Nat.reduceLT, Nat.reduceAdd, Nat.reduceMul, Nat.reduceSub, Nat.reduceEqDiff, Nat.reduceBEq, Int.reduceToNat, reduceCtorEq]
    refine seqM ?_
    refine sq ctNo_ok ?_
    simp only [go_sem, Nat.reduceLeDiff, Nat.reduceLT, Nat.reduceAdd, Nat.reduceMul, Nat.reduceSub, Nat.reduceEqDiff, Nat.reduceBEq, Int.reduceToNat, reduceCtorEq]
    repeat ((with_reducible refine And.intro ?_ ?_); focus (first | (with_reducible trivial) | omega | (intro x y _ _; (repeat (first | exact nfR_enI | exact nfR_lit (by simp only [nrefL, nref, and_self]) | (refine nfR_app (fun x y => ?_) (fun x y => ?_)) | (refine nfR_ins (fun x y => ?_) (fun x y => ?_)) | (refine nfR_del (fun x y => ?_)) | (refine nfR_upc (fun x y => ?_) (by simp only [nrefL, nref, and_self])) | (refine nfR_ovw (fun x y => ?_) (fun x y => ?_)) | exact nfR_getL (by simp only [nrefL, nref, and_self]))); done) | (intro x hx; (repeat (first | (exfalso; omega) | (rcases x with _ | x; first | (and_intros <;> (first | exact rfl | exact trivial | exact ⟨Or.inr rfl, Fit_enI⟩ | exact Fit_enI | exact Or.inr rfl | exact Or.inl rfl | exact fun x hx => absurd hx (by omega) | exact ⟨Or.inl rfl, fun x hx => absurd hx (by omega)⟩)) | (first | exact rfl | exact trivial | exact ⟨Or.inr rfl, Fit_enI⟩ | exact Fit_enI | exact Or.inr rfl | exact Or.inl rfl | exact fun x hx => absurd hx (by omega) | exact ⟨Or.inl rfl, fun x hx => absurd hx (by omega)⟩)))); done) | (and_intros <;> first | (with_reducible trivial) | omega | assumption | (intro x y _ _; (repeat (first | exact nfR_enI | exact nfR_lit (by simp only [nrefL, nref, and_self]) | (refine nfR_app (fun x y => ?_) (fun x y => ?_)) | (refine nfR_ins (fun x y => ?_) (fun x y => ?_)) | (refine nfR_del (fun x y => ?_)) | (refine nfR_upc (fun x y => ?_) (by simp only [nrefL, nref, and_self])) | (refine nfR_ovw (fun x y => ?_) (fun x y => ?_)) | exact nfR_getL (by simp only [nrefL, nref, and_self]))); done) | (intro x hx; (repeat (first | (exfalso; omega) | (rcases x with _ | x; first | (and_intros <;> (first | exact rfl | exact trivial | exact ⟨Or.inr rfl, Fit_enI⟩ | exact Fit_enI | exact Or.inr rfl | exact Or.inl rfl | exact fun x hx => absurd hx (by omega) | exact ⟨Or.inl rfl, fun x hx => absurd hx (by omega)⟩)) | (first | exact rfl | exact trivial | exact ⟨Or.inr rfl, Fit_enI⟩ | exact Fit_enI | exact Or.inr rfl | exact Or.inl rfl | exact fun x hx => absurd hx (by omega) | exact ⟨Or.inl rfl, fun x hx => absurd hx (by omega)⟩)))); done)) | grind))
    refine condM rfl trivial (fun hc => ?_) (fun hc => ?_)
    · replace H := cond_t hc H
      refine sq ctNo_ok ?_
      simp only [go_sem, Nat.reduceLeDiff, Nat.reduceLT, Nat.reduceAdd, Nat.reduceMul, Nat.reduceSub, Nat.reduceEqDiff, Nat.reduceBEq, Int.reduceToNat, reduceCtorEq]
      refine rg ctNo_ok ?_
      simp only [go_sem, Nat.reduceLeDiff, Nat.reduceLT, Nat.reduceAdd, Nat.reduceMul, Nat.reduceSub, Nat.reduceEqDiff, Nat.reduceBEq, Int.reduceToNat, reduceCtorEq]
      obtain rfl := Option.some.inj H
      first | rfl | simp only [Bool.and_false, Bool.false_and, Bool.and_true, Bool.true_and]
    replace H := cond_f hc H
    refine rg ctNo_ok ?_
    simp only [go_sem, Nat.reduceLeDiff, Nat.reduceLT, Nat.reduceAdd, Nat.reduceMul, Nat.reduceSub, Nat.reduceEqDiff, Nat.reduceBEq, Int.reduceToNat, reduceCtorEq]
    refine seqM ?_
    refine sq ctNo_ok ?_
    simp only [go_sem, Nat.reduceLeDiff, Nat.reduceLT, Nat.reduceAdd, Nat.reduceMul, Nat.reduceSub, Nat.reduceEqDiff, Nat.reduceBEq, Int.reduceToNat, reduceCtorEq]
    refine blkM ?_
    refine loop_den (fun s : Int => (.top :: .ptr 0 0 0 0 :: .top :: .int .i64 s :: .top :: .top :: .top :: .top :: .top :: .top :: .top :: .top :: .top :: .top :: .top :: .top :: .top :: .top :: .top :: .top :: .top :: .top :: .top :: .top :: .top :: .top :: .top :: .top :: .top :: .top :: .top :: .top :: .top :: .top :: .top :: .top :: .top :: .top :: .top :: .top :: .top :: .top :: [])) (fun s => [.lit 37 [.ro 5 p0.List.length false (enR c_TWakeRule p0.List)]]) (fun e : Unit => (.top :: .top :: .top :: .top :: .top :: .top :: .top :: .top :: .top :: .top :: .top :: .top :: .top :: .top :: .top :: .top :: .top :: .top :: .top :: .top :: .top :: .top :: .top :: .top :: .top :: .top :: .top :: .top :: .top :: .top :: .top :: .top :: .top :: .top :: .top :: .top :: .top :: .top :: .top :: .top :: .top :: .top :: [])) (fun e => [.dead]) H ?_ (fun v1_1 o H hn1_1 hn2_1 => ?_) (fun e H => ?_)
    · refine SubF_of ⟨[some 0], ?_, ?_, by rfl, by rfl⟩
      · simp [CvL, Cv, getM]
      · exact ⟨(by simp [CvB, CvL, Cv, blkAt, geth, getM]), trivial⟩
    · unfold F33_L1 at H
      try dsimp only at H ⊢
      refine seqM ?_
      refine sq ctNo_ok ?_
      simp only [go_sem, Nat.reduceLeDiff, Nat.reduceLT, Nat.reduceAdd, Nat.reduceMul, Nat.reduceSub, Nat.reduceEqDiff, Nat.reduceBEq, Int.reduceToNat, reduceCtorEq]
      repeat ((with_reducible refine And.intro ?_ ?_); focus (first | (with_reducible trivial) | omega | (intro x y _ _; (repeat (first | exact nfR_enI | exact nfR_lit (by simp only [nrefL, nref, and_self]) | (refine nfR_app (fun x y => ?_) (fun x y => ?_)) | (refine nfR_ins (fun x y => ?_) (fun x y => ?_)) | (refine nfR_del (fun x y => ?_)) | (refine nfR_upc (fun x y => ?_) (by simp only [nrefL, nref, and_self])) | (refine nfR_ovw (fun x y => ?_) (fun x y => ?_)) | exact nfR_getL (by simp only [nrefL, nref, and_self]))); done) | (intro x hx; (repeat (first | (exfalso; omega) | (rcases x with _ | x; first | (and_intros <;> (first | exact rfl | exact trivial | exact ⟨Or.inr rfl, Fit_enI⟩ | exact Fit_enI | exact Or.inr rfl | exact Or.inl rfl | exact fun x hx => absurd hx (by omega) | exact ⟨Or.inl rfl, fun x hx => absurd hx (by omega)⟩)) | (first | exact rfl | exact trivial | exact ⟨Or.inr rfl, Fit_enI⟩ | exact Fit_enI | exact Or.inr rfl | exact Or.inl rfl | exact fun x hx => absurd hx (by omega) | exact ⟨Or.inl rfl, fun x hx => absurd hx (by omega)⟩)))); done) | (and_intros <;> first | (with_reducible trivial) | omega | assumption | (intro x y _ _; (repeat (first | exact nfR_enI | exact nfR_lit (by simp only [nrefL, nref, and_self]) | (refine nfR_app (fun x y => ?_) (fun x y => ?_)) | (refine nfR_ins (fun x y => ?_) (fun x y => ?_)) | (refine nfR_del (fun x y => ?_)) | (refine nfR_upc (fun x y => ?_) (by simp only [nrefL, nref, and_self])) | (refine nfR_ovw (fun x y => ?_) (fun x y => ?_)) | exact nfR_getL (by simp only [nrefL, nref, and_self]))); done) | (intro x hx; (repeat (first | (exfalso; omega) | (rcases x with _ | x; first | (and_intros <;> (first | exact rfl | exact trivial | exact ⟨Or.inr rfl, Fit_enI⟩ | exact Fit_enI | exact Or.inr rfl | exact Or.inl rfl | exact fun x hx => absurd hx (by omega) | exact ⟨Or.inl rfl, fun x hx => absurd hx (by omega)⟩)) | (first | exact rfl | exact trivial | exact ⟨Or.inr rfl, Fit_enI⟩ | exact Fit_enI | exact Or.inr rfl | exact Or.inl rfl | exact fun x hx => absurd hx (by omega) | exact ⟨Or.inl rfl, fun x hx => absurd hx (by omega)⟩)))); done)) | grind))
      refine condM' rfl trivial (fun hc => ?_) (fun hc => ?_)
      · replace H := cond_f hc H
        refine rg ctNo_ok ?_
        simp only [go_sem, Nat.reduceLeDiff, Nat.reduceLT, Nat.reduceAdd, Nat.reduceMul, Nat.reduceSub, Nat.reduceEqDiff, Nat.reduceBEq, Int.reduceToNat, reduceCtorEq]
        refine ⟨_, (Option.some.inj H).symm, ?_⟩
        refine SubF_of ⟨[some 0], ?_, ?_, by rfl, by rfl⟩
        · simp [CvL, Cv, getM]
        · exact ⟨CvB_dead, trivial⟩
      replace H := cond_t hc H
      refine rg ctNo_ok ?_
      simp only [go_sem, Nat.reduceLeDiff, Nat.reduceLT, Nat.reduceAdd, Nat.reduceMul, Nat.reduceSub, Nat.reduceEqDiff, Nat.reduceBEq, Int.reduceToNat, reduceCtorEq]
      refine seqM ?_
      refine blkM ?_
      refine seqM ?_
      obtain ⟨f1, H⟩ := need_some.1 H
      replace f1 := inb_iff.1 f1
      obtain ⟨r2, e3, H⟩ := Option.bind_eq_some_iff.1 H
      obtain ⟨f4, H⟩ := need_some.1 H
      replace f4 := g_iff.1 f4
      replace f4 := fun g => inb_iff.1 (f4 g)
      obtain ⟨f5, H⟩ := need_some.1 H
      replace f5 := g_iff.1 f5
      replace f5 := fun g => inb_iff.1 (f5 g)
      refine draw_quiet shT_ok ct33t0_ok (by kernel_rfl) (by kernel_rfl) ?_
      simp only [go_sem, Nat.reduceLeDiff, Nat.reduceLT, Nat.reduceAdd, Nat.reduceMul, Nat.reduceSub, Nat.reduceEqDiff, Nat.reduceBEq, Int.reduceToNat, reduceCtorEq, ct33t0_20, body20, f1, e3]
      repeat ((with_reducible refine And.intro ?_ ?_); focus (first | (with_reducible trivial) | omega | exact f4 | exact f5 | (intro g; have q := f4 (by first | exact g | simpa using g); first | exact q | exact ⟨q.1, q.2.1⟩ | exact q.2.2 | omega | exact ⟨g, q⟩ | exact ⟨trivial, q⟩) | (intro g; have q := f5 (by first | exact g | simpa using g); first | exact q | exact ⟨q.1, q.2.1⟩ | exact q.2.2 | omega | exact ⟨g, q⟩ | exact ⟨trivial, q⟩) | (intro x y _ _; (repeat (first | exact nfR_enI | exact nfR_lit (by simp only [nrefL, nref, and_self]) | (refine nfR_app (fun x y => ?_) (fun x y => ?_)) | (refine nfR_ins (fun x y => ?_) (fun x y => ?_)) | (refine nfR_del (fun x y => ?_)) | (refine nfR_upc (fun x y => ?_) (by simp only [nrefL, nref, and_self])) | (refine nfR_ovw (fun x y => ?_) (fun x y => ?_)) | exact nfR_getL (by simp only [nrefL, nref, and_self]))); done) | (intro x hx; (repeat (first | (exfalso; omega) | (rcases x with _ | x; first | (and_intros <;> (first | exact rfl | exact trivial | exact ⟨Or.inr rfl, Fit_enI⟩ | exact Fit_enI | exact Or.inr rfl | exact Or.inl rfl | exact fun x hx => absurd hx (by omega) | exact ⟨Or.inl rfl, fun x hx => absurd hx (by omega)⟩)) | (first | exact rfl | exact trivial | exact ⟨Or.inr rfl, Fit_enI⟩ | exact Fit_enI | exact Or.inr rfl | exact Or.inl rfl | exact fun x hx => absurd hx (by omega) | exact ⟨Or.inl rfl, fun x hx => absurd hx (by omega)⟩)))); done) | (and_intros <;> first | (with_reducible trivial) | omega | assumption | (intro x y _ _; (repeat (first | exact nfR_enI | exact nfR_lit (by simp only [nrefL, nref, and_self]) | (refine nfR_app (fun x y => ?_) (fun x y => ?_)) | (refine nfR_ins (fun x y => ?_) (fun x y => ?_)) | (refine nfR_del (fun x y => ?_)) | (refine nfR_upc (fun x y => ?_) (by simp only [nrefL, nref, and_self])) | (refine nfR_ovw (fun x y => ?_) (fun x y => ?_)) | exact nfR_getL (by simp only [nrefL, nref, and_self]))); done) | (intro x hx; (repeat (first | (exfalso; omega) | (rcases x with _ | x; first | (and_intros <;> (first | exact rfl | exact trivial | exact ⟨Or.inr rfl, Fit_enI⟩ | exact Fit_enI | exact Or.inr rfl | exact Or.inl rfl | exact fun x hx => absurd hx (by omega) | exact ⟨Or.inl rfl, fun x hx => absurd hx (by omega)⟩)) | (first | exact rfl | exact trivial | exact ⟨Or.inr rfl, Fit_enI⟩ | exact Fit_enI | exact Or.inr rfl | exact Or.inl rfl | exact fun x hx => absurd hx (by omega) | exact ⟨Or.inl rfl, fun x hx => absurd hx (by omega)⟩)))); done)) | (intro g; and_intros <;> first | (with_reducible trivial) | assumption | exact f4 g | exact f5 g | (intro x y _ _; (repeat (first | exact nfR_enI | exact nfR_lit (by simp only [nrefL, nref, and_self]) | (refine nfR_app (fun x y => ?_) (fun x y => ?_)) | (refine nfR_ins (fun x y => ?_) (fun x y => ?_)) | (refine nfR_del (fun x y => ?_)) | (refine nfR_upc (fun x y => ?_) (by simp only [nrefL, nref, and_self])) | (refine nfR_ovw (fun x y => ?_) (fun x y => ?_)) | exact nfR_getL (by simp only [nrefL, nref, and_self]))); done) | (intro x hx; (repeat (first | (exfalso; omega) | (rcases x with _ | x; first | (and_intros <;> (first | exact rfl | exact trivial | exact ⟨Or.inr rfl, Fit_enI⟩ | exact Fit_enI | exact Or.inr rfl | exact Or.inl rfl | exact fun x hx => absurd hx (by omega) | exact ⟨Or.inl rfl, fun x hx => absurd hx (by omega)⟩)) | (first | exact rfl | exact trivial | exact ⟨Or.inr rfl, Fit_enI⟩ | exact Fit_enI | exact Or.inr rfl | exact Or.inl rfl | exact fun x hx => absurd hx (by omega) | exact ⟨Or.inl rfl, fun x hx => absurd hx (by omega)⟩)))); done) | (and_intros <;> first | (with_reducible trivial) | omega | assumption | (intro x y _ _; (repeat (first | exact nfR_enI | exact nfR_lit (by simp only [nrefL, nref, and_self]) | (refine nfR_app (fun x y => ?_) (fun x y => ?_)) | (refine nfR_ins (fun x y => ?_) (fun x y => ?_)) | (refine nfR_del (fun x y => ?_)) | (refine nfR_upc (fun x y => ?_) (by simp only [nrefL, nref, and_self])) | (refine nfR_ovw (fun x y => ?_) (fun x y => ?_)) | exact nfR_getL (by simp only [nrefL, nref, and_self]))); done) | (intro x hx; (repeat (first | (exfalso; omega) | (rcases x with _ | x; first | (and_intros <;> (first | exact rfl | exact trivial | exact ⟨Or.inr rfl, Fit_enI⟩ | exact Fit_enI | exact Or.inr rfl | exact Or.inl rfl | exact fun x hx => absurd hx (by omega) | exact ⟨Or.inl rfl, fun x hx => absurd hx (by omega)⟩)) | (first | exact rfl | exact trivial | exact ⟨Or.inr rfl, Fit_enI⟩ | exact Fit_enI | exact Or.inr rfl | exact Or.inl rfl | exact fun x hx => absurd hx (by omega) | exact ⟨Or.inl rfl, fun x hx => absurd hx (by omega)⟩)))); done))) | grind))
      refine condM rfl trivial (fun hc => ?_) (fun hc => ?_)
      · replace H := cond_t hc H
        refine sq ctNo_ok ?_
        simp only [go_sem, Nat.reduceLeDiff, Nat.reduceLT, Nat.reduceAdd, Nat.reduceMul, Nat.reduceSub, Nat.reduceEqDiff, Nat.reduceBEq, Int.reduceToNat, reduceCtorEq]
        refine rg ctNo_ok ?_
        simp only [go_sem, Nat.reduceLeDiff, Nat.reduceLT, Nat.reduceAdd, Nat.reduceMul, Nat.reduceSub, Nat.reduceEqDiff, Nat.reduceBEq, Int.reduceToNat, reduceCtorEq]
        have H := hn2_1 _ (Option.some.inj H).symm
        obtain rfl := Option.some.inj H
        first | rfl | simp only [Bool.and_false, Bool.false_and, Bool.and_true, Bool.true_and]
      replace H := cond_f hc H
      refine rg ctNo_ok ?_
      simp only [go_sem, Nat.reduceLeDiff, Nat.reduceLT, Nat.reduceAdd, Nat.reduceMul, Nat.reduceSub, Nat.reduceEqDiff, Nat.reduceBEq, Int.reduceToNat, reduceCtorEq]
      refine rg ctNo_ok ?_
      simp only [go_sem, Nat.reduceLeDiff, Nat.reduceLT, Nat.reduceAdd, Nat.reduceMul, Nat.reduceSub, Nat.reduceEqDiff, Nat.reduceBEq, Int.reduceToNat, reduceCtorEq]
      refine ⟨_, (Option.some.inj H).symm, ?_⟩
      refine SubF_of ⟨[some 0], ?_, ?_, by rfl, by rfl⟩
      · simp [CvL, Cv, getM]
      · exact ⟨(by simp [CvB, CvL, Cv, blkAt, geth, getM]), trivial⟩
    · try dsimp only at H ⊢
      try simp only [m_normal, k_normal, b_normal, kL_normal, r_normal]
      refine sq ctNo_ok ?_
      simp only [go_sem, Nat.reduceLeDiff, Nat.reduceLT, Nat.reduceAdd, Nat.reduceMul, Nat.reduceSub, Nat.reduceEqDiff, Nat.reduceBEq, Int.reduceToNat, reduceCtorEq]
      refine rg ctNo_ok ?_
      simp only [go_sem, Nat.reduceLeDiff, Nat.reduceLT, Nat.reduceAdd, Nat.reduceMul, Nat.reduceSub, Nat.reduceEqDiff, Nat.reduceBEq, Int.reduceToNat, reduceCtorEq]
      obtain rfl := Option.some.inj H
      first | rfl | simp only [Bool.and_false, Bool.false_and, Bool.and_true, Bool.true_and]
  · cases hb
/-! hotspot/hotspotref36.Has -/
noncomputable def F42_L1 (p0 : TWakeTable) (p1 : Int) (v1_1 : Int) : Option (Lp (Int) ((Unit) ⊕ (Bool))) :=
  bif (bLt v1_1 (p0.List.length : Nat)) then (need (inb v1_1 p0.List.length) <| bif (bEq ((gd p0.List v1_1.toNat).Id) p1) then (some (.done (.inr true))) else (some (.next (wr .i64 (v1_1 + 1))))) else (some (.done (.inl ())))
noncomputable def F42 (p0 : TWakeTable) (p1 : Int) : Option (Bool) :=
  lp (loopD (fun s => F42_L1 p0 p1 s) 0) (fun e => some false) some
noncomputable def body42 : List AV → AR
  | [v0, v1] => .pure (aK 1 k_TWakeTable v0 ∧ iK .i64 v1 ∧ (F42 (g_TWakeTable (aL v0)) (iA v1)).isSome = true) (.bool (gt (F42 (g_TWakeTable (aL v0)) (iA v1))))
  | _ => .fail
set_option maxHeartbeats 4000000 in
set_option maxRecDepth 20000 in
theorem ok42 : FnOk Try.prog 42 (pureC body42) := by
  refine pure_fnM body42 (rs := [.tmp 4]) Try.func42 (by kernel_rfl) rfl rfl ?_
  intro l ob v hb hob
  unfold body42 at hb
  split at hb
  · rename_i v0 v1
    injection hb with q1 q2; subst q1 q2
    obtain ⟨hk0, hk1, hob⟩ := hob
    obtain ⟨r, H⟩ := Option.isSome_iff_exists.1 hob
    rw [H, gt_some]
    have hw0 := wA_TWakeTable hk0
    have hw1 := iK_wk hk1
    generalize g_TWakeTable (aL v0) = p0 at H hw0
    generalize iA v1 = p1 at H hw1
    refine ⟨[.agg [.ro 5 p0.List.length false (enR c_TWakeRule p0.List)], .int .i64 p1], _, (fun E vs F => FR_wk1 hw0.1 F (fun vs F => FR_wk1 hw1.1 F (fun vs F => F))), rfl, rfl, ?_⟩
    rw [Try.ntmps42]
    simp only [List.length_cons, List.length_nil, Nat.reduceAdd, Nat.reduceSub, List.replicate_succ, List.replicate_zero, List.cons_append, List.nil_append]
    unfold F42 at H
    try dsimp only at H
    refine sq ctNo_ok ?_
    simp only [go_sem, Nat.reduceLeDiff, Nat.reduceLT, Nat.reduceAdd, Nat.reduceMul, Nat.reduceSub, Nat.reduceEqDiff, Nat.reduceBEq, Int.reduceToNat, reduceCtorEq]
    refine seqM ?_
    refine sq ctNo_ok ?_
    simp only [go_sem, Nat.reduceLeDiff, Nat.reduceLT, Nat.reduceAdd, Nat.reduceMul, Nat.reduceSub, Nat.reduceEqDiff, Nat.reduceBEq, Int.reduceToNat, reduceCtorEq]
    refine blkM ?_
    refine loop_den (fun s : Int => [.top, .int .i64 p1, .ptr 0 0 0 0, .top, .top, .int .i64 s, .top, .top, .top, .top, .top, .top, .top, .top, .top, .top, .top, .top, .top, .top, .top]) (fun s => [.lit 37 [.ro 5 p0.List.length false (enR c_TWakeRule p0.List)]]) (fun e : Unit => [.top, .top, .top, .top, .top, .top, .top, .top, .top, .top, .top, .top, .top, .top, .top, .top, .top, .top, .top, .top, .top]) (fun e => [.dead]) H ?_ (fun v1_1 o H hn1_1 hn2_1 => ?_) (fun e H => ?_)
    · refine SubF_of ⟨[some 0], ?_, ?_, by rfl, by rfl⟩
      · simp [CvL, Cv, getM]
      · exact ⟨(by simp [CvB, CvL, Cv, blkAt, geth, getM]), trivial⟩
    · unfold F42_L1 at H
      try dsimp only at H ⊢
      refine seqM ?_
      refine sq ctNo_ok ?_
      simp only [go_sem, Nat.reduceLeDiff, Nat.reduceLT, Nat.reduceAdd, Nat.reduceMul, Nat.reduceSub, Nat.reduceEqDiff, Nat.reduceBEq, Int.reduceToNat, reduceCtorEq]
      repeat ((with_reducible refine And.intro ?_ ?_); focus (first | (with_reducible trivial) | omega | (intro x y _ _; (repeat (first | exact nfR_enI | exact nfR_lit (by simp only [nrefL, nref, and_self]) | (refine nfR_app (fun x y => ?_) (fun x y => ?_)) | (refine nfR_ins (fun x y => ?_) (fun x y => ?_)) | (refine nfR_del (fun x y => ?_)) | (refine nfR_upc (fun x y => ?_) (by simp only [nrefL, nref, and_self])) | (refine nfR_ovw (fun x y => ?_) (fun x y => ?_)) | exact nfR_getL (by simp only [nrefL, nref, and_self]))); done) | (intro x hx; (repeat (first | (exfalso; omega) | (rcases x with _ | x; first | (and_intros <;> (first | exact rfl | exact trivial | exact ⟨Or.inr rfl, Fit_enI⟩ | exact Fit_enI | exact Or.inr rfl | exact Or.inl rfl | exact fun x hx => absurd hx (by omega) | exact ⟨Or.inl rfl, fun x hx => absurd hx (by omega)⟩)) | (first | exact rfl | exact trivial | exact ⟨Or.inr rfl, Fit_enI⟩ | exact Fit_enI | exact Or.inr rfl | exact Or.inl rfl | exact fun x hx => absurd hx (by omega) | exact ⟨Or.inl rfl, fun x hx => absurd hx (by omega)⟩)))); done) | (and_intros <;> first | (with_reducible trivial) | omega | assumption | (intro x y _ _; (repeat (first | exact nfR_enI | exact nfR_lit (by simp only [nrefL, nref, and_self]) | (refine nfR_app (fun x y => ?_) (fun x y => ?_)) | (refine nfR_ins (fun x y => ?_) (fun x y => ?_)) | (refine nfR_del (fun x y => ?_)) | (refine nfR_upc (fun x y => ?_) (by simp only [nrefL, nref, and_self])) | (refine nfR_ovw (fun x y => ?_) (fun x y => ?_)) | exact nfR_getL (by simp only [nrefL, nref, and_self]))); done) | (intro x hx; (repeat (first | (exfalso; omega) | (rcases x with _ | x; first | (and_intros <;> (first | exact rfl | exact trivial | exact ⟨Or.inr rfl, Fit_enI⟩ | exact Fit_enI | exact Or.inr rfl | exact Or.inl rfl | exact fun x hx => absurd hx (by omega) | exact ⟨Or.inl rfl, fun x hx => absurd hx (by omega)⟩)) | (first | exact rfl | exact trivial | exact ⟨Or.inr rfl, Fit_enI⟩ | exact Fit_enI | exact Or.inr rfl | exact Or.inl rfl | exact fun x hx => absurd hx (by omega) | exact ⟨Or.inl rfl, fun x hx => absurd hx (by omega)⟩)))); done)) | grind))
      refine condM' rfl trivial (fun hc => ?_) (fun hc => ?_)
      · replace H := cond_f hc H
        refine rg ctNo_ok ?_
        simp only [go_sem, Nat.reduceLeDiff, Nat.reduceLT, Nat.reduceAdd, Nat.reduceMul, Nat.reduceSub, Nat.reduceEqDiff, Nat.reduceBEq, Int.reduceToNat, reduceCtorEq]
        refine ⟨_, (Option.some.inj H).symm, ?_⟩
        refine SubF_of ⟨[some 0], ?_, ?_, by rfl, by rfl⟩
        · simp [CvL, Cv, getM]
        · exact ⟨CvB_dead, trivial⟩
      replace H := cond_t hc H
      refine rg ctNo_ok ?_
      simp only [go_sem, Nat.reduceLeDiff, Nat.reduceLT, Nat.reduceAdd, Nat.reduceMul, Nat.reduceSub, Nat.reduceEqDiff, Nat.reduceBEq, Int.reduceToNat, reduceCtorEq]
      refine seqM ?_
      refine blkM ?_
      refine seqM ?_
      obtain ⟨f1, H⟩ := need_some.1 H
      replace f1 := inb_iff.1 f1
      refine rg ctNo_ok ?_
      simp only [go_sem, Nat.reduceLeDiff, Nat.reduceLT, Nat.reduceAdd, Nat.reduceMul, Nat.reduceSub, Nat.reduceEqDiff, Nat.reduceBEq, Int.reduceToNat, reduceCtorEq, f1]
      repeat ((with_reducible refine And.intro ?_ ?_); focus (first | (with_reducible trivial) | omega | grind))
      refine condM rfl trivial (fun hc => ?_) (fun hc => ?_)
      · replace H := cond_t hc H
        refine sq ctNo_ok ?_
        simp only [go_sem, Nat.reduceLeDiff, Nat.reduceLT, Nat.reduceAdd, Nat.reduceMul, Nat.reduceSub, Nat.reduceEqDiff, Nat.reduceBEq, Int.reduceToNat, reduceCtorEq]
        refine rg ctNo_ok ?_
        simp only [go_sem, Nat.reduceLeDiff, Nat.reduceLT, Nat.reduceAdd, Nat.reduceMul, Nat.reduceSub, Nat.reduceEqDiff, Nat.reduceBEq, Int.reduceToNat, reduceCtorEq]
        have H := hn2_1 _ (Option.some.inj H).symm
        obtain rfl := Option.some.inj H
        first | rfl | simp only [Bool.and_false, Bool.false_and, Bool.and_true, Bool.true_and]
      replace H := cond_f hc H
      refine rg ctNo_ok ?_
      simp only [go_sem, Nat.reduceLeDiff, Nat.reduceLT, Nat.reduceAdd, Nat.reduceMul, Nat.reduceSub, Nat.reduceEqDiff, Nat.reduceBEq, Int.reduceToNat, reduceCtorEq]
      refine rg ctNo_ok ?_
      simp only [go_sem, Nat.reduceLeDiff, Nat.reduceLT, Nat.reduceAdd, Nat.reduceMul, Nat.reduceSub, Nat.reduceEqDiff, Nat.reduceBEq, Int.reduceToNat, reduceCtorEq]
      refine ⟨_, (Option.some.inj H).symm, ?_⟩
      refine SubF_of ⟨[some 0], ?_, ?_, by rfl, by rfl⟩
      · simp [CvL, Cv, getM]
      · exact ⟨(by simp [CvB, CvL, Cv, blkAt, geth, getM]), trivial⟩
    · try dsimp only at H ⊢
      try simp only [m_normal, k_normal, b_normal, kL_normal, r_normal]
      refine sq ctNo_ok ?_
      simp only [go_sem, Nat.reduceLeDiff, Nat.reduceLT, Nat.reduceAdd, Nat.reduceMul, Nat.reduceSub, Nat.reduceEqDiff, Nat.reduceBEq, Int.reduceToNat, reduceCtorEq]
      refine rg ctNo_ok ?_
      simp only [go_sem, Nat.reduceLeDiff, Nat.reduceLT, Nat.reduceAdd, Nat.reduceMul, Nat.reduceSub, Nat.reduceEqDiff, Nat.reduceBEq, Int.reduceToNat, reduceCtorEq]
      obtain rfl := Option.some.inj H
      first | rfl | simp only [Bool.and_false, Bool.false_and, Bool.and_true, Bool.true_and]
  · cases hb
/-! hotspot/hotspotref36.Add -/
noncomputable def ct25t0 : Ct := tab [(33, pureC body33)]
theorem ct25t0_ok : CtOk Try.prog ct25t0 := tab_cons ok33 <| tab_nil
theorem ct25t0_33 (l : List AV) (h : List ABlk) : ct25t0 33 l h = pureC body33 l h := rfl
noncomputable def ct25t1 : Ct := tab [(20, pureC body20)]
theorem ct25t1_ok : CtOk Try.prog ct25t1 := tab_cons ok20 <| tab_nil
theorem ct25t1_20 (l : List AV) (h : List ABlk) : ct25t1 20 l h = pureC body20 l h := rfl
noncomputable def ct25t2 : Ct := tab [(42, pureC body42)]
theorem ct25t2_ok : CtOk Try.prog ct25t2 := tab_cons ok42 <| tab_nil
theorem ct25t2_42 (l : List AV) (h : List ABlk) : ct25t2 42 l h = pureC body42 l h := rfl
noncomputable def F25_L2 (p0 : TWakeTable) (v1_1 : Int) (v2_1 : Int) (v2_2 : List TWakeRule) : Option (Lp (Int × (List TWakeRule)) ((List TWakeRule) ⊕ (TWakeTable × Int))) :=
  bif (bLt v2_1 (p0.List.length : Nat)) then (need (inb v2_1 p0.List.length) <| bif (bEq ((gd p0.List v2_1.toNat).Id) v1_1) then (need (inb v2_1 p0.List.length) <| need (capb 40 (v2_2.length + 1)) <| some (.next (wr .i64 (v2_1 + 1), (v2_2 ++ [(gd p0.List v2_1.toNat)])))) else (some (.next (wr .i64 (v2_1 + 1), v2_2)))) else (some (.done (.inl v2_2)))
noncomputable def F25_L3 (p0 : TWakeTable) (v1_1 : Int) (v3_1 : Int) (v3_2 : List TWakeRule) : Option (Lp (Int × (List TWakeRule)) ((List TWakeRule) ⊕ (TWakeTable × Int))) :=
  bif (bLt v3_1 (p0.List.length : Nat)) then (need (inb v3_1 p0.List.length) <| bif (bEq ((gd p0.List v3_1.toNat).Id) v1_1) then (need (inb v3_1 p0.List.length) <| need (capb 40 (v3_2.length + 1)) <| some (.next (wr .i64 (v3_1 + 1), (v3_2 ++ [(gd p0.List v3_1.toNat)])))) else (some (.next (wr .i64 (v3_1 + 1), v3_2)))) else (some (.done (.inl v3_2)))
noncomputable def F25_L1 (p0 : TWakeTable) (p1 : TWakeRule) (v1_1 : Int) (v1_2 : List TWakeRule) : Option (Lp (Int × (List TWakeRule)) ((List TWakeRule) ⊕ (TWakeTable × Int))) :=
  bif (bLe v1_1 255) then (bif (bEq v1_1 p1.Id) then (need (capb 40 (v1_2.length + 1)) <| lp (loopD (fun s => F25_L2 p0 v1_1 s.1 s.2) (0, (v1_2 ++ [p1]))) (fun w2_3 => some (.next (wr .i64 (v1_1 + 1), w2_3))) (fun r => some (.done (.inr r)))) else (lp (loopD (fun s => F25_L3 p0 v1_1 s.1 s.2) (0, v1_2)) (fun w3_3 => some (.next (wr .i64 (v1_1 + 1), w3_3))) (fun r => some (.done (.inr r))))) else (some (.done (.inl v1_2)))
noncomputable def F25 (p0 : TWakeTable) (p1 : TWakeRule) : Option (TWakeTable × Int) :=
  (F33 p0).bind fun r1 => bif (!r1) then (some ((TWakeTable.mk []), 8)) else ((F20 p1).bind fun r3 => bif (!r3) then (some ((TWakeTable.mk []), 2)) else ((F42 p0 p1.Id).bind fun r5 => bif r5 then (some ((TWakeTable.mk []), 20)) else (bif (bEq (p0.List.length : Nat) 32) then (some ((TWakeTable.mk []), 22)) else (lp (loopD (fun s => F25_L1 p0 p1 s.1 s.2) (0, [])) (fun w1_3 => some ((TWakeTable.mk w1_3), 0)) some))))
noncomputable def body25 : List AV → Nat → AR
  | [v0, v1], _ => .pure (aK 1 k_TWakeTable v0 ∧ aK 5 k_TWakeRule v1 ∧ (F25 (g_TWakeTable (aL v0)) (g_TWakeRule (aL v1))).isSome = true) (.tup [.agg [.ro 5 ((((gt (F25 (g_TWakeTable (aL v0)) (g_TWakeRule (aL v1)))).1).List).length) false (enR c_TWakeRule (((gt (F25 (g_TWakeTable (aL v0)) (g_TWakeRule (aL v1)))).1).List))], .int .i64 ((gt (F25 (g_TWakeTable (aL v0)) (g_TWakeRule (aL v1)))).2)])
  | _, _ => .fail
set_option maxHeartbeats 4000000 in
set_option maxRecDepth 20000 in
theorem ok25 : FnOk Try.prog 25 (genC body25) := by
  refine gen_fn body25 (rs := [.cell 4 37, .tmp 5]) Try.func25 (by kernel_rfl) rfl rfl ?_
  intro l s ob v ns hb hob
  rcases hb with ⟨hb, rfl⟩ | hb
  · unfold body25 at hb
    split at hb
    · rename_i v0 v1
      injection hb with q1 q2; subst q1 q2
      obtain ⟨hk0, hk1, hob⟩ := hob
      obtain ⟨r, H⟩ := Option.isSome_iff_exists.1 hob
      rw [H, gt_some]
      have hw0 := wA_TWakeTable hk0
      have hw1 := wA_TWakeRule hk1
      generalize g_TWakeTable (aL v0) = p0 at H hw0
      generalize g_TWakeRule (aL v1) = p1 at H hw1
      refine ⟨[.agg [.ro 5 p0.List.length false (enR c_TWakeRule p0.List)], .agg [.int .i64 p1.Id, .int .i64 p1.Start, .int .i64 p1.Every, .int .i64 p1.Length, .int .i64 p1.Group]], .tup [.agg [.ro 5 r.1.List.length false (enR c_TWakeRule r.1.List)], .int .i64 r.2], [], (fun E vs F => FR_wk1 hw0.1 F (fun vs F => FR_wk1 hw1.1 F (fun vs F => F))), by simp only [ren, renL], trivial, ?_⟩
      rw [Try.ntmps25]
      simp only [List.length_cons, List.length_nil, Nat.reduceAdd, Nat.reduceSub, List.replicate_succ, List.replicate_zero, List.cons_append, List.nil_append]
      unfold F25 at H
      try dsimp only at H
      refine sq ctNo_ok ?_
      simp only [go_sem, Nat.reduceLeDiff, Nat.reduceLT, Nat.reduceAdd, Nat.reduceMul, Nat.reduceSub, Nat.reduceEqDiff, Nat.reduceBEq, Int.reduceToNat, reduceCtorEq]
      refine seqM ?_
      refine seqM ?_
      obtain ⟨r1, e2, H⟩ := Option.bind_eq_some_iff.1 H
      refine rg ct25t0_ok ?_
      simp only [go_sem, Nat.reduceLeDiff, Nat.reduceLT, Nat.reduceAdd, Nat.reduceMul, Nat.reduceSub, Nat.reduceEqDiff, Nat.reduceBEq, Int.reduceToNat, reduceCtorEq, ct25t0_33, body33, e2]
      repeat ((with_reducible refine And.intro ?_ ?_); focus (first | (with_reducible trivial) | omega | (intro x y _ _; (repeat (first | exact nfR_enI | exact nfR_lit (by simp only [nrefL, nref, and_self]) | (refine nfR_app (fun x y => ?_) (fun x y => ?_)) | (refine nfR_ins (fun x y => ?_) (fun x y => ?_)) | (refine nfR_del (fun x y => ?_)) | (refine nfR_upc (fun x y => ?_) (by simp only [nrefL, nref, and_self])) | (refine nfR_ovw (fun x y => ?_) (fun x y => ?_)) | exact nfR_getL (by simp only [nrefL, nref, and_self]))); done) | (intro x hx; (repeat (first | (exfalso; omega) | (rcases x with _ | x; first | (and_intros <;> (first | exact rfl | exact trivial | exact ⟨Or.inr rfl, Fit_enI⟩ | exact Fit_enI | exact Or.inr rfl | exact Or.inl rfl | exact fun x hx => absurd hx (by omega) | exact ⟨Or.inl rfl, fun x hx => absurd hx (by omega)⟩)) | (first | exact rfl | exact trivial | exact ⟨Or.inr rfl, Fit_enI⟩ | exact Fit_enI | exact Or.inr rfl | exact Or.inl rfl | exact fun x hx => absurd hx (by omega) | exact ⟨Or.inl rfl, fun x hx => absurd hx (by omega)⟩)))); done) | (and_intros <;> first | (with_reducible trivial) | omega | assumption | (intro x y _ _; (repeat (first | exact nfR_enI | exact nfR_lit (by simp only [nrefL, nref, and_self]) | (refine nfR_app (fun x y => ?_) (fun x y => ?_)) | (refine nfR_ins (fun x y => ?_) (fun x y => ?_)) | (refine nfR_del (fun x y => ?_)) | (refine nfR_upc (fun x y => ?_) (by simp only [nrefL, nref, and_self])) | (refine nfR_ovw (fun x y => ?_) (fun x y => ?_)) | exact nfR_getL (by simp only [nrefL, nref, and_self]))); done) | (intro x hx; (repeat (first | (exfalso; omega) | (rcases x with _ | x; first | (and_intros <;> (first | exact rfl | exact trivial | exact ⟨Or.inr rfl, Fit_enI⟩ | exact Fit_enI | exact Or.inr rfl | exact Or.inl rfl | exact fun x hx => absurd hx (by omega) | exact ⟨Or.inl rfl, fun x hx => absurd hx (by omega)⟩)) | (first | exact rfl | exact trivial | exact ⟨Or.inr rfl, Fit_enI⟩ | exact Fit_enI | exact Or.inr rfl | exact Or.inl rfl | exact fun x hx => absurd hx (by omega) | exact ⟨Or.inl rfl, fun x hx => absurd hx (by omega)⟩)))); done)) | grind))
      refine condM rfl trivial (fun hc => ?_) (fun hc => ?_)
      · replace H := cond_t hc H
        refine sq ctNo_ok ?_
        simp only [go_sem, Nat.reduceLeDiff, Nat.reduceLT, Nat.reduceAdd, Nat.reduceMul, Nat.reduceSub, Nat.reduceEqDiff, Nat.reduceBEq, Int.reduceToNat, reduceCtorEq]
        repeat ((with_reducible refine And.intro ?_ ?_); focus (first | (with_reducible trivial) | omega | grind))
        refine rg ctNo_ok ?_
        simp only [go_sem, Nat.reduceLeDiff, Nat.reduceLT, Nat.reduceAdd, Nat.reduceMul, Nat.reduceSub, Nat.reduceEqDiff, Nat.reduceBEq, Int.reduceToNat, reduceCtorEq]
        obtain rfl := Option.some.inj H
        refine ⟨[0, 1, 2], ?_, ?_, [], ?_, ?_, rfl⟩
        · simp only [List.length_cons, List.length_nil, Nat.zero_mul, Nat.add_zero, fzV, fzL, fzOb, fzObL, fzH, fzHF, fzB, fzObB, fzObH, inL, rowOb, geth, cond_true, cond_false, Bool.or_false, Bool.or_true, Bool.false_or, Bool.true_or, and_self, true_and, and_true, Nat.reduceEqDiff, Nat.reduceBEq, beq_self_eq_true, sub_enR0, Nat.reduceAdd, Nat.zero_add, Nat.le_refl, List.nil_append]
          try (and_intros <;> first | trivial | omega | (intro x y _ _; repeat (first | exact nfR_lit (by simp only [nrefL, nref, and_self]) | exact nfR_enI | (refine nfR_app (fun x y => ?_) (fun x y => ?_)) | (refine nfR_ins (fun x y => ?_) (fun x y => ?_)) | (refine nfR_del (fun x y => ?_)) | (refine nfR_upc (fun x y => ?_) (by simp only [nrefL, nref, and_self])) | (refine nfR_ovw (fun x y => ?_) (fun x y => ?_)) | exact nfR_getL (by simp only [nrefL, nref, and_self]))))
        · simp only [List.length_cons, List.length_nil, Nat.zero_mul, Nat.add_zero, fzV, fzL, fzOb, fzObL, fzH, fzHF, fzB, fzObB, fzObH, inL, rowOb, geth, cond_true, cond_false, Bool.or_false, Bool.or_true, Bool.false_or, Bool.true_or, and_self, true_and, and_true, Nat.reduceEqDiff, Nat.reduceBEq, beq_self_eq_true, sub_enR0, Nat.reduceAdd, Nat.zero_add, Nat.le_refl, List.nil_append]
          try (and_intros <;> first | trivial | omega | (intro x y _ _; repeat (first | exact nfR_lit (by simp only [nrefL, nref, and_self]) | exact nfR_enI | (refine nfR_app (fun x y => ?_) (fun x y => ?_)) | (refine nfR_ins (fun x y => ?_) (fun x y => ?_)) | (refine nfR_del (fun x y => ?_)) | (refine nfR_upc (fun x y => ?_) (by simp only [nrefL, nref, and_self])) | (refine nfR_ovw (fun x y => ?_) (fun x y => ?_)) | exact nfR_getL (by simp only [nrefL, nref, and_self]))))
        · simp only [List.length_cons, List.length_nil, Nat.zero_mul, Nat.add_zero, fzV, fzL, fzOb, fzObL, fzH, fzHF, fzB, fzObB, fzObH, inL, rowOb, geth, cond_true, cond_false, Bool.or_false, Bool.or_true, Bool.false_or, Bool.true_or, and_self, true_and, and_true, Nat.reduceEqDiff, Nat.reduceBEq, beq_self_eq_true, sub_enR0, Nat.reduceAdd, Nat.zero_add, Nat.le_refl, List.nil_append]
          exact Cv_tup (CvL_cons (Cv_agg (CvL_cons (Cv_ronil (α := TWakeRule)) CvL_nil)) (CvL_cons Cv_int CvL_nil))
        · simp only [List.length_cons, List.length_nil, Nat.zero_mul, Nat.add_zero, fzV, fzL, fzOb, fzObL, fzH, fzHF, fzB, fzObB, fzObH, inL, rowOb, geth, cond_true, cond_false, Bool.or_false, Bool.or_true, Bool.false_or, Bool.true_or, and_self, true_and, and_true, Nat.reduceEqDiff, Nat.reduceBEq, beq_self_eq_true, sub_enR0, Nat.reduceAdd, Nat.zero_add, Nat.le_refl, List.nil_append, CvH]
      replace H := cond_f hc H
      refine rg ctNo_ok ?_
      simp only [go_sem, Nat.reduceLeDiff, Nat.reduceLT, Nat.reduceAdd, Nat.reduceMul, Nat.reduceSub, Nat.reduceEqDiff, Nat.reduceBEq, Int.reduceToNat, reduceCtorEq]
      refine seqM ?_
      refine seqM ?_
      obtain ⟨r3, e4, H⟩ := Option.bind_eq_some_iff.1 H
      refine rg ct25t1_ok ?_
      simp only [go_sem, Nat.reduceLeDiff, Nat.reduceLT, Nat.reduceAdd, Nat.reduceMul, Nat.reduceSub, Nat.reduceEqDiff, Nat.reduceBEq, Int.reduceToNat, reduceCtorEq, ct25t1_20, body20, e4]
      repeat ((with_reducible refine And.intro ?_ ?_); focus (first | (with_reducible trivial) | omega | (intro x y _ _; (repeat (first | exact nfR_enI | exact nfR_lit (by simp only [nrefL, nref, and_self]) | (refine nfR_app (fun x y => ?_) (fun x y => ?_)) | (refine nfR_ins (fun x y => ?_) (fun x y => ?_)) | (refine nfR_del (fun x y => ?_)) | (refine nfR_upc (fun x y => ?_) (by simp only [nrefL, nref, and_self])) | (refine nfR_ovw (fun x y => ?_) (fun x y => ?_)) | exact nfR_getL (by simp only [nrefL, nref, and_self]))); done) | (intro x hx; (repeat (first | (exfalso; omega) | (rcases x with _ | x; first | (and_intros <;> (first | exact rfl | exact trivial | exact ⟨Or.inr rfl, Fit_enI⟩ | exact Fit_enI | exact Or.inr rfl | exact Or.inl rfl | exact fun x hx => absurd hx (by omega) | exact ⟨Or.inl rfl, fun x hx => absurd hx (by omega)⟩)) | (first | exact rfl | exact trivial | exact ⟨Or.inr rfl, Fit_enI⟩ | exact Fit_enI | exact Or.inr rfl | exact Or.inl rfl | exact fun x hx => absurd hx (by omega) | exact ⟨Or.inl rfl, fun x hx => absurd hx (by omega)⟩)))); done) | (and_intros <;> first | (with_reducible trivial) | omega | assumption | (intro x y _ _; (repeat (first | exact nfR_enI | exact nfR_lit (by simp only [nrefL, nref, and_self]) | (refine nfR_app (fun x y => ?_) (fun x y => ?_)) | (refine nfR_ins (fun x y => ?_) (fun x y => ?_)) | (refine nfR_del (fun x y => ?_)) | (refine nfR_upc (fun x y => ?_) (by simp only [nrefL, nref, and_self])) | (refine nfR_ovw (fun x y => ?_) (fun x y => ?_)) | exact nfR_getL (by simp only [nrefL, nref, and_self]))); done) | (intro x hx; (repeat (first | (exfalso; omega) | (rcases x with _ | x; first | (and_intros <;> (first | exact rfl | exact trivial | exact ⟨Or.inr rfl, Fit_enI⟩ | exact Fit_enI | exact Or.inr rfl | exact Or.inl rfl | exact fun x hx => absurd hx (by omega) | exact ⟨Or.inl rfl, fun x hx => absurd hx (by omega)⟩)) | (first | exact rfl | exact trivial | exact ⟨Or.inr rfl, Fit_enI⟩ | exact Fit_enI | exact Or.inr rfl | exact Or.inl rfl | exact fun x hx => absurd hx (by omega) | exact ⟨Or.inl rfl, fun x hx => absurd hx (by omega)⟩)))); done)) | grind))
      refine condM rfl trivial (fun hc => ?_) (fun hc => ?_)
      · replace H := cond_t hc H
        refine sq ctNo_ok ?_
        simp only [go_sem, Nat.reduceLeDiff, Nat.reduceLT, Nat.reduceAdd, Nat.reduceMul, Nat.reduceSub, Nat.reduceEqDiff, Nat.reduceBEq, Int.reduceToNat, reduceCtorEq]
        repeat ((with_reducible refine And.intro ?_ ?_); focus (first | (with_reducible trivial) | omega | grind))
        refine rg ctNo_ok ?_
        simp only [go_sem, Nat.reduceLeDiff, Nat.reduceLT, Nat.reduceAdd, Nat.reduceMul, Nat.reduceSub, Nat.reduceEqDiff, Nat.reduceBEq, Int.reduceToNat, reduceCtorEq]
        obtain rfl := Option.some.inj H
        refine ⟨[0, 1, 2], ?_, ?_, [], ?_, ?_, rfl⟩
        · simp only [List.length_cons, List.length_nil, Nat.zero_mul, Nat.add_zero, fzV, fzL, fzOb, fzObL, fzH, fzHF, fzB, fzObB, fzObH, inL, rowOb, geth, cond_true, cond_false, Bool.or_false, Bool.or_true, Bool.false_or, Bool.true_or, and_self, true_and, and_true, Nat.reduceEqDiff, Nat.reduceBEq, beq_self_eq_true, sub_enR0, Nat.reduceAdd, Nat.zero_add, Nat.le_refl, List.nil_append]
          try (and_intros <;> first | trivial | omega | (intro x y _ _; repeat (first | exact nfR_lit (by simp only [nrefL, nref, and_self]) | exact nfR_enI | (refine nfR_app (fun x y => ?_) (fun x y => ?_)) | (refine nfR_ins (fun x y => ?_) (fun x y => ?_)) | (refine nfR_del (fun x y => ?_)) | (refine nfR_upc (fun x y => ?_) (by simp only [nrefL, nref, and_self])) | (refine nfR_ovw (fun x y => ?_) (fun x y => ?_)) | exact nfR_getL (by simp only [nrefL, nref, and_self]))))
        · simp only [List.length_cons, List.length_nil, Nat.zero_mul, Nat.add_zero, fzV, fzL, fzOb, fzObL, fzH, fzHF, fzB, fzObB, fzObH, inL, rowOb, geth, cond_true, cond_false, Bool.or_false, Bool.or_true, Bool.false_or, Bool.true_or, and_self, true_and, and_true, Nat.reduceEqDiff, Nat.reduceBEq, beq_self_eq_true, sub_enR0, Nat.reduceAdd, Nat.zero_add, Nat.le_refl, List.nil_append]
          try (and_intros <;> first | trivial | omega | (intro x y _ _; repeat (first | exact nfR_lit (by simp only [nrefL, nref, and_self]) | exact nfR_enI | (refine nfR_app (fun x y => ?_) (fun x y => ?_)) | (refine nfR_ins (fun x y => ?_) (fun x y => ?_)) | (refine nfR_del (fun x y => ?_)) | (refine nfR_upc (fun x y => ?_) (by simp only [nrefL, nref, and_self])) | (refine nfR_ovw (fun x y => ?_) (fun x y => ?_)) | exact nfR_getL (by simp only [nrefL, nref, and_self]))))
        · simp only [List.length_cons, List.length_nil, Nat.zero_mul, Nat.add_zero, fzV, fzL, fzOb, fzObL, fzH, fzHF, fzB, fzObB, fzObH, inL, rowOb, geth, cond_true, cond_false, Bool.or_false, Bool.or_true, Bool.false_or, Bool.true_or, and_self, true_and, and_true, Nat.reduceEqDiff, Nat.reduceBEq, beq_self_eq_true, sub_enR0, Nat.reduceAdd, Nat.zero_add, Nat.le_refl, List.nil_append]
          exact Cv_tup (CvL_cons (Cv_agg (CvL_cons (Cv_ronil (α := TWakeRule)) CvL_nil)) (CvL_cons Cv_int CvL_nil))
        · simp only [List.length_cons, List.length_nil, Nat.zero_mul, Nat.add_zero, fzV, fzL, fzOb, fzObL, fzH, fzHF, fzB, fzObB, fzObH, inL, rowOb, geth, cond_true, cond_false, Bool.or_false, Bool.or_true, Bool.false_or, Bool.true_or, and_self, true_and, and_true, Nat.reduceEqDiff, Nat.reduceBEq, beq_self_eq_true, sub_enR0, Nat.reduceAdd, Nat.zero_add, Nat.le_refl, List.nil_append, CvH]
      replace H := cond_f hc H
      refine rg ctNo_ok ?_
      simp only [go_sem, Nat.reduceLeDiff, Nat.reduceLT, Nat.reduceAdd, Nat.reduceMul, Nat.reduceSub, Nat.reduceEqDiff, Nat.reduceBEq, Int.reduceToNat, reduceCtorEq]
      refine seqM ?_
      refine seqM ?_
      obtain ⟨r5, e6, H⟩ := Option.bind_eq_some_iff.1 H
      refine rg ct25t2_ok ?_
      simp only [go_sem, Nat.reduceLeDiff, Nat.reduceLT, Nat.reduceAdd, Nat.reduceMul, Nat.reduceSub, Nat.reduceEqDiff, Nat.reduceBEq, Int.reduceToNat, reduceCtorEq, ct25t2_42, body42, e6]
      repeat ((with_reducible refine And.intro ?_ ?_); focus (first | (with_reducible trivial) | omega | (intro x y _ _; (repeat (first | exact nfR_enI | exact nfR_lit (by simp only [nrefL, nref, and_self]) | (refine nfR_app (fun x y => ?_) (fun x y => ?_)) | (refine nfR_ins (fun x y => ?_) (fun x y => ?_)) | (refine nfR_del (fun x y => ?_)) | (refine nfR_upc (fun x y => ?_) (by simp only [nrefL, nref, and_self])) | (refine nfR_ovw (fun x y => ?_) (fun x y => ?_)) | exact nfR_getL (by simp only [nrefL, nref, and_self]))); done) | (intro x hx; (repeat (first | (exfalso; omega) | (rcases x with _ | x; first | (and_intros <;> (first | exact rfl | exact trivial | exact ⟨Or.inr rfl, Fit_enI⟩ | exact Fit_enI | exact Or.inr rfl | exact Or.inl rfl | exact fun x hx => absurd hx (by omega) | exact ⟨Or.inl rfl, fun x hx => absurd hx (by omega)⟩)) | (first | exact rfl | exact trivial | exact ⟨Or.inr rfl, Fit_enI⟩ | exact Fit_enI | exact Or.inr rfl | exact Or.inl rfl | exact fun x hx => absurd hx (by omega) | exact ⟨Or.inl rfl, fun x hx => absurd hx (by omega)⟩)))); done) | (and_intros <;> first | (with_reducible trivial) | omega | assumption | (intro x y _ _; (repeat (first | exact nfR_enI | exact nfR_lit (by simp only [nrefL, nref, and_self]) | (refine nfR_app (fun x y => ?_) (fun x y => ?_)) | (refine nfR_ins (fun x y => ?_) (fun x y => ?_)) | (refine nfR_del (fun x y => ?_)) | (refine nfR_upc (fun x y => ?_) (by simp only [nrefL, nref, and_self])) | (refine nfR_ovw (fun x y => ?_) (fun x y => ?_)) | exact nfR_getL (by simp only [nrefL, nref, and_self]))); done) | (intro x hx; (repeat (first | (exfalso; omega) | (rcases x with _ | x; first | (and_intros <;> (first | exact rfl | exact trivial | exact ⟨Or.inr rfl, Fit_enI⟩ | exact Fit_enI | exact Or.inr rfl | exact Or.inl rfl | exact fun x hx => absurd hx (by omega) | exact ⟨Or.inl rfl, fun x hx => absurd hx (by omega)⟩)) | (first | exact rfl | exact trivial | exact ⟨Or.inr rfl, Fit_enI⟩ | exact Fit_enI | exact Or.inr rfl | exact Or.inl rfl | exact fun x hx => absurd hx (by omega) | exact ⟨Or.inl rfl, fun x hx => absurd hx (by omega)⟩)))); done)) | grind))
      refine condM rfl trivial (fun hc => ?_) (fun hc => ?_)
      · replace H := cond_t hc H
        refine sq ctNo_ok ?_
        simp only [go_sem, Nat.reduceLeDiff, Nat.reduceLT, Nat.reduceAdd, Nat.reduceMul, Nat.reduceSub, Nat.reduceEqDiff, Nat.reduceBEq, Int.reduceToNat, reduceCtorEq]
        repeat ((with_reducible refine And.intro ?_ ?_); focus (first | (with_reducible trivial) | omega | grind))
        refine rg ctNo_ok ?_
        simp only [go_sem, Nat.reduceLeDiff, Nat.reduceLT, Nat.reduceAdd, Nat.reduceMul, Nat.reduceSub, Nat.reduceEqDiff, Nat.reduceBEq, Int.reduceToNat, reduceCtorEq]
        obtain rfl := Option.some.inj H
        refine ⟨[0, 1, 2], ?_, ?_, [], ?_, ?_, rfl⟩
        · simp only [List.length_cons, List.length_nil, Nat.zero_mul, Nat.add_zero, fzV, fzL, fzOb, fzObL, fzH, fzHF, fzB, fzObB, fzObH, inL, rowOb, geth, cond_true, cond_false, Bool.or_false, Bool.or_true, Bool.false_or, Bool.true_or, and_self, true_and, and_true, Nat.reduceEqDiff, Nat.reduceBEq, beq_self_eq_true, sub_enR0, Nat.reduceAdd, Nat.zero_add, Nat.le_refl, List.nil_append]
          try (and_intros <;> first | trivial | omega | (intro x y _ _; repeat (first | exact nfR_lit (by simp only [nrefL, nref, and_self]) | exact nfR_enI | (refine nfR_app (fun x y => ?_) (fun x y => ?_)) | (refine nfR_ins (fun x y => ?_) (fun x y => ?_)) | (refine nfR_del (fun x y => ?_)) | (refine nfR_upc (fun x y => ?_) (by simp only [nrefL, nref, and_self])) | (refine nfR_ovw (fun x y => ?_) (fun x y => ?_)) | exact nfR_getL (by simp only [nrefL, nref, and_self]))))
        · simp only [List.length_cons, List.length_nil, Nat.zero_mul, Nat.add_zero, fzV, fzL, fzOb, fzObL, fzH, fzHF, fzB, fzObB, fzObH, inL, rowOb, geth, cond_true, cond_false, Bool.or_false, Bool.or_true, Bool.false_or, Bool.true_or, and_self, true_and, and_true, Nat.reduceEqDiff, Nat.reduceBEq, beq_self_eq_true, sub_enR0, Nat.reduceAdd, Nat.zero_add, Nat.le_refl, List.nil_append]
          try (and_intros <;> first | trivial | omega | (intro x y _ _; repeat (first | exact nfR_lit (by simp only [nrefL, nref, and_self]) | exact nfR_enI | (refine nfR_app (fun x y => ?_) (fun x y => ?_)) | (refine nfR_ins (fun x y => ?_) (fun x y => ?_)) | (refine nfR_del (fun x y => ?_)) | (refine nfR_upc (fun x y => ?_) (by simp only [nrefL, nref, and_self])) | (refine nfR_ovw (fun x y => ?_) (fun x y => ?_)) | exact nfR_getL (by simp only [nrefL, nref, and_self]))))
        · simp only [List.length_cons, List.length_nil, Nat.zero_mul, Nat.add_zero, fzV, fzL, fzOb, fzObL, fzH, fzHF, fzB, fzObB, fzObH, inL, rowOb, geth, cond_true, cond_false, Bool.or_false, Bool.or_true, Bool.false_or, Bool.true_or, and_self, true_and, and_true, Nat.reduceEqDiff, Nat.reduceBEq, beq_self_eq_true, sub_enR0, Nat.reduceAdd, Nat.zero_add, Nat.le_refl, List.nil_append]
          exact Cv_tup (CvL_cons (Cv_agg (CvL_cons (Cv_ronil (α := TWakeRule)) CvL_nil)) (CvL_cons Cv_int CvL_nil))
        · simp only [List.length_cons, List.length_nil, Nat.zero_mul, Nat.add_zero, fzV, fzL, fzOb, fzObL, fzH, fzHF, fzB, fzObB, fzObH, inL, rowOb, geth, cond_true, cond_false, Bool.or_false, Bool.or_true, Bool.false_or, Bool.true_or, and_self, true_and, and_true, Nat.reduceEqDiff, Nat.reduceBEq, beq_self_eq_true, sub_enR0, Nat.reduceAdd, Nat.zero_add, Nat.le_refl, List.nil_append, CvH]
      replace H := cond_f hc H
      refine rg ctNo_ok ?_
      simp only [go_sem, Nat.reduceLeDiff, Nat.reduceLT, Nat.reduceAdd, Nat.reduceMul, Nat.reduceSub, Nat.reduceEqDiff, Nat.reduceBEq, Int.reduceToNat, reduceCtorEq]
      refine seqM ?_
      refine sq ctNo_ok ?_
      simp only [go_sem, Nat.reduceLeDiff, Nat.reduceLT, Nat.reduceAdd, Nat.reduceMul, Nat.reduceSub, Nat.reduceEqDiff, Nat.reduceBEq, Int.reduceToNat, reduceCtorEq]
      repeat ((with_reducible refine And.intro ?_ ?_); focus (first | (with_reducible trivial) | omega | (intro x y _ _; (repeat (first | exact nfR_enI | exact nfR_lit (by simp only [nrefL, nref, and_self]) | (refine nfR_app (fun x y => ?_) (fun x y => ?_)) | (refine nfR_ins (fun x y => ?_) (fun x y => ?_)) | (refine nfR_del (fun x y => ?_)) | (refine nfR_upc (fun x y => ?_) (by simp only [nrefL, nref, and_self])) | (refine nfR_ovw (fun x y => ?_) (fun x y => ?_)) | exact nfR_getL (by simp only [nrefL, nref, and_self]))); done) | (intro x hx; (repeat (first | (exfalso; omega) | (rcases x with _ | x; first | (and_intros <;> (first | exact rfl | exact trivial | exact ⟨Or.inr rfl, Fit_enI⟩ | exact Fit_enI | exact Or.inr rfl | exact Or.inl rfl | exact fun x hx => absurd hx (by omega) | exact ⟨Or.inl rfl, fun x hx => absurd hx (by omega)⟩)) | (first | exact rfl | exact trivial | exact ⟨Or.inr rfl, Fit_enI⟩ | exact Fit_enI | exact Or.inr rfl | exact Or.inl rfl | exact fun x hx => absurd hx (by omega) | exact ⟨Or.inl rfl, fun x hx => absurd hx (by omega)⟩)))); done) | (and_intros <;> first | (with_reducible trivial) | omega | assumption | (intro x y _ _; (repeat (first | exact nfR_enI | exact nfR_lit (by simp only [nrefL, nref, and_self]) | (refine nfR_app (fun x y => ?_) (fun x y => ?_)) | (refine nfR_ins (fun x y => ?_) (fun x y => ?_)) | (refine nfR_del (fun x y => ?_)) | (refine nfR_upc (fun x y => ?_) (by simp only [nrefL, nref, and_self])) | (refine nfR_ovw (fun x y => ?_) (fun x y => ?_)) | exact nfR_getL (by simp only [nrefL, nref, and_self]))); done) | (intro x hx; (repeat (first | (exfalso; omega) | (rcases x with _ | x; first | (and_intros <;> (first | exact rfl | exact trivial | exact ⟨Or.inr rfl, Fit_enI⟩ | exact Fit_enI | exact Or.inr rfl | exact Or.inl rfl | exact fun x hx => absurd hx (by omega) | exact ⟨Or.inl rfl, fun x hx => absurd hx (by omega)⟩)) | (first | exact rfl | exact trivial | exact ⟨Or.inr rfl, Fit_enI⟩ | exact Fit_enI | exact Or.inr rfl | exact Or.inl rfl | exact fun x hx => absurd hx (by omega) | exact ⟨Or.inl rfl, fun x hx => absurd hx (by omega)⟩)))); done)) | grind))
      refine condM rfl trivial (fun hc => ?_) (fun hc => ?_)
      · replace H := cond_t hc H
        refine sq ctNo_ok ?_
        simp only [go_sem, Nat.reduceLeDiff, Nat.reduceLT, Nat.reduceAdd, Nat.reduceMul, Nat.reduceSub, Nat.reduceEqDiff, Nat.reduceBEq, Int.reduceToNat, reduceCtorEq]
        repeat ((with_reducible refine And.intro ?_ ?_); focus (first | (with_reducible trivial) | omega | grind))
        refine rg ctNo_ok ?_
        simp only [go_sem, Nat.reduceLeDiff, Nat.reduceLT, Nat.reduceAdd, Nat.reduceMul, Nat.reduceSub, Nat.reduceEqDiff, Nat.reduceBEq, Int.reduceToNat, reduceCtorEq]
        obtain rfl := Option.some.inj H
        refine ⟨[0, 1, 2], ?_, ?_, [], ?_, ?_, rfl⟩
        · simp only [List.length_cons, List.length_nil, Nat.zero_mul, Nat.add_zero, fzV, fzL, fzOb, fzObL, fzH, fzHF, fzB, fzObB, fzObH, inL, rowOb, geth, cond_true, cond_false, Bool.or_false, Bool.or_true, Bool.false_or, Bool.true_or, and_self, true_and, and_true, Nat.reduceEqDiff, Nat.reduceBEq, beq_self_eq_true, sub_enR0, Nat.reduceAdd, Nat.zero_add, Nat.le_refl, List.nil_append]
          try (and_intros <;> first | trivial | omega | (intro x y _ _; repeat (first | exact nfR_lit (by simp only [nrefL, nref, and_self]) | exact nfR_enI | (refine nfR_app (fun x y => ?_) (fun x y => ?_)) | (refine nfR_ins (fun x y => ?_) (fun x y => ?_)) | (refine nfR_del (fun x y => ?_)) | (refine nfR_upc (fun x y => ?_) (by simp only [nrefL, nref, and_self])) | (refine nfR_ovw (fun x y => ?_) (fun x y => ?_)) | exact nfR_getL (by simp only [nrefL, nref, and_self]))))
        · simp only [List.length_cons, List.length_nil, Nat.zero_mul, Nat.add_zero, fzV, fzL, fzOb, fzObL, fzH, fzHF, fzB, fzObB, fzObH, inL, rowOb, geth, cond_true, cond_false, Bool.or_false, Bool.or_true, Bool.false_or, Bool.true_or, and_self, true_and, and_true, Nat.reduceEqDiff, Nat.reduceBEq, beq_self_eq_true, sub_enR0, Nat.reduceAdd, Nat.zero_add, Nat.le_refl, List.nil_append]
          try (and_intros <;> first | trivial | omega | (intro x y _ _; repeat (first | exact nfR_lit (by simp only [nrefL, nref, and_self]) | exact nfR_enI | (refine nfR_app (fun x y => ?_) (fun x y => ?_)) | (refine nfR_ins (fun x y => ?_) (fun x y => ?_)) | (refine nfR_del (fun x y => ?_)) | (refine nfR_upc (fun x y => ?_) (by simp only [nrefL, nref, and_self])) | (refine nfR_ovw (fun x y => ?_) (fun x y => ?_)) | exact nfR_getL (by simp only [nrefL, nref, and_self]))))
        · simp only [List.length_cons, List.length_nil, Nat.zero_mul, Nat.add_zero, fzV, fzL, fzOb, fzObL, fzH, fzHF, fzB, fzObB, fzObH, inL, rowOb, geth, cond_true, cond_false, Bool.or_false, Bool.or_true, Bool.false_or, Bool.true_or, and_self, true_and, and_true, Nat.reduceEqDiff, Nat.reduceBEq, beq_self_eq_true, sub_enR0, Nat.reduceAdd, Nat.zero_add, Nat.le_refl, List.nil_append]
          exact Cv_tup (CvL_cons (Cv_agg (CvL_cons (Cv_ronil (α := TWakeRule)) CvL_nil)) (CvL_cons Cv_int CvL_nil))
        · simp only [List.length_cons, List.length_nil, Nat.zero_mul, Nat.add_zero, fzV, fzL, fzOb, fzObL, fzH, fzHF, fzB, fzObB, fzObH, inL, rowOb, geth, cond_true, cond_false, Bool.or_false, Bool.or_true, Bool.false_or, Bool.true_or, and_self, true_and, and_true, Nat.reduceEqDiff, Nat.reduceBEq, beq_self_eq_true, sub_enR0, Nat.reduceAdd, Nat.zero_add, Nat.le_refl, List.nil_append, CvH]
      replace H := cond_f hc H
      refine rg ctNo_ok ?_
      simp only [go_sem, Nat.reduceLeDiff, Nat.reduceLT, Nat.reduceAdd, Nat.reduceMul, Nat.reduceSub, Nat.reduceEqDiff, Nat.reduceBEq, Int.reduceToNat, reduceCtorEq]
      refine sq ctNo_ok ?_
      simp only [go_sem, Nat.reduceLeDiff, Nat.reduceLT, Nat.reduceAdd, Nat.reduceMul, Nat.reduceSub, Nat.reduceEqDiff, Nat.reduceBEq, Int.reduceToNat, reduceCtorEq]
      refine seqM ?_
      refine sq ctNo_ok ?_
      simp only [go_sem, Nat.reduceLeDiff, Nat.reduceLT, Nat.reduceAdd, Nat.reduceMul, Nat.reduceSub, Nat.reduceEqDiff, Nat.reduceBEq, Int.reduceToNat, reduceCtorEq]
      refine blkM ?_
      refine loop_den (fun s : Int × (List TWakeRule) => (.top :: .top :: .ptr 0 0 0 0 :: .ptr 1 0 0 0 :: .ptr 2 0 0 0 :: .top :: .ptr 3 0 0 0 :: .int .i64 s.1 :: .top :: .top :: .top :: .top :: .top :: .top :: .top :: .top :: .top :: .top :: .top :: .top :: .top :: .top :: .top :: .top :: .top :: .top :: .top :: .top :: .top :: .top :: .top :: .top :: .top :: .top :: .top :: .top :: .top :: .top :: .top :: .top :: .top :: .top :: .top :: .top :: .top :: .top :: .top :: .top :: .top :: .top :: .top :: .top :: .top :: .top :: .top :: .top :: .top :: .top :: .top :: .top :: .top :: .top :: .top :: .top :: .top :: .top :: .top :: [])) (fun s => [.lit 37 [.ro 5 p0.List.length false (enR c_TWakeRule p0.List)], .lit 23 [.int .i64 p1.Id, .int .i64 p1.Start, .int .i64 p1.Every, .int .i64 p1.Length, .int .i64 p1.Group], .lit 37 [.ro 0 0 true (fun _ _ => .top)], .lit 37 [.sl 4 5 0 s.2.length false], .row 23 5 s.2.length (enR c_TWakeRule s.2)]) (fun e : List TWakeRule => (.top :: .top :: .top :: .top :: .ptr 2 0 0 0 :: .top :: .ptr 3 0 0 0 :: .top :: .top :: .top :: .top :: .top :: .top :: .top :: .top :: .top :: .top :: .top :: .top :: .top :: .top :: .top :: .top :: .top :: .top :: .top :: .top :: .top :: .top :: .top :: .top :: .top :: .top :: .top :: .top :: .top :: .top :: .top :: .top :: .top :: .top :: .top :: .top :: .top :: .top :: .top :: .top :: .top :: .top :: .top :: .top :: .top :: .top :: .top :: .top :: .top :: .top :: .top :: .top :: .top :: .top :: .top :: .top :: .top :: .top :: .top :: .top :: [])) (fun e => [.dead, .dead, .lit 37 [.ro 0 0 true (fun _ _ => .top)], .lit 37 [.sl 4 5 0 e.length false], .row 23 5 e.length (enR c_TWakeRule e)]) H ?_ (fun s o H hn1_1 hn2_1 => ?_) (fun w1_3 H => ?_)
      · refine SubF_of ⟨[some 0, some 1, some 2, some 3, none], ?_, ?_, by rfl, by rfl⟩
        · simp [CvL, Cv, getM]
        · exact ⟨(by simp [CvB, CvL, Cv, blkAt, geth, getM]), (by simp [CvB, CvL, Cv, blkAt, geth, getM]), (by simp [CvB, CvL, Cv, blkAt, geth, getM]), (by simp [CvB, CvL, Cv, blkAt, geth, getM]), CvB_none, trivial⟩
      · obtain ⟨v1_1, v1_2⟩ := s
        unfold F25_L1 at H
        try dsimp only at H ⊢
        refine seqM ?_
        refine sq ctNo_ok ?_
        simp only [go_sem, Nat.reduceLeDiff, Nat.reduceLT, Nat.reduceAdd, Nat.reduceMul, Nat.reduceSub, Nat.reduceEqDiff, Nat.reduceBEq, Int.reduceToNat, reduceCtorEq]
        refine condM' rfl trivial (fun hc => ?_) (fun hc => ?_)
        · replace H := cond_f hc H
          refine rg ctNo_ok ?_
          simp only [go_sem, Nat.reduceLeDiff, Nat.reduceLT, Nat.reduceAdd, Nat.reduceMul, Nat.reduceSub, Nat.reduceEqDiff, Nat.reduceBEq, Int.reduceToNat, reduceCtorEq]
          refine ⟨_, (Option.some.inj H).symm, ?_⟩
          refine SubF_of ⟨[some 0, some 1, some 2, some 3, some 4], ?_, ?_, by rfl, by rfl⟩
          · simp [CvL, Cv, getM]
          · exact ⟨CvB_dead, CvB_dead, (by simp [CvB, CvL, Cv, blkAt, geth, getM]), (by simp [CvB, CvL, Cv, blkAt, geth, getM]), CvB_row nr_TWakeRule (by first | rfl | simp) (fun _ _ _ _ => rfl), trivial⟩
        replace H := cond_t hc H
        refine rg ctNo_ok ?_
        simp only [go_sem, Nat.reduceLeDiff, Nat.reduceLT, Nat.reduceAdd, Nat.reduceMul, Nat.reduceSub, Nat.reduceEqDiff, Nat.reduceBEq, Int.reduceToNat, reduceCtorEq]
        refine seqM ?_
        refine blkM ?_
        refine seqM ?_
        refine sq ctNo_ok ?_
        simp only [go_sem, Nat.reduceLeDiff, Nat.reduceLT, Nat.reduceAdd, Nat.reduceMul, Nat.reduceSub, Nat.reduceEqDiff, Nat.reduceBEq, Int.reduceToNat, reduceCtorEq]
        refine condM' rfl trivial (fun hc => ?_) (fun hc => ?_)
        · replace H := cond_f hc H
          refine rg ctNo_ok ?_
          simp only [go_sem, Nat.reduceLeDiff, Nat.reduceLT, Nat.reduceAdd, Nat.reduceMul, Nat.reduceSub, Nat.reduceEqDiff, Nat.reduceBEq, Int.reduceToNat, reduceCtorEq]
          refine sq ctNo_ok ?_
          simp only [go_sem, Nat.reduceLeDiff, Nat.reduceLT, Nat.reduceAdd, Nat.reduceMul, Nat.reduceSub, Nat.reduceEqDiff, Nat.reduceBEq, Int.reduceToNat, reduceCtorEq]
          refine blkM ?_
          refine loop_den (fun s : Int × (List TWakeRule) => (.top :: .top :: .ptr 0 0 0 0 :: .ptr 1 0 0 0 :: .ptr 2 0 0 0 :: .top :: .ptr 3 0 0 0 :: .int .i64 v1_1 :: .int .i64 s.1 :: .top :: .top :: .top :: .top :: .top :: .top :: .top :: .top :: .top :: .top :: .top :: .top :: .top :: .top :: .top :: .top :: .top :: .top :: .top :: .top :: .top :: .top :: .top :: .top :: .top :: .top :: .top :: .top :: .top :: .top :: .top :: .top :: .top :: .top :: .top :: .top :: .top :: .top :: .top :: .top :: .top :: .top :: .top :: .top :: .top :: .top :: .top :: .top :: .top :: .top :: .top :: .top :: .top :: .top :: .top :: .top :: .top :: .top :: [])) (fun s => [.lit 37 [.ro 5 p0.List.length false (enR c_TWakeRule p0.List)], .lit 23 [.int .i64 p1.Id, .int .i64 p1.Start, .int .i64 p1.Every, .int .i64 p1.Length, .int .i64 p1.Group], .lit 37 [.ro 0 0 true (fun _ _ => .top)], .lit 37 [.sl 5 5 0 s.2.length false], .dead, .row 23 5 s.2.length (enR c_TWakeRule s.2)]) (fun e : List TWakeRule => (.top :: .top :: .ptr 0 0 0 0 :: .ptr 1 0 0 0 :: .ptr 2 0 0 0 :: .top :: .ptr 3 0 0 0 :: .int .i64 v1_1 :: .top :: .top :: .top :: .top :: .top :: .top :: .top :: .top :: .top :: .top :: .top :: .top :: .top :: .top :: .top :: .top :: .top :: .top :: .top :: .top :: .top :: .top :: .top :: .top :: .top :: .top :: .top :: .top :: .top :: .top :: .top :: .top :: .top :: .top :: .top :: .top :: .top :: .top :: .top :: .top :: .top :: .top :: .top :: .top :: .top :: .top :: .top :: .top :: .top :: .top :: .top :: .top :: .top :: .top :: .top :: .top :: .top :: .top :: .top :: [])) (fun e => [.lit 37 [.ro 5 p0.List.length false (enR c_TWakeRule p0.List)], .lit 23 [.int .i64 p1.Id, .int .i64 p1.Start, .int .i64 p1.Every, .int .i64 p1.Length, .int .i64 p1.Group], .lit 37 [.ro 0 0 true (fun _ _ => .top)], .lit 37 [.sl 5 5 0 e.length false], .dead, .row 23 5 e.length (enR c_TWakeRule e)]) H ?_ (fun s o H hn1_3 hn2_3 => ?_) (fun w3_3 H => ?_)
          · refine SubF_of ⟨[some 0, some 1, some 2, some 3, some 4, some 4], ?_, ?_, by rfl, by rfl⟩
            · simp [CvL, Cv, getM]
            · exact ⟨(by simp [CvB, CvL, Cv, blkAt, geth, getM]), (by simp [CvB, CvL, Cv, blkAt, geth, getM]), (by simp [CvB, CvL, Cv, blkAt, geth, getM]), (by simp [CvB, CvL, Cv, blkAt, geth, getM]), CvB_dead, CvB_row nr_TWakeRule (by first | rfl | simp) (fun _ _ _ _ => rfl), trivial⟩
          · obtain ⟨v3_1, v3_2⟩ := s
            unfold F25_L3 at H
            try dsimp only at H ⊢
            refine seqM ?_
            refine sq ctNo_ok ?_
            simp only [go_sem, Nat.reduceLeDiff, Nat.reduceLT, Nat.reduceAdd, Nat.reduceMul, Nat.reduceSub, Nat.reduceEqDiff, Nat.reduceBEq, Int.reduceToNat, reduceCtorEq]
            repeat ((with_reducible refine And.intro ?_ ?_); focus (first | (with_reducible trivial) | omega | (intro x y _ _; (repeat (first | exact nfR_enI | exact nfR_lit (by simp only [nrefL, nref, and_self]) | (refine nfR_app (fun x y => ?_) (fun x y => ?_)) | (refine nfR_ins (fun x y => ?_) (fun x y => ?_)) | (refine nfR_del (fun x y => ?_)) | (refine nfR_upc (fun x y => ?_) (by simp only [nrefL, nref, and_self])) | (refine nfR_ovw (fun x y => ?_) (fun x y => ?_)) | exact nfR_getL (by simp only [nrefL, nref, and_self]))); done) | (intro x hx; (repeat (first | (exfalso; omega) | (rcases x with _ | x; first | (and_intros <;> (first | exact rfl | exact trivial | exact ⟨Or.inr rfl, Fit_enI⟩ | exact Fit_enI | exact Or.inr rfl | exact Or.inl rfl | exact fun x hx => absurd hx (by omega) | exact ⟨Or.inl rfl, fun x hx => absurd hx (by omega)⟩)) | (first | exact rfl | exact trivial | exact ⟨Or.inr rfl, Fit_enI⟩ | exact Fit_enI | exact Or.inr rfl | exact Or.inl rfl | exact fun x hx => absurd hx (by omega) | exact ⟨Or.inl rfl, fun x hx => absurd hx (by omega)⟩)))); done) | (and_intros <;> first | (with_reducible trivial) | omega | assumption | (intro x y _ _; (repeat (first | exact nfR_enI | exact nfR_lit (by simp only [nrefL, nref, and_self]) | (refine nfR_app (fun x y => ?_) (fun x y => ?_)) | (refine nfR_ins (fun x y => ?_) (fun x y => ?_)) | (refine nfR_del (fun x y => ?_)) | (refine nfR_upc (fun x y => ?_) (by simp only [nrefL, nref, and_self])) | (refine nfR_ovw (fun x y => ?_) (fun x y => ?_)) | exact nfR_getL (by simp only [nrefL, nref, and_self]))); done) | (intro x hx; (repeat (first | (exfalso; omega) | (rcases x with _ | x; first | (and_intros <;> (first | exact rfl | exact trivial | exact ⟨Or.inr rfl, Fit_enI⟩ | exact Fit_enI | exact Or.inr rfl | exact Or.inl rfl | exact fun x hx => absurd hx (by omega) | exact ⟨Or.inl rfl, fun x hx => absurd hx (by omega)⟩)) | (first | exact rfl | exact trivial | exact ⟨Or.inr rfl, Fit_enI⟩ | exact Fit_enI | exact Or.inr rfl | exact Or.inl rfl | exact fun x hx => absurd hx (by omega) | exact ⟨Or.inl rfl, fun x hx => absurd hx (by omega)⟩)))); done)) | grind))
            refine condM' rfl trivial (fun hc => ?_) (fun hc => ?_)
            · replace H := cond_f hc H
              refine rg ctNo_ok ?_
              simp only [go_sem, Nat.reduceLeDiff, Nat.reduceLT, Nat.reduceAdd, Nat.reduceMul, Nat.reduceSub, Nat.reduceEqDiff, Nat.reduceBEq, Int.reduceToNat, reduceCtorEq]
              refine ⟨_, (Option.some.inj H).symm, ?_⟩
              refine SubF_of ⟨[some 0, some 1, some 2, some 3, some 4, some 5], ?_, ?_, by rfl, by rfl⟩
              · simp [CvL, Cv, getM]
              · exact ⟨(by simp [CvB, CvL, Cv, blkAt, geth, getM]), (by simp [CvB, CvL, Cv, blkAt, geth, getM]), (by simp [CvB, CvL, Cv, blkAt, geth, getM]), (by simp [CvB, CvL, Cv, blkAt, geth, getM]), CvB_dead, CvB_row nr_TWakeRule (by first | rfl | simp) (fun _ _ _ _ => rfl), trivial⟩
            replace H := cond_t hc H
            refine rg ctNo_ok ?_
            simp only [go_sem, Nat.reduceLeDiff, Nat.reduceLT, Nat.reduceAdd, Nat.reduceMul, Nat.reduceSub, Nat.reduceEqDiff, Nat.reduceBEq, Int.reduceToNat, reduceCtorEq]
            refine seqM ?_
            refine blkM ?_
            refine seqM ?_
            obtain ⟨f11, H⟩ := need_some.1 H
            replace f11 := inb_iff.1 f11
            refine rg ctNo_ok ?_
            simp only [go_sem, Nat.reduceLeDiff, Nat.reduceLT, Nat.reduceAdd, Nat.reduceMul, Nat.reduceSub, Nat.reduceEqDiff, Nat.reduceBEq, Int.reduceToNat, reduceCtorEq, f11]
            repeat ((with_reducible refine And.intro ?_ ?_); focus (first | (with_reducible trivial) | omega | grind))
            refine condM' rfl trivial (fun hc => ?_) (fun hc => ?_)
            · replace H := cond_f hc H
              refine rg ctNo_ok ?_
              simp only [go_sem, Nat.reduceLeDiff, Nat.reduceLT, Nat.reduceAdd, Nat.reduceMul, Nat.reduceSub, Nat.reduceEqDiff, Nat.reduceBEq, Int.reduceToNat, reduceCtorEq]
              refine rg ctNo_ok ?_
              simp only [go_sem, Nat.reduceLeDiff, Nat.reduceLT, Nat.reduceAdd, Nat.reduceMul, Nat.reduceSub, Nat.reduceEqDiff, Nat.reduceBEq, Int.reduceToNat, reduceCtorEq]
              refine ⟨_, (Option.some.inj H).symm, ?_⟩
              refine SubF_of ⟨[some 0, some 1, some 2, some 3, some 4, some 5], ?_, ?_, by rfl, by rfl⟩
              · simp [CvL, Cv, getM]
              · exact ⟨(by simp [CvB, CvL, Cv, blkAt, geth, getM]), (by simp [CvB, CvL, Cv, blkAt, geth, getM]), (by simp [CvB, CvL, Cv, blkAt, geth, getM]), (by simp [CvB, CvL, Cv, blkAt, geth, getM]), CvB_dead, CvB_row nr_TWakeRule (by first | rfl | simp) (fun _ _ _ _ => rfl), trivial⟩
            replace H := cond_t hc H
            obtain ⟨f12, H⟩ := need_some.1 H
            replace f12 := inb_iff.1 f12
            obtain ⟨f13, H⟩ := need_some.1 H
            replace f13 := capb_iff.1 f13
            refine draw_rule shT_ok ctNo_ok 2 (by kernel_rfl) (by kernel_rfl) ?_
            intro an han
            simp only [d_nil, d_cons, nxtD, refsOp, refs, refsL, mask, maskF, place, placeF, okLog, pairOk, hit, inL, slotsF, ren, renL, rnN, nrH, nrB, nrL, nr, dead0, deadS, List.replicate_zero, List.replicate_succ, Nat.sub_self, Nat.add_zero, Nat.zero_add, Nat.reduceSub, Nat.not_lt_zero, Nat.zero_le, Nat.lt_add_one, go_sem, Nat.reduceLeDiff, Nat.reduceLT, Nat.reduceAdd, Nat.reduceMul, Nat.reduceSub, Nat.reduceEqDiff, Nat.reduceBEq, Int.reduceToNat, reduceCtorEq, f12, f13]
            repeat ((with_reducible refine And.intro ?_ ?_); focus (first | (with_reducible trivial) | (show anB _ _ _ = true; subst han; kernel_rfl) | (show (anB _ _ _ && _) = true; subst han; kernel_rfl) | omega | (intro x y _ _; (repeat (first | exact nrR_lit (by simp only [nrefL, nref, and_self]) | exact nrR_enI | (refine nrR_app (fun x y => ?_) (fun x y => ?_)) | (refine nrR_ins (fun x y => ?_) (fun x y => ?_)) | (refine nrR_del (fun x y => ?_)))); done) | (intro x y _ _; (repeat (first | exact nfR_enI | exact nfR_lit (by simp only [nrefL, nref, and_self]))); done) | (intro x hx; (repeat (first | (exfalso; omega) | (rcases x with _ | x; first | (and_intros <;> (first | exact rfl | exact trivial | exact ⟨Or.inr rfl, Fit_enI⟩ | exact Fit_enI | exact Or.inr rfl | exact Or.inl rfl | exact fun x hx => absurd hx (by omega) | exact ⟨Or.inl rfl, fun x hx => absurd hx (by omega)⟩)) | (first | exact rfl | exact trivial | exact ⟨Or.inr rfl, Fit_enI⟩ | exact Fit_enI | exact Or.inr rfl | exact Or.inl rfl | exact fun x hx => absurd hx (by omega) | exact ⟨Or.inl rfl, fun x hx => absurd hx (by omega)⟩)))); done) | (and_intros <;> first | (with_reducible trivial) | omega | assumption | (intro x y _ _; (repeat (first | exact nrR_lit (by simp only [nrefL, nref, and_self]) | exact nrR_enI | (refine nrR_app (fun x y => ?_) (fun x y => ?_)) | (refine nrR_ins (fun x y => ?_) (fun x y => ?_)) | (refine nrR_del (fun x y => ?_)))); done) | (intro x y _ _; (repeat (first | exact nfR_enI | exact nfR_lit (by simp only [nrefL, nref, and_self]))); done) | (intro x hx; (repeat (first | (exfalso; omega) | (rcases x with _ | x; first | (and_intros <;> (first | exact rfl | exact trivial | exact ⟨Or.inr rfl, Fit_enI⟩ | exact Fit_enI | exact Or.inr rfl | exact Or.inl rfl | exact fun x hx => absurd hx (by omega) | exact ⟨Or.inl rfl, fun x hx => absurd hx (by omega)⟩)) | (first | exact rfl | exact trivial | exact ⟨Or.inr rfl, Fit_enI⟩ | exact Fit_enI | exact Or.inr rfl | exact Or.inl rfl | exact fun x hx => absurd hx (by omega) | exact ⟨Or.inl rfl, fun x hx => absurd hx (by omega)⟩)))); done))))
            refine rg ctNo_ok ?_
            simp only [go_sem, Nat.reduceLeDiff, Nat.reduceLT, Nat.reduceAdd, Nat.reduceMul, Nat.reduceSub, Nat.reduceEqDiff, Nat.reduceBEq, Int.reduceToNat, reduceCtorEq]
            refine ⟨_, (Option.some.inj H).symm, ?_⟩
            refine SubF_of ⟨[some 0, some 1, some 2, some 3, some 4, some 7], ?_, ?_, by rfl, by rfl⟩
            · simp [CvL, Cv, getM]
            · exact ⟨(by simp [CvB, CvL, Cv, blkAt, geth, getM]), (by simp [CvB, CvL, Cv, blkAt, geth, getM]), (by simp [CvB, CvL, Cv, blkAt, geth, getM]), (by simp [CvB, CvL, Cv, blkAt, geth, getM]), CvB_dead, CvB_row nr_TWakeRule (by first | rfl | simp) (app_row (f := c_TWakeRule) v3_2 [(gd p0.List v3_1.toNat)] (fun _ _ _ _ => rfl) (lit_row (f := c_TWakeRule) [(gd p0.List v3_1.toNat)] (fun _ _ => rfl) rfl)), trivial⟩
          · try dsimp only at H ⊢
            try simp only [m_normal, k_normal, b_normal, kL_normal, r_normal]
            refine rg ctNo_ok ?_
            simp only [go_sem, Nat.reduceLeDiff, Nat.reduceLT, Nat.reduceAdd, Nat.reduceMul, Nat.reduceSub, Nat.reduceEqDiff, Nat.reduceBEq, Int.reduceToNat, reduceCtorEq]
            refine ⟨_, (Option.some.inj H).symm, ?_⟩
            refine SubF_of ⟨[some 0, some 1, some 2, some 3, some 5], ?_, ?_, by rfl, by rfl⟩
            · simp [CvL, Cv, getM]
            · exact ⟨(by simp [CvB, CvL, Cv, blkAt, geth, getM]), (by simp [CvB, CvL, Cv, blkAt, geth, getM]), (by simp [CvB, CvL, Cv, blkAt, geth, getM]), (by simp [CvB, CvL, Cv, blkAt, geth, getM]), CvB_row nr_TWakeRule (by first | rfl | simp) (fun _ _ _ _ => rfl), trivial⟩
        replace H := cond_t hc H
        obtain ⟨f7, H⟩ := need_some.1 H
        replace f7 := capb_iff.1 f7
        refine rg ctNo_ok ?_
        simp only [go_sem, Nat.reduceLeDiff, Nat.reduceLT, Nat.reduceAdd, Nat.reduceMul, Nat.reduceSub, Nat.reduceEqDiff, Nat.reduceBEq, Int.reduceToNat, reduceCtorEq, f7]
        repeat ((with_reducible refine And.intro ?_ ?_); focus (first | (with_reducible trivial) | omega | (intro x y _ _; (repeat (first | exact nfR_enI | exact nfR_lit (by simp only [nrefL, nref, and_self]) | (refine nfR_app (fun x y => ?_) (fun x y => ?_)) | (refine nfR_ins (fun x y => ?_) (fun x y => ?_)) | (refine nfR_del (fun x y => ?_)) | (refine nfR_upc (fun x y => ?_) (by simp only [nrefL, nref, and_self])) | (refine nfR_ovw (fun x y => ?_) (fun x y => ?_)) | exact nfR_getL (by simp only [nrefL, nref, and_self]))); done) | (intro x hx; (repeat (first | (exfalso; omega) | (rcases x with _ | x; first | (and_intros <;> (first | exact rfl | exact trivial | exact ⟨Or.inr rfl, Fit_enI⟩ | exact Fit_enI | exact Or.inr rfl | exact Or.inl rfl | exact fun x hx => absurd hx (by omega) | exact ⟨Or.inl rfl, fun x hx => absurd hx (by omega)⟩)) | (first | exact rfl | exact trivial | exact ⟨Or.inr rfl, Fit_enI⟩ | exact Fit_enI | exact Or.inr rfl | exact Or.inl rfl | exact fun x hx => absurd hx (by omega) | exact ⟨Or.inl rfl, fun x hx => absurd hx (by omega)⟩)))); done) | (and_intros <;> first | (with_reducible trivial) | omega | assumption | (intro x y _ _; (repeat (first | exact nfR_enI | exact nfR_lit (by simp only [nrefL, nref, and_self]) | (refine nfR_app (fun x y => ?_) (fun x y => ?_)) | (refine nfR_ins (fun x y => ?_) (fun x y => ?_)) | (refine nfR_del (fun x y => ?_)) | (refine nfR_upc (fun x y => ?_) (by simp only [nrefL, nref, and_self])) | (refine nfR_ovw (fun x y => ?_) (fun x y => ?_)) | exact nfR_getL (by simp only [nrefL, nref, and_self]))); done) | (intro x hx; (repeat (first | (exfalso; omega) | (rcases x with _ | x; first | (and_intros <;> (first | exact rfl | exact trivial | exact ⟨Or.inr rfl, Fit_enI⟩ | exact Fit_enI | exact Or.inr rfl | exact Or.inl rfl | exact fun x hx => absurd hx (by omega) | exact ⟨Or.inl rfl, fun x hx => absurd hx (by omega)⟩)) | (first | exact rfl | exact trivial | exact ⟨Or.inr rfl, Fit_enI⟩ | exact Fit_enI | exact Or.inr rfl | exact Or.inl rfl | exact fun x hx => absurd hx (by omega) | exact ⟨Or.inl rfl, fun x hx => absurd hx (by omega)⟩)))); done)) | grind))
        refine sq ctNo_ok ?_
        simp only [go_sem, Nat.reduceLeDiff, Nat.reduceLT, Nat.reduceAdd, Nat.reduceMul, Nat.reduceSub, Nat.reduceEqDiff, Nat.reduceBEq, Int.reduceToNat, reduceCtorEq]
        refine blkM ?_
        refine loop_den (fun s : Int × (List TWakeRule) => (.top :: .top :: .ptr 0 0 0 0 :: .ptr 1 0 0 0 :: .ptr 2 0 0 0 :: .top :: .ptr 3 0 0 0 :: .int .i64 v1_1 :: .int .i64 s.1 :: .top :: .top :: .top :: .top :: .top :: .top :: .top :: .top :: .top :: .top :: .top :: .top :: .top :: .top :: .top :: .top :: .top :: .top :: .top :: .top :: .top :: .top :: .top :: .top :: .top :: .top :: .top :: .top :: .top :: .top :: .top :: .top :: .top :: .top :: .top :: .top :: .top :: .top :: .top :: .top :: .top :: .top :: .top :: .top :: .top :: .top :: .top :: .top :: .top :: .top :: .top :: .top :: .top :: .top :: .top :: .top :: .top :: .top :: [])) (fun s => [.lit 37 [.ro 5 p0.List.length false (enR c_TWakeRule p0.List)], .lit 23 [.int .i64 p1.Id, .int .i64 p1.Start, .int .i64 p1.Every, .int .i64 p1.Length, .int .i64 p1.Group], .lit 37 [.ro 0 0 true (fun _ _ => .top)], .lit 37 [.sl 7 5 0 s.2.length false], .dead, .dead, .dead, .row 23 5 s.2.length (enR c_TWakeRule s.2)]) (fun e : List TWakeRule => (.top :: .top :: .ptr 0 0 0 0 :: .ptr 1 0 0 0 :: .ptr 2 0 0 0 :: .top :: .ptr 3 0 0 0 :: .int .i64 v1_1 :: .top :: .top :: .top :: .top :: .top :: .top :: .top :: .top :: .top :: .top :: .top :: .top :: .top :: .top :: .top :: .top :: .top :: .top :: .top :: .top :: .top :: .top :: .top :: .top :: .top :: .top :: .top :: .top :: .top :: .top :: .top :: .top :: .top :: .top :: .top :: .top :: .top :: .top :: .top :: .top :: .top :: .top :: .top :: .top :: .top :: .top :: .top :: .top :: .top :: .top :: .top :: .top :: .top :: .top :: .top :: .top :: .top :: .top :: .top :: [])) (fun e => [.lit 37 [.ro 5 p0.List.length false (enR c_TWakeRule p0.List)], .lit 23 [.int .i64 p1.Id, .int .i64 p1.Start, .int .i64 p1.Every, .int .i64 p1.Length, .int .i64 p1.Group], .lit 37 [.ro 0 0 true (fun _ _ => .top)], .lit 37 [.sl 7 5 0 e.length false], .dead, .dead, .dead, .row 23 5 e.length (enR c_TWakeRule e)]) H ?_ (fun s o H hn1_2 hn2_2 => ?_) (fun w2_3 H => ?_)
        · refine SubF_of ⟨[some 0, some 1, some 2, some 3, some 4, some 5, some 6, some 6], ?_, ?_, by rfl, by rfl⟩
          · simp [CvL, Cv, getM]
          · exact ⟨(by simp [CvB, CvL, Cv, blkAt, geth, getM]), (by simp [CvB, CvL, Cv, blkAt, geth, getM]), (by simp [CvB, CvL, Cv, blkAt, geth, getM]), (by simp [CvB, CvL, Cv, blkAt, geth, getM]), CvB_dead, CvB_dead, CvB_dead, CvB_row nr_TWakeRule (by first | rfl | simp) (app_row (f := c_TWakeRule) v1_2 [p1] (fun _ _ _ _ => rfl) (lit_row (f := c_TWakeRule) [p1] (fun _ _ => rfl) rfl)), trivial⟩
        · obtain ⟨v2_1, v2_2⟩ := s
          unfold F25_L2 at H
          try dsimp only at H ⊢
          refine seqM ?_
          refine sq ctNo_ok ?_
          simp only [go_sem, Nat.reduceLeDiff, Nat.reduceLT, Nat.reduceAdd, Nat.reduceMul, Nat.reduceSub, Nat.reduceEqDiff, Nat.reduceBEq, Int.reduceToNat, reduceCtorEq]
          repeat ((with_reducible refine And.intro ?_ ?_); focus (first | (with_reducible trivial) | omega | (intro x y _ _; (repeat (first | exact nfR_enI | exact nfR_lit (by simp only [nrefL, nref, and_self]) | (refine nfR_app (fun x y => ?_) (fun x y => ?_)) | (refine nfR_ins (fun x y => ?_) (fun x y => ?_)) | (refine nfR_del (fun x y => ?_)) | (refine nfR_upc (fun x y => ?_) (by simp only [nrefL, nref, and_self])) | (refine nfR_ovw (fun x y => ?_) (fun x y => ?_)) | exact nfR_getL (by simp only [nrefL, nref, and_self]))); done) | (intro x hx; (repeat (first | (exfalso; omega) | (rcases x with _ | x; first | (and_intros <;> (first | exact rfl | exact trivial | exact ⟨Or.inr rfl, Fit_enI⟩ | exact Fit_enI | exact Or.inr rfl | exact Or.inl rfl | exact fun x hx => absurd hx (by omega) | exact ⟨Or.inl rfl, fun x hx => absurd hx (by omega)⟩)) | (first | exact rfl | exact trivial | exact ⟨Or.inr rfl, Fit_enI⟩ | exact Fit_enI | exact Or.inr rfl | exact Or.inl rfl | exact fun x hx => absurd hx (by omega) | exact ⟨Or.inl rfl, fun x hx => absurd hx (by omega)⟩)))); done) | (and_intros <;> first | (with_reducible trivial) | omega | assumption | (intro x y _ _; (repeat (first | exact nfR_enI | exact nfR_lit (by simp only [nrefL, nref, and_self]) | (refine nfR_app (fun x y => ?_) (fun x y => ?_)) | (refine nfR_ins (fun x y => ?_) (fun x y => ?_)) | (refine nfR_del (fun x y => ?_)) | (refine nfR_upc (fun x y => ?_) (by simp only [nrefL, nref, and_self])) | (refine nfR_ovw (fun x y => ?_) (fun x y => ?_)) | exact nfR_getL (by simp only [nrefL, nref, and_self]))); done) | (intro x hx; (repeat (first | (exfalso; omega) | (rcases x with _ | x; first | (and_intros <;> (first | exact rfl | exact trivial | exact ⟨Or.inr rfl, Fit_enI⟩ | exact Fit_enI | exact Or.inr rfl | exact Or.inl rfl | exact fun x hx => absurd hx (by omega) | exact ⟨Or.inl rfl, fun x hx => absurd hx (by omega)⟩)) | (first | exact rfl | exact trivial | exact ⟨Or.inr rfl, Fit_enI⟩ | exact Fit_enI | exact Or.inr rfl | exact Or.inl rfl | exact fun x hx => absurd hx (by omega) | exact ⟨Or.inl rfl, fun x hx => absurd hx (by omega)⟩)))); done)) | grind))
          refine condM' rfl trivial (fun hc => ?_) (fun hc => ?_)
          · replace H := cond_f hc H
            refine rg ctNo_ok ?_
            simp only [go_sem, Nat.reduceLeDiff, Nat.reduceLT, Nat.reduceAdd, Nat.reduceMul, Nat.reduceSub, Nat.reduceEqDiff, Nat.reduceBEq, Int.reduceToNat, reduceCtorEq]
            refine ⟨_, (Option.some.inj H).symm, ?_⟩
            refine SubF_of ⟨[some 0, some 1, some 2, some 3, some 4, some 5, some 6, some 7], ?_, ?_, by rfl, by rfl⟩
            · simp [CvL, Cv, getM]
            · exact ⟨(by simp [CvB, CvL, Cv, blkAt, geth, getM]), (by simp [CvB, CvL, Cv, blkAt, geth, getM]), (by simp [CvB, CvL, Cv, blkAt, geth, getM]), (by simp [CvB, CvL, Cv, blkAt, geth, getM]), CvB_dead, CvB_dead, CvB_dead, CvB_row nr_TWakeRule (by first | rfl | simp) (fun _ _ _ _ => rfl), trivial⟩
          replace H := cond_t hc H
          refine rg ctNo_ok ?_
          simp only [go_sem, Nat.reduceLeDiff, Nat.reduceLT, Nat.reduceAdd, Nat.reduceMul, Nat.reduceSub, Nat.reduceEqDiff, Nat.reduceBEq, Int.reduceToNat, reduceCtorEq]
          refine seqM ?_
          refine blkM ?_
          refine seqM ?_
          obtain ⟨f8, H⟩ := need_some.1 H
          replace f8 := inb_iff.1 f8
          refine rg ctNo_ok ?_
          simp only [go_sem, Nat.reduceLeDiff, Nat.reduceLT, Nat.reduceAdd, Nat.reduceMul, Nat.reduceSub, Nat.reduceEqDiff, Nat.reduceBEq, Int.reduceToNat, reduceCtorEq, f8]
          repeat ((with_reducible refine And.intro ?_ ?_); focus (first | (with_reducible trivial) | omega | grind))
          refine condM' rfl trivial (fun hc => ?_) (fun hc => ?_)
          · replace H := cond_f hc H
            refine rg ctNo_ok ?_
            simp only [go_sem, Nat.reduceLeDiff, Nat.reduceLT, Nat.reduceAdd, Nat.reduceMul, Nat.reduceSub, Nat.reduceEqDiff, Nat.reduceBEq, Int.reduceToNat, reduceCtorEq]
            refine rg ctNo_ok ?_
            simp only [go_sem, Nat.reduceLeDiff, Nat.reduceLT, Nat.reduceAdd, Nat.reduceMul, Nat.reduceSub, Nat.reduceEqDiff, Nat.reduceBEq, Int.reduceToNat, reduceCtorEq]
            refine ⟨_, (Option.some.inj H).symm, ?_⟩
            refine SubF_of ⟨[some 0, some 1, some 2, some 3, some 4, some 5, some 6, some 7], ?_, ?_, by rfl, by rfl⟩
            · simp [CvL, Cv, getM]
            · exact ⟨(by simp [CvB, CvL, Cv, blkAt, geth, getM]), (by simp [CvB, CvL, Cv, blkAt, geth, getM]), (by simp [CvB, CvL, Cv, blkAt, geth, getM]), (by simp [CvB, CvL, Cv, blkAt, geth, getM]), CvB_dead, CvB_dead, CvB_dead, CvB_row nr_TWakeRule (by first | rfl | simp) (fun _ _ _ _ => rfl), trivial⟩
          replace H := cond_t hc H
          obtain ⟨f9, H⟩ := need_some.1 H
          replace f9 := inb_iff.1 f9
          obtain ⟨f10, H⟩ := need_some.1 H
          replace f10 := capb_iff.1 f10
          refine draw_rule shT_ok ctNo_ok 2 (by kernel_rfl) (by kernel_rfl) ?_
          intro an han
          simp only [d_nil, d_cons, nxtD, refsOp, refs, refsL, mask, maskF, place, placeF, okLog, pairOk, hit, inL, slotsF, ren, renL, rnN, nrH, nrB, nrL, nr, dead0, deadS, List.replicate_zero, List.replicate_succ, Nat.sub_self, Nat.add_zero, Nat.zero_add, Nat.reduceSub, Nat.not_lt_zero, Nat.zero_le, Nat.lt_add_one, go_sem, Nat.reduceLeDiff, Nat.reduceLT, Nat.reduceAdd, Nat.reduceMul, Nat.reduceSub, Nat.reduceEqDiff, Nat.reduceBEq, Int.reduceToNat, reduceCtorEq, f9, f10]
          repeat ((with_reducible refine And.intro ?_ ?_); focus (first | (with_reducible trivial) | (show anB _ _ _ = true; subst han; kernel_rfl) | (show (anB _ _ _ && _) = true; subst han; kernel_rfl) | omega | (intro x y _ _; (repeat (first | exact nrR_lit (by simp only [nrefL, nref, and_self]) | exact nrR_enI | (refine nrR_app (fun x y => ?_) (fun x y => ?_)) | (refine nrR_ins (fun x y => ?_) (fun x y => ?_)) | (refine nrR_del (fun x y => ?_)))); done) | (intro x y _ _; (repeat (first | exact nfR_enI | exact nfR_lit (by simp only [nrefL, nref, and_self]))); done) | (intro x hx; (repeat (first | (exfalso; omega) | (rcases x with _ | x; first | (and_intros <;> (first | exact rfl | exact trivial | exact ⟨Or.inr rfl, Fit_enI⟩ | exact Fit_enI | exact Or.inr rfl | exact Or.inl rfl | exact fun x hx => absurd hx (by omega) | exact ⟨Or.inl rfl, fun x hx => absurd hx (by omega)⟩)) | (first | exact rfl | exact trivial | exact ⟨Or.inr rfl, Fit_enI⟩ | exact Fit_enI | exact Or.inr rfl | exact Or.inl rfl | exact fun x hx => absurd hx (by omega) | exact ⟨Or.inl rfl, fun x hx => absurd hx (by omega)⟩)))); done) | (and_intros <;> first | (with_reducible trivial) | omega | assumption | (intro x y _ _; (repeat (first | exact nrR_lit (by simp only [nrefL, nref, and_self]) | exact nrR_enI | (refine nrR_app (fun x y => ?_) (fun x y => ?_)) | (refine nrR_ins (fun x y => ?_) (fun x y => ?_)) | (refine nrR_del (fun x y => ?_)))); done) | (intro x y _ _; (repeat (first | exact nfR_enI | exact nfR_lit (by simp only [nrefL, nref, and_self]))); done) | (intro x hx; (repeat (first | (exfalso; omega) | (rcases x with _ | x; first | (and_intros <;> (first | exact rfl | exact trivial | exact ⟨Or.inr rfl, Fit_enI⟩ | exact Fit_enI | exact Or.inr rfl | exact Or.inl rfl | exact fun x hx => absurd hx (by omega) | exact ⟨Or.inl rfl, fun x hx => absurd hx (by omega)⟩)) | (first | exact rfl | exact trivial | exact ⟨Or.inr rfl, Fit_enI⟩ | exact Fit_enI | exact Or.inr rfl | exact Or.inl rfl | exact fun x hx => absurd hx (by omega) | exact ⟨Or.inl rfl, fun x hx => absurd hx (by omega)⟩)))); done))))
          refine rg ctNo_ok ?_
          simp only [go_sem, Nat.reduceLeDiff, Nat.reduceLT, Nat.reduceAdd, Nat.reduceMul, Nat.reduceSub, Nat.reduceEqDiff, Nat.reduceBEq, Int.reduceToNat, reduceCtorEq]
          refine ⟨_, (Option.some.inj H).symm, ?_⟩
          refine SubF_of ⟨[some 0, some 1, some 2, some 3, some 4, some 5, some 6, some 9], ?_, ?_, by rfl, by rfl⟩
          · simp [CvL, Cv, getM]
          · exact ⟨(by simp [CvB, CvL, Cv, blkAt, geth, getM]), (by simp [CvB, CvL, Cv, blkAt, geth, getM]), (by simp [CvB, CvL, Cv, blkAt, geth, getM]), (by simp [CvB, CvL, Cv, blkAt, geth, getM]), CvB_dead, CvB_dead, CvB_dead, CvB_row nr_TWakeRule (by first | rfl | simp) (app_row (f := c_TWakeRule) v2_2 [(gd p0.List v2_1.toNat)] (fun _ _ _ _ => rfl) (lit_row (f := c_TWakeRule) [(gd p0.List v2_1.toNat)] (fun _ _ => rfl) rfl)), trivial⟩
        · try dsimp only at H ⊢
          try simp only [m_normal, k_normal, b_normal, kL_normal, r_normal]
          refine rg ctNo_ok ?_
          simp only [go_sem, Nat.reduceLeDiff, Nat.reduceLT, Nat.reduceAdd, Nat.reduceMul, Nat.reduceSub, Nat.reduceEqDiff, Nat.reduceBEq, Int.reduceToNat, reduceCtorEq]
          refine ⟨_, (Option.some.inj H).symm, ?_⟩
          refine SubF_of ⟨[some 0, some 1, some 2, some 3, some 7], ?_, ?_, by rfl, by rfl⟩
          · simp [CvL, Cv, getM]
          · exact ⟨(by simp [CvB, CvL, Cv, blkAt, geth, getM]), (by simp [CvB, CvL, Cv, blkAt, geth, getM]), (by simp [CvB, CvL, Cv, blkAt, geth, getM]), (by simp [CvB, CvL, Cv, blkAt, geth, getM]), CvB_row nr_TWakeRule (by first | rfl | simp) (fun _ _ _ _ => rfl), trivial⟩
      · try dsimp only at H ⊢
        try simp only [m_normal, k_normal, b_normal, kL_normal, r_normal]
        refine sq ctNo_ok ?_
        simp only [go_sem, Nat.reduceLeDiff, Nat.reduceLT, Nat.reduceAdd, Nat.reduceMul, Nat.reduceSub, Nat.reduceEqDiff, Nat.reduceBEq, Int.reduceToNat, reduceCtorEq]
        repeat ((with_reducible refine And.intro ?_ ?_); focus (first | (with_reducible trivial) | omega | grind))
        refine rg ctNo_ok ?_
        simp only [go_sem, Nat.reduceLeDiff, Nat.reduceLT, Nat.reduceAdd, Nat.reduceMul, Nat.reduceSub, Nat.reduceEqDiff, Nat.reduceBEq, Int.reduceToNat, reduceCtorEq]
        obtain rfl := Option.some.inj H
        refine ⟨[4, 2, 3], ?_, ?_, [], ?_, ?_, rfl⟩
        · simp only [List.length_cons, List.length_nil, Nat.zero_mul, Nat.add_zero, fzV, fzL, fzOb, fzObL, fzH, fzHF, fzB, fzObB, fzObH, inL, rowOb, geth, cond_true, cond_false, Bool.or_false, Bool.or_true, Bool.false_or, Bool.true_or, and_self, true_and, and_true, Nat.reduceEqDiff, Nat.reduceBEq, beq_self_eq_true, sub_enR0, Nat.reduceAdd, Nat.zero_add, Nat.le_refl, List.nil_append]
          try (and_intros <;> first | trivial | omega | (intro x y _ _; repeat (first | exact nfR_lit (by simp only [nrefL, nref, and_self]) | exact nfR_enI | (refine nfR_app (fun x y => ?_) (fun x y => ?_)) | (refine nfR_ins (fun x y => ?_) (fun x y => ?_)) | (refine nfR_del (fun x y => ?_)) | (refine nfR_upc (fun x y => ?_) (by simp only [nrefL, nref, and_self])) | (refine nfR_ovw (fun x y => ?_) (fun x y => ?_)) | exact nfR_getL (by simp only [nrefL, nref, and_self]))))
        · simp only [List.length_cons, List.length_nil, Nat.zero_mul, Nat.add_zero, fzV, fzL, fzOb, fzObL, fzH, fzHF, fzB, fzObB, fzObH, inL, rowOb, geth, cond_true, cond_false, Bool.or_false, Bool.or_true, Bool.false_or, Bool.true_or, and_self, true_and, and_true, Nat.reduceEqDiff, Nat.reduceBEq, beq_self_eq_true, sub_enR0, Nat.reduceAdd, Nat.zero_add, Nat.le_refl, List.nil_append]
          try (and_intros <;> first | trivial | omega | (intro x y _ _; repeat (first | exact nfR_lit (by simp only [nrefL, nref, and_self]) | exact nfR_enI | (refine nfR_app (fun x y => ?_) (fun x y => ?_)) | (refine nfR_ins (fun x y => ?_) (fun x y => ?_)) | (refine nfR_del (fun x y => ?_)) | (refine nfR_upc (fun x y => ?_) (by simp only [nrefL, nref, and_self])) | (refine nfR_ovw (fun x y => ?_) (fun x y => ?_)) | exact nfR_getL (by simp only [nrefL, nref, and_self]))))
        · simp only [List.length_cons, List.length_nil, Nat.zero_mul, Nat.add_zero, fzV, fzL, fzOb, fzObL, fzH, fzHF, fzB, fzObB, fzObH, inL, rowOb, geth, cond_true, cond_false, Bool.or_false, Bool.or_true, Bool.false_or, Bool.true_or, and_self, true_and, and_true, Nat.reduceEqDiff, Nat.reduceBEq, beq_self_eq_true, sub_enR0, Nat.reduceAdd, Nat.zero_add, Nat.le_refl, List.nil_append]
          exact Cv_tup (CvL_cons (Cv_agg (CvL_cons (ro_row (by first | rfl | simp) (fun _ _ _ _ => rfl)) CvL_nil)) (CvL_cons Cv_int CvL_nil))
        · simp only [List.length_cons, List.length_nil, Nat.zero_mul, Nat.add_zero, fzV, fzL, fzOb, fzObL, fzH, fzHF, fzB, fzObB, fzObH, inL, rowOb, geth, cond_true, cond_false, Bool.or_false, Bool.or_true, Bool.false_or, Bool.true_or, and_self, true_and, and_true, Nat.reduceEqDiff, Nat.reduceBEq, beq_self_eq_true, sub_enR0, Nat.reduceAdd, Nat.zero_add, Nat.le_refl, List.nil_append, CvH]
    · cases hb
  · unfold body25 at hb
    split at hb <;> cases hb
/-! slices.Delete[[]hotspot/api.WakeRule,hotspot/api.WakeRule] -/
theorem tik43_0 : tintk Try.prog 2 = true := by kernel_rfl
theorem tik43_1 : tintk Try.prog 35 = false := by kernel_rfl
set_option maxHeartbeats 4000000 in
set_option maxRecDepth 20000 in
theorem okF43 : FnOk Try.prog 43 (delF 23 5) := by
  refine edit1_fn (sh := fun _ => none) (fun _ _ h => by cases h) ctNo_ok (delF 23 5) (rs := [.tmp 6]) Try.func43 (by kernel_rfl) rfl rfl delF_np ?_
  intro E h l vs ob v h' H F hc hob
  unfold delF at hc
  split at hc
  · rename_i b es' i n nl p q
    split at hc
    · rename_i e' es2 NN c hb
      injection hc with q1 q2 q3
      subst q1 q2 q3
      obtain ⟨rfl, rfl, rfl, hN, hpq, hqn, hfl⟩ := hob
      have hx := F
      obtain ⟨vs⟩ := vs
      match vs, F.1 with
      | [u1, u2, u3], _ =>
        obtain ⟨cap, hcap, hV⟩ := csl_of_sl (only_sl (F.2 0 _ u1 rfl rfl))
        have g2 := F.2 1 _ u2 rfl rfl
        have g3 := F.2 2 _ u3 rfl rfl
        obtain rfl := VR_int g2
        obtain rfl := VR_int g3
        refine ⟨b, 23, 5, NN, c, n - (q - p), delA i p (q - p) c, [.csl 0 5 i n cap, .int .i64 p, .int .i64 q], hb, fun x y hx hy => (hfl x y hx hy).1, fun x y hx hy => ?_, rfl, rfl, ?_, ?_⟩
        · unfold delA
          split <;> exact hfl _ _ (by omega) hy
        · refine ⟨rfl, fun j a w ha hw => ?_⟩
          match j with
          | 0 => simp at ha hw; subst ha hw; exact hV
          | 1 => simp at ha hw; subst ha hw; exact .int _ _
          | 2 => simp at ha hw; subst ha hw; exact .int _ _
          | j + 3 => simp at ha
        · rw [Try.ntmps43]
          show wpC _ _ _ _ _ (.csl 0 5 i n cap :: .int .i64 p :: .int .i64 q :: .top :: .top :: .top :: .top :: .top :: .top :: .top :: .top :: .top :: .top :: .top :: .top :: .top :: .top :: .top :: .top :: .top :: .top :: .top :: .top :: .top :: .top :: .top :: .top :: .top :: .top :: .top :: .top :: .top :: .top :: []) _
          have hpq' : ((p : Int) == (q : Int)) = false := by simp; omega
          simp only [go_sem, Nat.reduceLeDiff, Nat.reduceLT, Nat.reduceAdd, Nat.reduceMul, Nat.reduceSub, Nat.reduceEqDiff, Nat.reduceBEq, Int.reduceToNat, reduceCtorEq, evCopy, evCopyR, lenS, cutS, evClear, evClearR, evCap, evAppZ, tik43_0, tik43_1, bEq, Option.isSome_some, Option.isNone_some, Option.isSome_none, Option.isNone_none, Int.ofNat_eq_natCast, Int.toNat_natCast, hpq']
          refine ⟨by omega, ?_⟩
          refine draw_rule (sh := fun _ => none) (fun _ _ h => by cases h) ctNo_ok 0 (by kernel_rfl) (by kernel_rfl) ?_
          intro an han
          have hdc : decide (p + (n - q) ≤ cap) = true := by simp; omega
          simp only [go_sem, Nat.reduceLeDiff, Nat.reduceLT, Nat.reduceAdd, Nat.reduceMul, Nat.reduceSub, Nat.reduceEqDiff, Nat.reduceBEq, Int.reduceToNat, reduceCtorEq, evCopy, evCopyR, lenS, cutS, evClear, evClearR, evCap, evAppZ, tik43_0, tik43_1, bEq, Option.isSome_some, Option.isNone_some, Option.isSome_none, Option.isNone_none, Int.ofNat_eq_natCast, Int.toNat_natCast, hpq', hdc, Nat.sub_zero, d_nil, d_cons, nxtD, refsOp, refs, refsL, mask, maskF, place, placeF, okLog, pairOk, hit, inL, slotsF, ren, renL, rnN, nrH, nrB, nrL, nr, dead0, deadS, List.replicate_zero, List.replicate_succ, Bool.or_false, Bool.false_or, Bool.or_true, Bool.true_or, Bool.and_false, Bool.false_and, Nat.sub_self, Nat.add_zero, Nat.zero_add, Nat.reduceSub, Nat.not_lt_zero, Nat.zero_le, Nat.lt_add_one]
          have hm : p + (n - q) = n - (q - p) := by omega
          refine ⟨by omega, by omega, by omega, by omega, by omega, ?_⟩
          rw [hm]
          refine conv_move (b := 0) rfl (by omega) (by omega) fun x y hx hy => ?_
          unfold ovwC delA subC
          rw [if_neg (by omega)]
          by_cases hxp : x < p
          · rw [if_neg (by omega), if_pos hxp]
          · rw [if_pos (by omega), if_neg hxp]
            congr 1
            omega
    · cases hc
  · cases hc
theorem ok43 : FnOk Try.prog 43 (delN 23 5) := delN_ok okF43
/-! hotspot/wake.Remove -/
noncomputable def ct26t0 : Ct := tab [(32, pureC body32)]
theorem ct26t0_ok : CtOk Try.prog ct26t0 := tab_cons ok32 <| tab_nil
theorem ct26t0_32 (l : List AV) (h : List ABlk) : ct26t0 32 l h = pureC body32 l h := rfl
noncomputable def ct26t1 : Ct := tab [(39, pureC body39)]
theorem ct26t1_ok : CtOk Try.prog ct26t1 := tab_cons ok39 <| tab_nil
theorem ct26t1_39 (l : List AV) (h : List ABlk) : ct26t1 39 l h = pureC body39 l h := rfl
noncomputable def ct26t2 : Ct := tab [(41, genC body41), (43, delN 23 5)]
theorem ct26t2_ok : CtOk Try.prog ct26t2 := tab_cons ok41 <| tab_cons ok43 <| tab_nil
theorem ct26t2_41 (l : List AV) (h : List ABlk) : ct26t2 41 l h = genC body41 l h := rfl
theorem ct26t2_43 (l : List AV) (h : List ABlk) : ct26t2 43 l h = delN 23 5 l h := rfl
noncomputable def F26 (p0 : TWakeTable) (p1 : Int) : Option (TWakeTable × Int) :=
  (F32 p0).bind fun r1 => bif (!bEq r1 0) then (some ((TWakeTable.mk []), r1)) else ((F39 p0 p1).bind fun r3 => bif (!r3.2) then (some ((TWakeTable.mk []), 6)) else ((F41 p0.List).bind fun r5 => need (delb r3.1 (wr .i64 (r3.1 + 1)) r5.length) <| some ((TWakeTable.mk (delL r5 r3.1 (wr .i64 (r3.1 + 1)))), 0)))
noncomputable def body26 : List AV → Nat → AR
  | [v0, v1], s => .heap (aK 1 k_TWakeTable v0 ∧ iK .i64 v1 ∧ (F26 (g_TWakeTable (aL v0)) (iA v1)).isSome = true) (.tup [.agg [.sl s 5 0 ((((gt (F26 (g_TWakeTable (aL v0)) (iA v1))).1).List).length) false], .int .i64 ((gt (F26 (g_TWakeTable (aL v0)) (iA v1))).2)]) [.row 23 5 ((((gt (F26 (g_TWakeTable (aL v0)) (iA v1))).1).List).length) (enR c_TWakeRule (((gt (F26 (g_TWakeTable (aL v0)) (iA v1))).1).List))]
  | _, _ => .fail
set_option maxHeartbeats 4000000 in
set_option maxRecDepth 20000 in
theorem ok26 : FnOk Try.prog 26 (genC body26) := by
  refine gen_fn body26 (rs := [.cell 4 37, .tmp 5]) Try.func26 (by kernel_rfl) rfl rfl ?_
  intro l s ob v ns hb hob
  rcases hb with ⟨hb, rfl⟩ | hb
  · unfold body26 at hb
    split at hb <;> cases hb
  · unfold body26 at hb
    split at hb
    · rename_i v0 v1
      injection hb with q1 q2 q3; subst q1 q2 q3
      obtain ⟨hk0, hk1, hob⟩ := hob
      obtain ⟨r, H⟩ := Option.isSome_iff_exists.1 hob
      rw [H, gt_some]
      have hw0 := wA_TWakeTable hk0
      have hw1 := iK_wk hk1
      generalize g_TWakeTable (aL v0) = p0 at H hw0
      generalize iA v1 = p1 at H hw1
      refine ⟨[.agg [.ro 5 p0.List.length false (enR c_TWakeRule p0.List)], .int .i64 p1], .tup [.agg [.sl 0 5 0 r.1.List.length false], .int .i64 r.2], [.row 23 5 r.1.List.length (enR c_TWakeRule r.1.List)], (fun E vs F => FR_wk1 hw0.1 F (fun vs F => FR_wk1 hw1.1 F (fun vs F => F))), by simp only [ren, renL, rnN_0, rnN_s, Nat.zero_add, Nat.reduceAdd], ⟨RenB_row nr_TWakeRule, trivial⟩, ?_⟩
      rw [Try.ntmps26]
      simp only [List.length_cons, List.length_nil, Nat.reduceAdd, Nat.reduceSub, List.replicate_succ, List.replicate_zero, List.cons_append, List.nil_append]
      unfold F26 at H
      try dsimp only at H
      refine sq ctNo_ok ?_
      simp only [go_sem, Nat.reduceLeDiff, Nat.reduceLT, Nat.reduceAdd, Nat.reduceMul, Nat.reduceSub, Nat.reduceEqDiff, Nat.reduceBEq, Int.reduceToNat, reduceCtorEq]
      refine seqM ?_
      refine seqM ?_
      obtain ⟨r1, e2, H⟩ := Option.bind_eq_some_iff.1 H
      refine rg ct26t0_ok ?_
      simp only [go_sem, Nat.reduceLeDiff, Nat.reduceLT, Nat.reduceAdd, Nat.reduceMul, Nat.reduceSub, Nat.reduceEqDiff, Nat.reduceBEq, Int.reduceToNat, reduceCtorEq, ct26t0_32, body32, e2]
      repeat ((with_reducible refine And.intro ?_ ?_); focus (first | (with_reducible trivial) | omega | (intro x y _ _; (repeat (first | exact nfR_enI | exact nfR_lit (by simp only [nrefL, nref, and_self]) | (refine nfR_app (fun x y => ?_) (fun x y => ?_)) | (refine nfR_ins (fun x y => ?_) (fun x y => ?_)) | (refine nfR_del (fun x y => ?_)) | (refine nfR_upc (fun x y => ?_) (by simp only [nrefL, nref, and_self])) | (refine nfR_ovw (fun x y => ?_) (fun x y => ?_)) | exact nfR_getL (by simp only [nrefL, nref, and_self]))); done) | (intro x hx; (repeat (first | (exfalso; omega) | (rcases x with _ | x; first | (and_intros <;> (first | exact rfl | exact trivial | exact ⟨Or.inr rfl, Fit_enI⟩ | exact Fit_enI | exact Or.inr rfl | exact Or.inl rfl | exact fun x hx => absurd hx (by omega) | exact ⟨Or.inl rfl, fun x hx => absurd hx (by omega)⟩)) | (first | exact rfl | exact trivial | exact ⟨Or.inr rfl, Fit_enI⟩ | exact Fit_enI | exact Or.inr rfl | exact Or.inl rfl | exact fun x hx => absurd hx (by omega) | exact ⟨Or.inl rfl, fun x hx => absurd hx (by omega)⟩)))); done) | (and_intros <;> first | (with_reducible trivial) | omega | assumption | (intro x y _ _; (repeat (first | exact nfR_enI | exact nfR_lit (by simp only [nrefL, nref, and_self]) | (refine nfR_app (fun x y => ?_) (fun x y => ?_)) | (refine nfR_ins (fun x y => ?_) (fun x y => ?_)) | (refine nfR_del (fun x y => ?_)) | (refine nfR_upc (fun x y => ?_) (by simp only [nrefL, nref, and_self])) | (refine nfR_ovw (fun x y => ?_) (fun x y => ?_)) | exact nfR_getL (by simp only [nrefL, nref, and_self]))); done) | (intro x hx; (repeat (first | (exfalso; omega) | (rcases x with _ | x; first | (and_intros <;> (first | exact rfl | exact trivial | exact ⟨Or.inr rfl, Fit_enI⟩ | exact Fit_enI | exact Or.inr rfl | exact Or.inl rfl | exact fun x hx => absurd hx (by omega) | exact ⟨Or.inl rfl, fun x hx => absurd hx (by omega)⟩)) | (first | exact rfl | exact trivial | exact ⟨Or.inr rfl, Fit_enI⟩ | exact Fit_enI | exact Or.inr rfl | exact Or.inl rfl | exact fun x hx => absurd hx (by omega) | exact ⟨Or.inl rfl, fun x hx => absurd hx (by omega)⟩)))); done)) | grind))
      refine sq ctNo_ok ?_
      simp only [go_sem, Nat.reduceLeDiff, Nat.reduceLT, Nat.reduceAdd, Nat.reduceMul, Nat.reduceSub, Nat.reduceEqDiff, Nat.reduceBEq, Int.reduceToNat, reduceCtorEq]
      refine condM rfl trivial (fun hc => ?_) (fun hc => ?_)
      · replace H := cond_t hc H
        refine sq ctNo_ok ?_
        simp only [go_sem, Nat.reduceLeDiff, Nat.reduceLT, Nat.reduceAdd, Nat.reduceMul, Nat.reduceSub, Nat.reduceEqDiff, Nat.reduceBEq, Int.reduceToNat, reduceCtorEq]
        repeat ((with_reducible refine And.intro ?_ ?_); focus (first | (with_reducible trivial) | omega | grind))
        refine rg ctNo_ok ?_
        simp only [go_sem, Nat.reduceLeDiff, Nat.reduceLT, Nat.reduceAdd, Nat.reduceMul, Nat.reduceSub, Nat.reduceEqDiff, Nat.reduceBEq, Int.reduceToNat, reduceCtorEq]
        obtain rfl := Option.some.inj H
        refine ⟨[], ?_, ?_, [none], ?_, ?_, by rfl⟩
        · simp only [List.length_cons, List.length_nil, Nat.zero_mul, Nat.add_zero, fzV, fzL, fzOb, fzObL, fzH, fzHF, fzB, fzObB, fzObH, inL, rowOb, geth, cond_true, cond_false, Bool.or_false, Bool.or_true, Bool.false_or, Bool.true_or, and_self, true_and, and_true, Nat.reduceEqDiff, Nat.reduceBEq, beq_self_eq_true, sub_enR0, Nat.reduceAdd, Nat.zero_add, Nat.le_refl, List.nil_append]
        · simp only [List.length_cons, List.length_nil, Nat.zero_mul, Nat.add_zero, fzV, fzL, fzOb, fzObL, fzH, fzHF, fzB, fzObB, fzObH, inL, rowOb, geth, cond_true, cond_false, Bool.or_false, Bool.or_true, Bool.false_or, Bool.true_or, and_self, true_and, and_true, Nat.reduceEqDiff, Nat.reduceBEq, beq_self_eq_true, sub_enR0, Nat.reduceAdd, Nat.zero_add, Nat.le_refl, List.nil_append]
        · simp [fzV, fzL, inL, Cv, CvL, getM]
        · simp only [List.length_cons, List.length_nil, Nat.zero_mul, Nat.add_zero, fzV, fzL, fzOb, fzObL, fzH, fzHF, fzB, fzObB, fzObH, inL, rowOb, geth, cond_true, cond_false, Bool.or_false, Bool.or_true, Bool.false_or, Bool.true_or, and_self, true_and, and_true, Nat.reduceEqDiff, Nat.reduceBEq, beq_self_eq_true, sub_enR0, Nat.reduceAdd, Nat.zero_add, Nat.le_refl, List.nil_append, CvH]
          exact CvB_none
      replace H := cond_f hc H
      refine rg ctNo_ok ?_
      simp only [go_sem, Nat.reduceLeDiff, Nat.reduceLT, Nat.reduceAdd, Nat.reduceMul, Nat.reduceSub, Nat.reduceEqDiff, Nat.reduceBEq, Int.reduceToNat, reduceCtorEq]
      refine seqM ?_
      obtain ⟨r3, e4, H⟩ := Option.bind_eq_some_iff.1 H
      refine rg ct26t1_ok ?_
      simp only [go_sem, Nat.reduceLeDiff, Nat.reduceLT, Nat.reduceAdd, Nat.reduceMul, Nat.reduceSub, Nat.reduceEqDiff, Nat.reduceBEq, Int.reduceToNat, reduceCtorEq, ct26t1_39, body39, e4]
      repeat ((with_reducible refine And.intro ?_ ?_); focus (first | (with_reducible trivial) | omega | (intro x y _ _; (repeat (first | exact nfR_enI | exact nfR_lit (by simp only [nrefL, nref, and_self]) | (refine nfR_app (fun x y => ?_) (fun x y => ?_)) | (refine nfR_ins (fun x y => ?_) (fun x y => ?_)) | (refine nfR_del (fun x y => ?_)) | (refine nfR_upc (fun x y => ?_) (by simp only [nrefL, nref, and_self])) | (refine nfR_ovw (fun x y => ?_) (fun x y => ?_)) | exact nfR_getL (by simp only [nrefL, nref, and_self]))); done) | (intro x hx; (repeat (first | (exfalso; omega) | (rcases x with _ | x; first | (and_intros <;> (first | exact rfl | exact trivial | exact ⟨Or.inr rfl, Fit_enI⟩ | exact Fit_enI | exact Or.inr rfl | exact Or.inl rfl | exact fun x hx => absurd hx (by omega) | exact ⟨Or.inl rfl, fun x hx => absurd hx (by omega)⟩)) | (first | exact rfl | exact trivial | exact ⟨Or.inr rfl, Fit_enI⟩ | exact Fit_enI | exact Or.inr rfl | exact Or.inl rfl | exact fun x hx => absurd hx (by omega) | exact ⟨Or.inl rfl, fun x hx => absurd hx (by omega)⟩)))); done) | (and_intros <;> first | (with_reducible trivial) | omega | assumption | (intro x y _ _; (repeat (first | exact nfR_enI | exact nfR_lit (by simp only [nrefL, nref, and_self]) | (refine nfR_app (fun x y => ?_) (fun x y => ?_)) | (refine nfR_ins (fun x y => ?_) (fun x y => ?_)) | (refine nfR_del (fun x y => ?_)) | (refine nfR_upc (fun x y => ?_) (by simp only [nrefL, nref, and_self])) | (refine nfR_ovw (fun x y => ?_) (fun x y => ?_)) | exact nfR_getL (by simp only [nrefL, nref, and_self]))); done) | (intro x hx; (repeat (first | (exfalso; omega) | (rcases x with _ | x; first | (and_intros <;> (first | exact rfl | exact trivial | exact ⟨Or.inr rfl, Fit_enI⟩ | exact Fit_enI | exact Or.inr rfl | exact Or.inl rfl | exact fun x hx => absurd hx (by omega) | exact ⟨Or.inl rfl, fun x hx => absurd hx (by omega)⟩)) | (first | exact rfl | exact trivial | exact ⟨Or.inr rfl, Fit_enI⟩ | exact Fit_enI | exact Or.inr rfl | exact Or.inl rfl | exact fun x hx => absurd hx (by omega) | exact ⟨Or.inl rfl, fun x hx => absurd hx (by omega)⟩)))); done)) | grind))
      refine seqM ?_
      refine sq ctNo_ok ?_
      simp only [go_sem, Nat.reduceLeDiff, Nat.reduceLT, Nat.reduceAdd, Nat.reduceMul, Nat.reduceSub, Nat.reduceEqDiff, Nat.reduceBEq, Int.reduceToNat, reduceCtorEq]
      refine condM rfl trivial (fun hc => ?_) (fun hc => ?_)
      · replace H := cond_t hc H
        refine sq ctNo_ok ?_
        simp only [go_sem, Nat.reduceLeDiff, Nat.reduceLT, Nat.reduceAdd, Nat.reduceMul, Nat.reduceSub, Nat.reduceEqDiff, Nat.reduceBEq, Int.reduceToNat, reduceCtorEq]
        repeat ((with_reducible refine And.intro ?_ ?_); focus (first | (with_reducible trivial) | omega | grind))
        refine rg ctNo_ok ?_
        simp only [go_sem, Nat.reduceLeDiff, Nat.reduceLT, Nat.reduceAdd, Nat.reduceMul, Nat.reduceSub, Nat.reduceEqDiff, Nat.reduceBEq, Int.reduceToNat, reduceCtorEq]
        obtain rfl := Option.some.inj H
        refine ⟨[], ?_, ?_, [none], ?_, ?_, by rfl⟩
        · simp only [List.length_cons, List.length_nil, Nat.zero_mul, Nat.add_zero, fzV, fzL, fzOb, fzObL, fzH, fzHF, fzB, fzObB, fzObH, inL, rowOb, geth, cond_true, cond_false, Bool.or_false, Bool.or_true, Bool.false_or, Bool.true_or, and_self, true_and, and_true, Nat.reduceEqDiff, Nat.reduceBEq, beq_self_eq_true, sub_enR0, Nat.reduceAdd, Nat.zero_add, Nat.le_refl, List.nil_append]
        · simp only [List.length_cons, List.length_nil, Nat.zero_mul, Nat.add_zero, fzV, fzL, fzOb, fzObL, fzH, fzHF, fzB, fzObB, fzObH, inL, rowOb, geth, cond_true, cond_false, Bool.or_false, Bool.or_true, Bool.false_or, Bool.true_or, and_self, true_and, and_true, Nat.reduceEqDiff, Nat.reduceBEq, beq_self_eq_true, sub_enR0, Nat.reduceAdd, Nat.zero_add, Nat.le_refl, List.nil_append]
        · simp [fzV, fzL, inL, Cv, CvL, getM]
        · simp only [List.length_cons, List.length_nil, Nat.zero_mul, Nat.add_zero, fzV, fzL, fzOb, fzObL, fzH, fzHF, fzB, fzObB, fzObH, inL, rowOb, geth, cond_true, cond_false, Bool.or_false, Bool.or_true, Bool.false_or, Bool.true_or, and_self, true_and, and_true, Nat.reduceEqDiff, Nat.reduceBEq, beq_self_eq_true, sub_enR0, Nat.reduceAdd, Nat.zero_add, Nat.le_refl, List.nil_append, CvH]
          exact CvB_none
      replace H := cond_f hc H
      refine rg ctNo_ok ?_
      simp only [go_sem, Nat.reduceLeDiff, Nat.reduceLT, Nat.reduceAdd, Nat.reduceMul, Nat.reduceSub, Nat.reduceEqDiff, Nat.reduceBEq, Int.reduceToNat, reduceCtorEq]
      refine seqM ?_
      obtain ⟨r5, e6, H⟩ := Option.bind_eq_some_iff.1 H
      obtain ⟨f7, H⟩ := need_some.1 H
      replace f7 := delb_iff.1 f7
      refine rg ct26t2_ok ?_
      simp only [go_sem, Nat.reduceLeDiff, Nat.reduceLT, Nat.reduceAdd, Nat.reduceMul, Nat.reduceSub, Nat.reduceEqDiff, Nat.reduceBEq, Int.reduceToNat, reduceCtorEq, ct26t2_41, body41, ct26t2_43, delN, e6, f7]
      repeat ((with_reducible refine And.intro ?_ ?_); focus (first | (with_reducible trivial) | omega | (intro x y _ _; (repeat (first | exact nfR_enI | exact nfR_lit (by simp only [nrefL, nref, and_self]) | (refine nfR_app (fun x y => ?_) (fun x y => ?_)) | (refine nfR_ins (fun x y => ?_) (fun x y => ?_)) | (refine nfR_del (fun x y => ?_)) | (refine nfR_upc (fun x y => ?_) (by simp only [nrefL, nref, and_self])) | (refine nfR_ovw (fun x y => ?_) (fun x y => ?_)) | exact nfR_getL (by simp only [nrefL, nref, and_self]))); done) | (intro x hx; (repeat (first | (exfalso; omega) | (rcases x with _ | x; first | (and_intros <;> (first | exact rfl | exact trivial | exact ⟨Or.inr rfl, Fit_enI⟩ | exact Fit_enI | exact Or.inr rfl | exact Or.inl rfl | exact fun x hx => absurd hx (by omega) | exact ⟨Or.inl rfl, fun x hx => absurd hx (by omega)⟩)) | (first | exact rfl | exact trivial | exact ⟨Or.inr rfl, Fit_enI⟩ | exact Fit_enI | exact Or.inr rfl | exact Or.inl rfl | exact fun x hx => absurd hx (by omega) | exact ⟨Or.inl rfl, fun x hx => absurd hx (by omega)⟩)))); done) | (and_intros <;> first | (with_reducible trivial) | omega | assumption | (intro x y _ _; (repeat (first | exact nfR_enI | exact nfR_lit (by simp only [nrefL, nref, and_self]) | (refine nfR_app (fun x y => ?_) (fun x y => ?_)) | (refine nfR_ins (fun x y => ?_) (fun x y => ?_)) | (refine nfR_del (fun x y => ?_)) | (refine nfR_upc (fun x y => ?_) (by simp only [nrefL, nref, and_self])) | (refine nfR_ovw (fun x y => ?_) (fun x y => ?_)) | exact nfR_getL (by simp only [nrefL, nref, and_self]))); done) | (intro x hx; (repeat (first | (exfalso; omega) | (rcases x with _ | x; first | (and_intros <;> (first | exact rfl | exact trivial | exact ⟨Or.inr rfl, Fit_enI⟩ | exact Fit_enI | exact Or.inr rfl | exact Or.inl rfl | exact fun x hx => absurd hx (by omega) | exact ⟨Or.inl rfl, fun x hx => absurd hx (by omega)⟩)) | (first | exact rfl | exact trivial | exact ⟨Or.inr rfl, Fit_enI⟩ | exact Fit_enI | exact Or.inr rfl | exact Or.inl rfl | exact fun x hx => absurd hx (by omega) | exact ⟨Or.inl rfl, fun x hx => absurd hx (by omega)⟩)))); done)) | grind))
      refine rg ctNo_ok ?_
      simp only [go_sem, Nat.reduceLeDiff, Nat.reduceLT, Nat.reduceAdd, Nat.reduceMul, Nat.reduceSub, Nat.reduceEqDiff, Nat.reduceBEq, Int.reduceToNat, reduceCtorEq]
      obtain rfl := Option.some.inj H
      refine ⟨[], ?_, ?_, [some 3], ?_, ?_, by rfl⟩
      · simp only [List.length_cons, List.length_nil, Nat.zero_mul, Nat.add_zero, fzV, fzL, fzOb, fzObL, fzH, fzHF, fzB, fzObB, fzObH, inL, rowOb, geth, cond_true, cond_false, Bool.or_false, Bool.or_true, Bool.false_or, Bool.true_or, and_self, true_and, and_true, Nat.reduceEqDiff, Nat.reduceBEq, beq_self_eq_true, sub_enR0, Nat.reduceAdd, Nat.zero_add, Nat.le_refl, List.nil_append]
      · simp only [List.length_cons, List.length_nil, Nat.zero_mul, Nat.add_zero, fzV, fzL, fzOb, fzObL, fzH, fzHF, fzB, fzObB, fzObH, inL, rowOb, geth, cond_true, cond_false, Bool.or_false, Bool.or_true, Bool.false_or, Bool.true_or, and_self, true_and, and_true, Nat.reduceEqDiff, Nat.reduceBEq, beq_self_eq_true, sub_enR0, Nat.reduceAdd, Nat.zero_add, Nat.le_refl, List.nil_append]
      · simp [fzV, fzL, inL, Cv, CvL, getM]
        all_goals first | exact (del_len f7 (by first | rfl | simp))
      · simp only [List.length_cons, List.length_nil, Nat.zero_mul, Nat.add_zero, fzV, fzL, fzOb, fzObL, fzH, fzHF, fzB, fzObB, fzObH, inL, rowOb, geth, cond_true, cond_false, Bool.or_false, Bool.or_true, Bool.false_or, Bool.true_or, and_self, true_and, and_true, Nat.reduceEqDiff, Nat.reduceBEq, beq_self_eq_true, sub_enR0, Nat.reduceAdd, Nat.zero_add, Nat.le_refl, List.nil_append, CvH]
        exact CvB_row nr_TWakeRule (del_len f7 (by first | rfl | simp)) (del_row f7 (by first | rfl | simp) (fun _ _ _ _ => rfl))
    · cases hb
end Go.Proofs.Ytpgcekjnpieibaa
