/-
  What WakeAnswers reaches.
-/
import Derived.Test.YtpgcekjnpieibaaY9p1
namespace Go.Proofs.Ytpgcekjnpieibaa
open Go.Am
set_option linter.unusedVariables false
set_option linter.unusedSimpArgs false
attribute [local go_sem] w_skip w_label w_goto w_scope k_goto b_goto l_goto s_normal s_exit s_ret s_goto w_region w_draw w_seq w_cond w_block w_exit w_ret w_loop k_normal k_exit k_ret b_normal b_exit b_ret l_normal l_exit l_ret m_normal m_exit m_ret m_goto kL_normal kL_exit kL_ret kS_normal kS_exit kS_ret kS_goto r_normal r_ret o_nil o_cons q_nil q_cons nxt gval gvd gvl gvw dstOf evO ogOp ogC og ogL ogP ogO rho rhoO strip optOk getL setL setT absC absV absL pO hO evLoad ldB geth seth evStore stRes stB evBox evAlloc evFieldAddr evField evIndexAddr evBin2 binI binB binNR binU nilR_isEmpty nilR_t nilR_0 nilR_s evInt evStr evUn evConv cvO evPick mrg evExtract evNil evCall mapR evBuiltin evLen2 vcells vcOk atom tabF cnd retK resFin resL resA resC resCons evBuild evBuildP placeS placeA fillA fillOk putL getP nxtQ pureC_eq pureR genC_eq genR roV roL roOb roObL roW roWL roWOb roWObL nref nrefL binA binN eqSh eqRes evIndex evIndex2 evIndexS evSlice evSlice2 evSliceS evBound evConv2 cvS evAppend appRes srcOf evMake evBuildSlice repL evFn evMin evMax freshC freshR sub_enR0 evClear evClearR evCopy evCopyR lenS cutS Bool.or_false Bool.false_or Bool.or_true Bool.true_or Bool.and_false Bool.false_and Option.map_some Option.map_none Option.getD_some Option.getD_none Option.bind_some Option.bind_none Option.or_some Option.or_none Option.none_or Option.isSome_none Option.isNone_none Option.isNone_some List.nil_append List.cons_append List.append_nil cond_true cond_false List.length_cons List.length_nil beq_self_eq_true Bool.and_true Bool.true_and Bool.not_true Bool.not_false true_and and_true and_self true_implies implies_true ne_eq not_false_eq_true Bool.false_eq_true Bool.true_eq_false false_implies Nat.lt_irrefl Nat.le_refl Nat.succ_ne_self imp_self Bool.cond_false_right Bool.cond_true_left decide_true decide_false Bool.not_eq_true' Bool.not_eq_false' Bool.not_not Nat.zero_mul Nat.zero_add Nat.add_zero Nat.mul_one Nat.one_mul Bool.cond_self tsz3 tby3 tagg3 tslice3 tarr3 tzero3 tzn3 tplaces3 tint3 tstr3 tnoint3 tbool3 tany3 tintk3 tbytes3 tsz4 tby4 tagg4 tslice4 tarr4 tzero4 tzn4 tplaces4 tint4 tstr4 tnoint4 tbool4 tany4 tintk4 tbytes4 tsz23 tby23 tagg23 tslice23 tarr23 tzero23 tzn23 tplaces23 tint23 tstr23 tnoint23 tbool23 tany23 tintk23 tbytes23 tfld23_0 tfld23_1 tfld23_2 tfld23_3 tfld23_4 tsz24 tby24 tagg24 tslice24 tarr24 tzero24 tzn24 tplaces24 tint24 tstr24 tnoint24 tbool24 tany24 tintk24 tbytes24 tsz29 tby29 tagg29 tslice29 tarr29 tzero29 tzn29 tplaces29 tint29 tstr29 tnoint29 tbool29 tany29 tintk29 tbytes29 tsz35 tby35 tagg35 tslice35 tarr35 tzero35 tzn35 tplaces35 tint35 tstr35 tnoint35 tbool35 tany35 tintk35 tbytes35 tsz37 tby37 tagg37 tslice37 tarr37 tzero37 tzn37 tplaces37 tint37 tstr37 tnoint37 tbool37 tany37 tintk37 tbytes37 tfld37_0 tsz51 tby51 tagg51 tslice51 tarr51 tzero51 tzn51 tplaces51 tint51 tstr51 tnoint51 tbool51 tany51 tintk51 tbytes51 tsz61 tby61 tagg61 tslice61 tarr61 tzero61 tzn61 tplaces61 tint61 tstr61 tnoint61 tbool61 tany61 tintk61 tbytes61 tsz71 tby71 tagg71 tslice71 tarr71 tzero71 tzn71 tplaces71 tint71 tstr71 tnoint71 tbool71 tany71 tintk71 tbytes71 tsz74 tby74 tagg74 tslice74 tarr74 tzero74 tzn74 tplaces74 tint74 tstr74 tnoint74 tbool74 tany74 tintk74 tbytes74 e_u8_0 fit_u8 de_u8 g_u8 k_u8 e_i64_0 fit_i64 de_i64 g_i64 k_i64 e_b_0 fit_b de_b g_b k_b e_TWakeRule_0 e_TWakeRule_1 e_TWakeRule_2 e_TWakeRule_3 e_TWakeRule_4 fit_TWakeRule de_TWakeRule g_TWakeRule k_TWakeRule eta_TWakeRule e_lTWakeRule_0 fit_lTWakeRule de_lTWakeRule g_lTWakeRule k_lTWakeRule e_TWakeTable_0 fit_TWakeTable de_TWakeTable g_TWakeTable k_TWakeTable eta_TWakeTable e_li64_0 fit_li64 de_li64 g_li64 k_li64 e_u64_0 fit_u64 de_u64 g_u64 k_u64 deR_0 deR_1 deR_2 deR_3 deR_4 deR_5 deR_6 deR_7 deR_8 deR_9 deR_10 deR_11 deR_12 litC_x0 litC_x1 litC_x2 litC_x3 litC_x4 litC_x5 litC_x6 litC_x7 litC_x8 litC_x9 litC_x10 litC_x11 strE_u8 Fit_0 Option.isSome_some gt_some gd_one rK rG aL aK iK bK sK lK iA bA sA lA or_true true_or Int.toNat_natCast shT_23 Int.toNat_zero Int.cast_ofNat_Int
/-! hotspot/hotspotlaw36.WakeAnswers -/
noncomputable def ct9t0 : Ct := tab [(16, pureC body16)]
theorem ct9t0_ok : CtOk Try.prog ct9t0 := tab_cons ok16 <| tab_nil
theorem ct9t0_16 (l : List AV) (h : List ABlk) : ct9t0 16 l h = pureC body16 l h := rfl
noncomputable def ct9t1 : Ct := tab [(22, pureC body22)]
theorem ct9t1_ok : CtOk Try.prog ct9t1 := tab_cons ok22 <| tab_nil
theorem ct9t1_22 (l : List AV) (h : List ABlk) : ct9t1 22 l h = pureC body22 l h := rfl
noncomputable def ct9t2 : Ct := tab [(18, pureC body18)]
theorem ct9t2_ok : CtOk Try.prog ct9t2 := tab_cons ok18 <| tab_nil
theorem ct9t2_18 (l : List AV) (h : List ABlk) : ct9t2 18 l h = pureC body18 l h := rfl
noncomputable def ct9t3 : Ct := tab [(24, genC body24)]
theorem ct9t3_ok : CtOk Try.prog ct9t3 := tab_cons ok24 <| tab_nil
theorem ct9t3_24 (l : List AV) (h : List ABlk) : ct9t3 24 l h = genC body24 l h := rfl
noncomputable def ct9t4 : Ct := tab [(32, pureC body32)]
theorem ct9t4_ok : CtOk Try.prog ct9t4 := tab_cons ok32 <| tab_nil
theorem ct9t4_32 (l : List AV) (h : List ABlk) : ct9t4 32 l h = pureC body32 l h := rfl
noncomputable def F9_L1 (p0 : TWakeTable) (r3 : TWakeRule × Int) (v1_1 : Int) : Option (Lp (Int) ((Unit) ⊕ (Bool))) :=
  bif (bLt v1_1 (p0.List.length : Nat)) then (need (inb v1_1 p0.List.length) <| (F18 (gd p0.List v1_1.toNat) r3.1).bind fun r7 => bif ((!bEq r7.2 0) || ((r7.1 && (!bEq ((gd p0.List v1_1.toNat).Id) r3.1.Id)) && ((bEq ((gd p0.List v1_1.toNat).Group) 0) || (!bEq ((gd p0.List v1_1.toNat).Group) r3.1.Group)))) then (some (.done (.inr false))) else (some (.next (wr .i64 (v1_1 + 1))))) else (some (.done (.inl ())))
noncomputable def F9 (p0 : TWakeTable) (p1 : TWakeRule) : Option (Bool) :=
  (F16).bind fun r1 => bif ((bLt 40 (p0.List.length : Nat)) || (!r1)) then (some r1) else ((F22 p0 p1).bind fun r3 => bif (!bEq r3.2 0) then (some (r1 && (bEq r3.1.Id 0 && (bEq r3.1.Start 0 && (bEq r3.1.Every 0 && (bEq r3.1.Length 0 && (bEq r3.1.Group 0))))))) else (bif (bLt p1.Length 1) then (some false) else (need (bif (!(((!(bEq r3.1.Id p1.Id && (bEq p1.Start p1.Start && (bEq r3.1.Every p1.Every && (bEq r3.1.Length p1.Length && (bEq r3.1.Group p1.Group)))))) || (bLt (wr .i64 (r3.1.Start - p1.Start)) 0)) || (bLt (wr .i64 (64 * p1.Length)) (wr .i64 (r3.1.Start - p1.Start))))) then !(bEq p1.Length 0) else true) <| bif ((((!(bEq r3.1.Id p1.Id && (bEq p1.Start p1.Start && (bEq r3.1.Every p1.Every && (bEq r3.1.Length p1.Length && (bEq r3.1.Group p1.Group)))))) || (bLt (wr .i64 (r3.1.Start - p1.Start)) 0)) || (bLt (wr .i64 (64 * p1.Length)) (wr .i64 (r3.1.Start - p1.Start)))) || (!bEq ((wr .i64 (r3.1.Start - p1.Start)).tmod p1.Length) 0)) then (some false) else (lp (loopD (fun s => F9_L1 p0 r3 s) 0) (fun e => (F24 p0 r3.1).bind fun r9 => need (bif (r1 && (bEq r9.2 0)) then ((F32 r9.1).isSome) else true) <| some (r1 && (((((bEq r9.2 0) && (bEq (gt (F32 r9.1)) 0)) && (bEq (r9.1.List.length : Nat) (wr .i64 ((p0.List.length : Nat) + 1)))) || (bEq r9.2 20)) || (bEq r9.2 22)))) some))))
noncomputable def body9 : List AV → AR
  | [v0, v1] => .pure (aK 1 k_TWakeTable v0 ∧ aK 5 k_TWakeRule v1 ∧ (F9 (g_TWakeTable (aL v0)) (g_TWakeRule (aL v1))).isSome = true) (.bool (gt (F9 (g_TWakeTable (aL v0)) (g_TWakeRule (aL v1)))))
  | _ => .fail
set_option maxHeartbeats 4000000 in
set_option maxRecDepth 20000 in
theorem ok9 : FnOk Try.prog 9 (pureC body9) := by
  refine pure_fnM body9 (rs := [.tmp 4]) Try.func9 (by kernel_rfl) rfl rfl ?_
  intro l ob v hb hob
  unfold body9 at hb
  split at hb
  · rename_i v0 v1
    injection hb with q1 q2; subst q1 q2
    obtain ⟨hk0, hk1, hob⟩ := hob
    obtain ⟨r, H⟩ := Option.isSome_iff_exists.1 hob
    rw [H, gt_some]
    have hw0 := wA_TWakeTable hk0
    have hw1 := wA_TWakeRule hk1
    generalize g_TWakeTable (aL v0) = p0 at H hw0
    generalize g_TWakeRule (aL v1) = p1 at H hw1
    refine ⟨[.agg [.ro 5 p0.List.length false (enR c_TWakeRule p0.List)], .agg [.int .i64 p1.Id, .int .i64 p1.Start, .int .i64 p1.Every, .int .i64 p1.Length, .int .i64 p1.Group]], _, (fun E vs F => FR_wk1 hw0.1 F (fun vs F => FR_wk1 hw1.1 F (fun vs F => F))), rfl, rfl, ?_⟩
    rw [Try.ntmps9]
    simp only [List.length_cons, List.length_nil, Nat.reduceAdd, Nat.reduceSub, List.replicate_succ, List.replicate_zero, List.cons_append, List.nil_append]
    unfold F9 at H
    try dsimp only at H
    refine sq ctNo_ok ?_
    simp only [go_sem, Nat.reduceLeDiff, Nat.reduceLT, Nat.reduceAdd, Nat.reduceMul, Nat.reduceSub, Nat.reduceEqDiff, Nat.reduceBEq, Int.reduceToNat, reduceCtorEq]
    refine seqM ?_
    obtain ⟨r1, e2, H⟩ := Option.bind_eq_some_iff.1 H
    refine rg ct9t0_ok ?_
    simp only [go_sem, Nat.reduceLeDiff, Nat.reduceLT, Nat.reduceAdd, Nat.reduceMul, Nat.reduceSub, Nat.reduceEqDiff, Nat.reduceBEq, Int.reduceToNat, reduceCtorEq, ct9t0_16, body16, e2]
    repeat ((with_reducible refine And.intro ?_ ?_); focus (first | (with_reducible trivial) | omega | (intro x y _ _; (repeat (first | exact nfR_enI | exact nfR_lit (by simp only [nrefL, nref, and_self]) | (refine nfR_app (fun x y => ?_) (fun x y => ?_)) | (refine nfR_ins (fun x y => ?_) (fun x y => ?_)) | (refine nfR_del (fun x y => ?_)) | (refine nfR_upc (fun x y => ?_) (by simp only [nrefL, nref, and_self])) | (refine nfR_ovw (fun x y => ?_) (fun x y => ?_)) | exact nfR_getL (by simp only [nrefL, nref, and_self]))); done) | (intro x hx; (repeat (first | (exfalso; omega) | (rcases x with _ | x; first | (and_intros <;> (first | exact rfl | exact trivial | exact ⟨Or.inr rfl, Fit_enI⟩ | exact Fit_enI | exact Or.inr rfl | exact Or.inl rfl | exact fun x hx => absurd hx (by omega) | exact ⟨Or.inl rfl, fun x hx => absurd hx (by omega)⟩)) | (first | exact rfl | exact trivial | exact ⟨Or.inr rfl, Fit_enI⟩ | exact Fit_enI | exact Or.inr rfl | exact Or.inl rfl | exact fun x hx => absurd hx (by omega) | exact ⟨Or.inl rfl, fun x hx => absurd hx (by omega)⟩)))); done) | (and_intros <;> first | (with_reducible trivial) | omega | assumption | (intro x y _ _; (repeat (first | exact nfR_enI | exact nfR_lit (by simp only [nrefL, nref, and_self]) | (refine nfR_app (fun x y => ?_) (fun x y => ?_)) | (refine nfR_ins (fun x y => ?_) (fun x y => ?_)) | (refine nfR_del (fun x y => ?_)) | (refine nfR_upc (fun x y => ?_) (by simp only [nrefL, nref, and_self])) | (refine nfR_ovw (fun x y => ?_) (fun x y => ?_)) | exact nfR_getL (by simp only [nrefL, nref, and_self]))); done) | (intro x hx; (repeat (first | (exfalso; omega) | (rcases x with _ | x; first | (and_intros <;> (first | exact rfl | exact trivial | exact ⟨Or.inr rfl, Fit_enI⟩ | exact Fit_enI | exact Or.inr rfl | exact Or.inl rfl | exact fun x hx => absurd hx (by omega) | exact ⟨Or.inl rfl, fun x hx => absurd hx (by omega)⟩)) | (first | exact rfl | exact trivial | exact ⟨Or.inr rfl, Fit_enI⟩ | exact Fit_enI | exact Or.inr rfl | exact Or.inl rfl | exact fun x hx => absurd hx (by omega) | exact ⟨Or.inl rfl, fun x hx => absurd hx (by omega)⟩)))); done)) | grind))
    refine seqM ?_
    refine sq ctNo_ok ?_
    simp only [go_sem, Nat.reduceLeDiff, Nat.reduceLT, Nat.reduceAdd, Nat.reduceMul, Nat.reduceSub, Nat.reduceEqDiff, Nat.reduceBEq, Int.reduceToNat, reduceCtorEq]
    repeat ((with_reducible refine And.intro ?_ ?_); focus (first | (with_reducible trivial) | omega | (intro x y _ _; (repeat (first | exact nfR_enI | exact nfR_lit (by simp only [nrefL, nref, and_self]) | (refine nfR_app (fun x y => ?_) (fun x y => ?_)) | (refine nfR_ins (fun x y => ?_) (fun x y => ?_)) | (refine nfR_del (fun x y => ?_)) | (refine nfR_upc (fun x y => ?_) (by simp only [nrefL, nref, and_self])) | (refine nfR_ovw (fun x y => ?_) (fun x y => ?_)) | exact nfR_getL (by simp only [nrefL, nref, and_self]))); done) | (intro x hx; (repeat (first | (exfalso; omega) | (rcases x with _ | x; first | (and_intros <;> (first | exact rfl | exact trivial | exact ⟨Or.inr rfl, Fit_enI⟩ | exact Fit_enI | exact Or.inr rfl | exact Or.inl rfl | exact fun x hx => absurd hx (by omega) | exact ⟨Or.inl rfl, fun x hx => absurd hx (by omega)⟩)) | (first | exact rfl | exact trivial | exact ⟨Or.inr rfl, Fit_enI⟩ | exact Fit_enI | exact Or.inr rfl | exact Or.inl rfl | exact fun x hx => absurd hx (by omega) | exact ⟨Or.inl rfl, fun x hx => absurd hx (by omega)⟩)))); done) | (and_intros <;> first | (with_reducible trivial) | omega | assumption | (intro x y _ _; (repeat (first | exact nfR_enI | exact nfR_lit (by simp only [nrefL, nref, and_self]) | (refine nfR_app (fun x y => ?_) (fun x y => ?_)) | (refine nfR_ins (fun x y => ?_) (fun x y => ?_)) | (refine nfR_del (fun x y => ?_)) | (refine nfR_upc (fun x y => ?_) (by simp only [nrefL, nref, and_self])) | (refine nfR_ovw (fun x y => ?_) (fun x y => ?_)) | exact nfR_getL (by simp only [nrefL, nref, and_self]))); done) | (intro x hx; (repeat (first | (exfalso; omega) | (rcases x with _ | x; first | (and_intros <;> (first | exact rfl | exact trivial | exact ⟨Or.inr rfl, Fit_enI⟩ | exact Fit_enI | exact Or.inr rfl | exact Or.inl rfl | exact fun x hx => absurd hx (by omega) | exact ⟨Or.inl rfl, fun x hx => absurd hx (by omega)⟩)) | (first | exact rfl | exact trivial | exact ⟨Or.inr rfl, Fit_enI⟩ | exact Fit_enI | exact Or.inr rfl | exact Or.inl rfl | exact fun x hx => absurd hx (by omega) | exact ⟨Or.inl rfl, fun x hx => absurd hx (by omega)⟩)))); done)) | grind))
    refine condM rfl trivial (fun hc => ?_) (fun hc => ?_)
    · replace H := cond_t hc H
      refine sq ctNo_ok ?_
      simp only [go_sem, Nat.reduceLeDiff, Nat.reduceLT, Nat.reduceAdd, Nat.reduceMul, Nat.reduceSub, Nat.reduceEqDiff, Nat.reduceBEq, Int.reduceToNat, reduceCtorEq]
      refine rg ctNo_ok ?_
      simp only [go_sem, Nat.reduceLeDiff, Nat.reduceLT, Nat.reduceAdd, Nat.reduceMul, Nat.reduceSub, Nat.reduceEqDiff, Nat.reduceBEq, Int.reduceToNat, reduceCtorEq]
      obtain rfl := Option.some.inj H
      first | rfl | simp only [Bool.and_false, Bool.false_and, Bool.and_true, Bool.true_and]
    replace H := cond_f hc H
    refine rg ctNo_ok ?_
    simp only [go_sem, Nat.reduceLeDiff, Nat.reduceLT, Nat.reduceAdd, Nat.reduceMul, Nat.reduceSub, Nat.reduceEqDiff, Nat.reduceBEq, Int.reduceToNat, reduceCtorEq]
    refine seqM ?_
    obtain ⟨r3, e4, H⟩ := Option.bind_eq_some_iff.1 H
    refine rg ct9t1_ok ?_
    simp only [go_sem, Nat.reduceLeDiff, Nat.reduceLT, Nat.reduceAdd, Nat.reduceMul, Nat.reduceSub, Nat.reduceEqDiff, Nat.reduceBEq, Int.reduceToNat, reduceCtorEq, ct9t1_22, body22, e4]
    repeat ((with_reducible refine And.intro ?_ ?_); focus (first | (with_reducible trivial) | omega | (intro x y _ _; (repeat (first | exact nfR_enI | exact nfR_lit (by simp only [nrefL, nref, and_self]) | (refine nfR_app (fun x y => ?_) (fun x y => ?_)) | (refine nfR_ins (fun x y => ?_) (fun x y => ?_)) | (refine nfR_del (fun x y => ?_)) | (refine nfR_upc (fun x y => ?_) (by simp only [nrefL, nref, and_self])) | (refine nfR_ovw (fun x y => ?_) (fun x y => ?_)) | exact nfR_getL (by simp only [nrefL, nref, and_self]))); done) | (intro x hx; (repeat (first | (exfalso; omega) | (rcases x with _ | x; first | (and_intros <;> (first | exact rfl | exact trivial | exact ⟨Or.inr rfl, Fit_enI⟩ | exact Fit_enI | exact Or.inr rfl | exact Or.inl rfl | exact fun x hx => absurd hx (by omega) | exact ⟨Or.inl rfl, fun x hx => absurd hx (by omega)⟩)) | (first | exact rfl | exact trivial | exact ⟨Or.inr rfl, Fit_enI⟩ | exact Fit_enI | exact Or.inr rfl | exact Or.inl rfl | exact fun x hx => absurd hx (by omega) | exact ⟨Or.inl rfl, fun x hx => absurd hx (by omega)⟩)))); done) | (and_intros <;> first | (with_reducible trivial) | omega | assumption | (intro x y _ _; (repeat (first | exact nfR_enI | exact nfR_lit (by simp only [nrefL, nref, and_self]) | (refine nfR_app (fun x y => ?_) (fun x y => ?_)) | (refine nfR_ins (fun x y => ?_) (fun x y => ?_)) | (refine nfR_del (fun x y => ?_)) | (refine nfR_upc (fun x y => ?_) (by simp only [nrefL, nref, and_self])) | (refine nfR_ovw (fun x y => ?_) (fun x y => ?_)) | exact nfR_getL (by simp only [nrefL, nref, and_self]))); done) | (intro x hx; (repeat (first | (exfalso; omega) | (rcases x with _ | x; first | (and_intros <;> (first | exact rfl | exact trivial | exact ⟨Or.inr rfl, Fit_enI⟩ | exact Fit_enI | exact Or.inr rfl | exact Or.inl rfl | exact fun x hx => absurd hx (by omega) | exact ⟨Or.inl rfl, fun x hx => absurd hx (by omega)⟩)) | (first | exact rfl | exact trivial | exact ⟨Or.inr rfl, Fit_enI⟩ | exact Fit_enI | exact Or.inr rfl | exact Or.inl rfl | exact fun x hx => absurd hx (by omega) | exact ⟨Or.inl rfl, fun x hx => absurd hx (by omega)⟩)))); done)) | grind))
    refine seqM ?_
    refine sq ctNo_ok ?_
    simp only [go_sem, Nat.reduceLeDiff, Nat.reduceLT, Nat.reduceAdd, Nat.reduceMul, Nat.reduceSub, Nat.reduceEqDiff, Nat.reduceBEq, Int.reduceToNat, reduceCtorEq]
    refine condM rfl trivial (fun hc => ?_) (fun hc => ?_)
    · replace H := cond_t hc H
      refine sq ctNo_ok ?_
      simp only [go_sem, Nat.reduceLeDiff, Nat.reduceLT, Nat.reduceAdd, Nat.reduceMul, Nat.reduceSub, Nat.reduceEqDiff, Nat.reduceBEq, Int.reduceToNat, reduceCtorEq]
      repeat ((with_reducible refine And.intro ?_ ?_); focus (first | (with_reducible trivial) | omega | grind))
      refine rg ctNo_ok ?_
      simp only [go_sem, Nat.reduceLeDiff, Nat.reduceLT, Nat.reduceAdd, Nat.reduceMul, Nat.reduceSub, Nat.reduceEqDiff, Nat.reduceBEq, Int.reduceToNat, reduceCtorEq]
      obtain rfl := Option.some.inj H
      first | rfl | simp only [Bool.and_false, Bool.false_and, Bool.and_true, Bool.true_and]
    replace H := cond_f hc H
    refine rg ctNo_ok ?_
    simp only [go_sem, Nat.reduceLeDiff, Nat.reduceLT, Nat.reduceAdd, Nat.reduceMul, Nat.reduceSub, Nat.reduceEqDiff, Nat.reduceBEq, Int.reduceToNat, reduceCtorEq]
    refine seqM ?_
    refine sq ctNo_ok ?_
    simp only [go_sem, Nat.reduceLeDiff, Nat.reduceLT, Nat.reduceAdd, Nat.reduceMul, Nat.reduceSub, Nat.reduceEqDiff, Nat.reduceBEq, Int.reduceToNat, reduceCtorEq]
    refine condM rfl trivial (fun hc => ?_) (fun hc => ?_)
    · replace H := cond_t hc H
      refine sq ctNo_ok ?_
      simp only [go_sem, Nat.reduceLeDiff, Nat.reduceLT, Nat.reduceAdd, Nat.reduceMul, Nat.reduceSub, Nat.reduceEqDiff, Nat.reduceBEq, Int.reduceToNat, reduceCtorEq]
      refine rg ctNo_ok ?_
      simp only [go_sem, Nat.reduceLeDiff, Nat.reduceLT, Nat.reduceAdd, Nat.reduceMul, Nat.reduceSub, Nat.reduceEqDiff, Nat.reduceBEq, Int.reduceToNat, reduceCtorEq]
      obtain rfl := Option.some.inj H
      first | rfl | simp only [Bool.and_false, Bool.false_and, Bool.and_true, Bool.true_and]
    replace H := cond_f hc H
    refine rg ctNo_ok ?_
    simp only [go_sem, Nat.reduceLeDiff, Nat.reduceLT, Nat.reduceAdd, Nat.reduceMul, Nat.reduceSub, Nat.reduceEqDiff, Nat.reduceBEq, Int.reduceToNat, reduceCtorEq]
    refine sq ctNo_ok ?_
    simp only [go_sem, Nat.reduceLeDiff, Nat.reduceLT, Nat.reduceAdd, Nat.reduceMul, Nat.reduceSub, Nat.reduceEqDiff, Nat.reduceBEq, Int.reduceToNat, reduceCtorEq]
    refine sq ctNo_ok ?_
    simp only [go_sem, Nat.reduceLeDiff, Nat.reduceLT, Nat.reduceAdd, Nat.reduceMul, Nat.reduceSub, Nat.reduceEqDiff, Nat.reduceBEq, Int.reduceToNat, reduceCtorEq]
    repeat ((with_reducible refine And.intro ?_ ?_); focus (first | (with_reducible trivial) | omega | grind))
    refine sq ctNo_ok ?_
    simp only [go_sem, Nat.reduceLeDiff, Nat.reduceLT, Nat.reduceAdd, Nat.reduceMul, Nat.reduceSub, Nat.reduceEqDiff, Nat.reduceBEq, Int.reduceToNat, reduceCtorEq]
    repeat ((with_reducible refine And.intro ?_ ?_); focus (first | (with_reducible trivial) | omega | grind))
    refine seqM ?_
    refine seqM ?_
    obtain ⟨f5, H⟩ := need_some.1 H
    replace f5 := g_iff.1 f5
    replace f5 := fun g => ne0_iff.1 (f5 g)
    refine rg ctNo_ok ?_
    simp only [go_sem, Nat.reduceLeDiff, Nat.reduceLT, Nat.reduceAdd, Nat.reduceMul, Nat.reduceSub, Nat.reduceEqDiff, Nat.reduceBEq, Int.reduceToNat, reduceCtorEq]
    repeat ((with_reducible refine And.intro ?_ ?_); focus (first | (with_reducible trivial) | omega | exact f5 | (intro g; have q := f5 (by first | exact g | simpa using g); first | exact q | exact ⟨q.1, q.2.1⟩ | exact q.2.2 | omega | exact ⟨g, q⟩ | exact ⟨trivial, q⟩) | grind))
    refine condM rfl trivial (fun hc => ?_) (fun hc => ?_)
    · replace H := cond_t hc H
      refine sq ctNo_ok ?_
      simp only [go_sem, Nat.reduceLeDiff, Nat.reduceLT, Nat.reduceAdd, Nat.reduceMul, Nat.reduceSub, Nat.reduceEqDiff, Nat.reduceBEq, Int.reduceToNat, reduceCtorEq]
      refine rg ctNo_ok ?_
      simp only [go_sem, Nat.reduceLeDiff, Nat.reduceLT, Nat.reduceAdd, Nat.reduceMul, Nat.reduceSub, Nat.reduceEqDiff, Nat.reduceBEq, Int.reduceToNat, reduceCtorEq]
      obtain rfl := Option.some.inj H
      first | rfl | simp only [Bool.and_false, Bool.false_and, Bool.and_true, Bool.true_and]
    replace H := cond_f hc H
    refine rg ctNo_ok ?_
    simp only [go_sem, Nat.reduceLeDiff, Nat.reduceLT, Nat.reduceAdd, Nat.reduceMul, Nat.reduceSub, Nat.reduceEqDiff, Nat.reduceBEq, Int.reduceToNat, reduceCtorEq]
    refine seqM ?_
    refine sq ctNo_ok ?_
    simp only [go_sem, Nat.reduceLeDiff, Nat.reduceLT, Nat.reduceAdd, Nat.reduceMul, Nat.reduceSub, Nat.reduceEqDiff, Nat.reduceBEq, Int.reduceToNat, reduceCtorEq]
    refine blkM ?_
    refine loop_den (fun s : Int => (.top :: .top :: .ptr 0 0 0 0 :: .top :: .top :: .bool r1 :: .ptr 2 0 0 0 :: .top :: .top :: .top :: .int .i64 s :: .top :: .top :: .top :: .top :: .top :: .top :: .top :: .top :: .top :: .top :: .top :: .top :: .top :: .top :: .top :: .top :: .top :: .top :: .top :: .top :: .top :: .top :: .top :: .top :: .top :: .top :: .top :: .top :: .top :: .top :: .top :: .top :: .top :: .top :: .top :: .top :: .top :: .top :: .top :: .top :: .top :: .top :: .top :: .top :: .top :: .top :: .top :: .top :: .top :: .top :: .top :: .top :: .top :: .top :: .top :: .top :: .top :: .top :: .top :: .top :: .top :: .top :: .top :: .top :: .top :: .top :: .top :: .top :: .top :: .top :: .top :: .top :: .top :: .top :: .top :: .top :: .top :: .top :: .top :: .top :: .top :: .top :: .top :: .top :: .top :: .top :: .top :: .top :: .top :: .top :: .top :: .top :: .top :: .top :: .top :: .top :: .top :: .top :: .top :: .top :: .top :: .top :: .top :: .top :: .top :: .top :: .top :: .top :: .top :: .top :: .top :: .top :: .top :: .top :: .top :: .top :: .top :: .top :: .top :: .top :: .top :: .top :: .top :: .top :: .top :: .top :: .top :: .top :: .top :: .top :: .top :: .top :: .top :: .top :: .top :: .top :: .top :: .top :: [])) (fun s => [.lit 37 [.ro 5 p0.List.length false (enR c_TWakeRule p0.List)], .dead, .lit 23 [.int .i64 r3.1.Id, .int .i64 r3.1.Start, .int .i64 r3.1.Every, .int .i64 r3.1.Length, .int .i64 r3.1.Group], .dead]) (fun e : Unit => (.top :: .top :: .ptr 0 0 0 0 :: .top :: .top :: .bool r1 :: .ptr 2 0 0 0 :: .top :: .top :: .top :: .top :: .top :: .top :: .top :: .top :: .top :: .top :: .top :: .top :: .top :: .top :: .top :: .top :: .top :: .top :: .top :: .top :: .top :: .top :: .top :: .top :: .top :: .top :: .top :: .top :: .top :: .top :: .top :: .top :: .top :: .top :: .top :: .top :: .top :: .top :: .top :: .top :: .top :: .top :: .top :: .top :: .top :: .top :: .top :: .top :: .top :: .top :: .top :: .top :: .top :: .top :: .top :: .top :: .top :: .top :: .top :: .top :: .top :: .top :: .top :: .top :: .top :: .top :: .top :: .top :: .top :: .top :: .top :: .top :: .top :: .top :: .top :: .top :: .top :: .top :: .top :: .top :: .top :: .top :: .top :: .top :: .top :: .top :: .top :: .top :: .top :: .top :: .top :: .top :: .top :: .top :: .top :: .top :: .top :: .top :: .top :: .top :: .top :: .top :: .top :: .top :: .top :: .top :: .top :: .top :: .top :: .top :: .top :: .top :: .top :: .top :: .top :: .top :: .top :: .top :: .top :: .top :: .top :: .top :: .top :: .top :: .top :: .top :: .top :: .top :: .top :: .top :: .top :: .top :: .top :: .top :: .top :: .top :: .top :: .top :: .top :: .top :: .top :: .top :: [])) (fun e => [.lit 37 [.ro 5 p0.List.length false (enR c_TWakeRule p0.List)], .dead, .lit 23 [.int .i64 r3.1.Id, .int .i64 r3.1.Start, .int .i64 r3.1.Every, .int .i64 r3.1.Length, .int .i64 r3.1.Group], .dead]) H ?_ (fun v1_1 o H hn1_1 hn2_1 => ?_) (fun e H => ?_)
    · refine SubF_of ⟨[some 0, some 1, some 2, some 3], ?_, ?_, by rfl, by rfl⟩
      · simp [CvL, Cv, getM]
      · exact ⟨(by simp [CvB, CvL, Cv, blkAt, geth, getM]), CvB_dead, (by simp [CvB, CvL, Cv, blkAt, geth, getM]), CvB_dead, trivial⟩
    · unfold F9_L1 at H
      try dsimp only at H ⊢
      refine seqM ?_
      refine sq ctNo_ok ?_
      simp only [go_sem, Nat.reduceLeDiff, Nat.reduceLT, Nat.reduceAdd, Nat.reduceMul, Nat.reduceSub, Nat.reduceEqDiff, Nat.reduceBEq, Int.reduceToNat, reduceCtorEq]
      repeat ((with_reducible refine And.intro ?_ ?_); focus (first | (with_reducible trivial) | omega | (intro x y _ _; (repeat (first | exact nfR_enI | exact nfR_lit (by simp only [nrefL, nref, and_self]) | (refine nfR_app (fun x y => ?_) (fun x y => ?_)) | (refine nfR_ins (fun x y => ?_) (fun x y => ?_)) | (refine nfR_del (fun x y => ?_)) | (refine nfR_upc (fun x y => ?_) (by simp only [nrefL, nref, and_self])) | (refine nfR_ovw (fun x y => ?_) (fun x y => ?_)) | exact nfR_getL (by simp only [nrefL, nref, and_self]))); done) | (intro x hx; (repeat (first | (exfalso; omega) | (rcases x with _ | x; first | (and_intros <;> (first | exact rfl | exact trivial | exact ⟨Or.inr rfl, Fit_enI⟩ | exact Fit_enI | exact Or.inr rfl | exact Or.inl rfl | exact fun x hx => absurd hx (by omega) | exact ⟨Or.inl rfl, fun x hx => absurd hx (by omega)⟩)) | (first | exact rfl | exact trivial | exact ⟨Or.inr rfl, Fit_enI⟩ | exact Fit_enI | exact Or.inr rfl | exact Or.inl rfl | exact fun x hx => absurd hx (by omega) | exact ⟨Or.inl rfl, fun x hx => absurd hx (by omega)⟩)))); done) | (and_intros <;> first | (with_reducible trivial) | omega | assumption | (intro x y _ _; (repeat (first | exact nfR_enI | exact nfR_lit (by simp only [nrefL, nref, and_self]) | (refine nfR_app (fun x y => ?_) (fun x y => ?_)) | (refine nfR_ins (fun x y => ?_) (fun x y => ?_)) | (refine nfR_del (fun x y => ?_)) | (refine nfR_upc (fun x y => ?_) (by simp only [nrefL, nref, and_self])) | (refine nfR_ovw (fun x y => ?_) (fun x y => ?_)) | exact nfR_getL (by simp only [nrefL, nref, and_self]))); done) | (intro x hx; (repeat (first | (exfalso; omega) | (rcases x with _ | x; first | (and_intros <;> (first | exact rfl | exact trivial | exact ⟨Or.inr rfl, Fit_enI⟩ | exact Fit_enI | exact Or.inr rfl | exact Or.inl rfl | exact fun x hx => absurd hx (by omega) | exact ⟨Or.inl rfl, fun x hx => absurd hx (by omega)⟩)) | (first | exact rfl | exact trivial | exact ⟨Or.inr rfl, Fit_enI⟩ | exact Fit_enI | exact Or.inr rfl | exact Or.inl rfl | exact fun x hx => absurd hx (by omega) | exact ⟨Or.inl rfl, fun x hx => absurd hx (by omega)⟩)))); done)) | grind))
      refine condM' rfl trivial (fun hc => ?_) (fun hc => ?_)
      · replace H := cond_f hc H
        refine rg ctNo_ok ?_
        simp only [go_sem, Nat.reduceLeDiff, Nat.reduceLT, Nat.reduceAdd, Nat.reduceMul, Nat.reduceSub, Nat.reduceEqDiff, Nat.reduceBEq, Int.reduceToNat, reduceCtorEq]
        refine ⟨_, (Option.some.inj H).symm, ?_⟩
        refine SubF_of ⟨[some 0, some 1, some 2, some 3], ?_, ?_, by rfl, by rfl⟩
        · simp [CvL, Cv, getM]
        · exact ⟨(by simp [CvB, CvL, Cv, blkAt, geth, getM]), CvB_dead, (by simp [CvB, CvL, Cv, blkAt, geth, getM]), CvB_dead, trivial⟩
      replace H := cond_t hc H
      refine rg ctNo_ok ?_
      simp only [go_sem, Nat.reduceLeDiff, Nat.reduceLT, Nat.reduceAdd, Nat.reduceMul, Nat.reduceSub, Nat.reduceEqDiff, Nat.reduceBEq, Int.reduceToNat, reduceCtorEq]
      refine seqM ?_
      refine blkM ?_
      refine seqM ?_
      obtain ⟨f6, H⟩ := need_some.1 H
      replace f6 := inb_iff.1 f6
      refine rg ctNo_ok ?_
      simp only [go_sem, Nat.reduceLeDiff, Nat.reduceLT, Nat.reduceAdd, Nat.reduceMul, Nat.reduceSub, Nat.reduceEqDiff, Nat.reduceBEq, Int.reduceToNat, reduceCtorEq, f6]
      repeat ((with_reducible refine And.intro ?_ ?_); focus (first | (with_reducible trivial) | omega | grind))
      refine seqM ?_
      obtain ⟨r7, e8, H⟩ := Option.bind_eq_some_iff.1 H
      refine rg ct9t2_ok ?_
      simp only [go_sem, Nat.reduceLeDiff, Nat.reduceLT, Nat.reduceAdd, Nat.reduceMul, Nat.reduceSub, Nat.reduceEqDiff, Nat.reduceBEq, Int.reduceToNat, reduceCtorEq, ct9t2_18, body18, e8]
      repeat ((with_reducible refine And.intro ?_ ?_); focus (first | (with_reducible trivial) | omega | (intro x y _ _; (repeat (first | exact nfR_enI | exact nfR_lit (by simp only [nrefL, nref, and_self]) | (refine nfR_app (fun x y => ?_) (fun x y => ?_)) | (refine nfR_ins (fun x y => ?_) (fun x y => ?_)) | (refine nfR_del (fun x y => ?_)) | (refine nfR_upc (fun x y => ?_) (by simp only [nrefL, nref, and_self])) | (refine nfR_ovw (fun x y => ?_) (fun x y => ?_)) | exact nfR_getL (by simp only [nrefL, nref, and_self]))); done) | (intro x hx; (repeat (first | (exfalso; omega) | (rcases x with _ | x; first | (and_intros <;> (first | exact rfl | exact trivial | exact ⟨Or.inr rfl, Fit_enI⟩ | exact Fit_enI | exact Or.inr rfl | exact Or.inl rfl | exact fun x hx => absurd hx (by omega) | exact ⟨Or.inl rfl, fun x hx => absurd hx (by omega)⟩)) | (first | exact rfl | exact trivial | exact ⟨Or.inr rfl, Fit_enI⟩ | exact Fit_enI | exact Or.inr rfl | exact Or.inl rfl | exact fun x hx => absurd hx (by omega) | exact ⟨Or.inl rfl, fun x hx => absurd hx (by omega)⟩)))); done) | (and_intros <;> first | (with_reducible trivial) | omega | assumption | (intro x y _ _; (repeat (first | exact nfR_enI | exact nfR_lit (by simp only [nrefL, nref, and_self]) | (refine nfR_app (fun x y => ?_) (fun x y => ?_)) | (refine nfR_ins (fun x y => ?_) (fun x y => ?_)) | (refine nfR_del (fun x y => ?_)) | (refine nfR_upc (fun x y => ?_) (by simp only [nrefL, nref, and_self])) | (refine nfR_ovw (fun x y => ?_) (fun x y => ?_)) | exact nfR_getL (by simp only [nrefL, nref, and_self]))); done) | (intro x hx; (repeat (first | (exfalso; omega) | (rcases x with _ | x; first | (and_intros <;> (first | exact rfl | exact trivial | exact ⟨Or.inr rfl, Fit_enI⟩ | exact Fit_enI | exact Or.inr rfl | exact Or.inl rfl | exact fun x hx => absurd hx (by omega) | exact ⟨Or.inl rfl, fun x hx => absurd hx (by omega)⟩)) | (first | exact rfl | exact trivial | exact ⟨Or.inr rfl, Fit_enI⟩ | exact Fit_enI | exact Or.inr rfl | exact Or.inl rfl | exact fun x hx => absurd hx (by omega) | exact ⟨Or.inl rfl, fun x hx => absurd hx (by omega)⟩)))); done)) | grind))
      refine sq ctNo_ok ?_
      simp only [go_sem, Nat.reduceLeDiff, Nat.reduceLT, Nat.reduceAdd, Nat.reduceMul, Nat.reduceSub, Nat.reduceEqDiff, Nat.reduceBEq, Int.reduceToNat, reduceCtorEq]
      repeat ((with_reducible refine And.intro ?_ ?_); focus (first | (with_reducible trivial) | omega | grind))
      refine condM rfl trivial (fun hc => ?_) (fun hc => ?_)
      · replace H := cond_t hc H
        refine sq ctNo_ok ?_
        simp only [go_sem, Nat.reduceLeDiff, Nat.reduceLT, Nat.reduceAdd, Nat.reduceMul, Nat.reduceSub, Nat.reduceEqDiff, Nat.reduceBEq, Int.reduceToNat, reduceCtorEq]
        refine rg ctNo_ok ?_
        simp only [go_sem, Nat.reduceLeDiff, Nat.reduceLT, Nat.reduceAdd, Nat.reduceMul, Nat.reduceSub, Nat.reduceEqDiff, Nat.reduceBEq, Int.reduceToNat, reduceCtorEq]
        have H := hn2_1 _ (Option.some.inj H).symm
        obtain rfl := Option.some.inj H
        first | rfl | simp only [Bool.and_false, Bool.false_and, Bool.and_true, Bool.true_and]
      replace H := cond_f hc H
      refine rg ctNo_ok ?_
      simp only [go_sem, Nat.reduceLeDiff, Nat.reduceLT, Nat.reduceAdd, Nat.reduceMul, Nat.reduceSub, Nat.reduceEqDiff, Nat.reduceBEq, Int.reduceToNat, reduceCtorEq]
      refine rg ctNo_ok ?_
      simp only [go_sem, Nat.reduceLeDiff, Nat.reduceLT, Nat.reduceAdd, Nat.reduceMul, Nat.reduceSub, Nat.reduceEqDiff, Nat.reduceBEq, Int.reduceToNat, reduceCtorEq]
      refine ⟨_, (Option.some.inj H).symm, ?_⟩
      refine SubF_of ⟨[some 0, some 1, some 2, some 3], ?_, ?_, by rfl, by rfl⟩
      · simp [CvL, Cv, getM]
      · exact ⟨(by simp [CvB, CvL, Cv, blkAt, geth, getM]), CvB_dead, (by simp [CvB, CvL, Cv, blkAt, geth, getM]), CvB_dead, trivial⟩
    · try dsimp only at H ⊢
      try simp only [m_normal, k_normal, b_normal, kL_normal, r_normal]
      refine seqM ?_
      obtain ⟨r9, e10, H⟩ := Option.bind_eq_some_iff.1 H
      refine rg ct9t3_ok ?_
      simp only [go_sem, Nat.reduceLeDiff, Nat.reduceLT, Nat.reduceAdd, Nat.reduceMul, Nat.reduceSub, Nat.reduceEqDiff, Nat.reduceBEq, Int.reduceToNat, reduceCtorEq, ct9t3_24, body24, e10]
      repeat ((with_reducible refine And.intro ?_ ?_); focus (first | (with_reducible trivial) | omega | (intro x y _ _; (repeat (first | exact nfR_enI | exact nfR_lit (by simp only [nrefL, nref, and_self]) | (refine nfR_app (fun x y => ?_) (fun x y => ?_)) | (refine nfR_ins (fun x y => ?_) (fun x y => ?_)) | (refine nfR_del (fun x y => ?_)) | (refine nfR_upc (fun x y => ?_) (by simp only [nrefL, nref, and_self])) | (refine nfR_ovw (fun x y => ?_) (fun x y => ?_)) | exact nfR_getL (by simp only [nrefL, nref, and_self]))); done) | (intro x hx; (repeat (first | (exfalso; omega) | (rcases x with _ | x; first | (and_intros <;> (first | exact rfl | exact trivial | exact ⟨Or.inr rfl, Fit_enI⟩ | exact Fit_enI | exact Or.inr rfl | exact Or.inl rfl | exact fun x hx => absurd hx (by omega) | exact ⟨Or.inl rfl, fun x hx => absurd hx (by omega)⟩)) | (first | exact rfl | exact trivial | exact ⟨Or.inr rfl, Fit_enI⟩ | exact Fit_enI | exact Or.inr rfl | exact Or.inl rfl | exact fun x hx => absurd hx (by omega) | exact ⟨Or.inl rfl, fun x hx => absurd hx (by omega)⟩)))); done) | (and_intros <;> first | (with_reducible trivial) | omega | assumption | (intro x y _ _; (repeat (first | exact nfR_enI | exact nfR_lit (by simp only [nrefL, nref, and_self]) | (refine nfR_app (fun x y => ?_) (fun x y => ?_)) | (refine nfR_ins (fun x y => ?_) (fun x y => ?_)) | (refine nfR_del (fun x y => ?_)) | (refine nfR_upc (fun x y => ?_) (by simp only [nrefL, nref, and_self])) | (refine nfR_ovw (fun x y => ?_) (fun x y => ?_)) | exact nfR_getL (by simp only [nrefL, nref, and_self]))); done) | (intro x hx; (repeat (first | (exfalso; omega) | (rcases x with _ | x; first | (and_intros <;> (first | exact rfl | exact trivial | exact ⟨Or.inr rfl, Fit_enI⟩ | exact Fit_enI | exact Or.inr rfl | exact Or.inl rfl | exact fun x hx => absurd hx (by omega) | exact ⟨Or.inl rfl, fun x hx => absurd hx (by omega)⟩)) | (first | exact rfl | exact trivial | exact ⟨Or.inr rfl, Fit_enI⟩ | exact Fit_enI | exact Or.inr rfl | exact Or.inl rfl | exact fun x hx => absurd hx (by omega) | exact ⟨Or.inl rfl, fun x hx => absurd hx (by omega)⟩)))); done)) | grind))
      refine seqM ?_
      obtain ⟨f11, H⟩ := need_some.1 H
      replace f11 := g_iff.1 f11
      refine rg ct9t4_ok ?_
      simp only [go_sem, Nat.reduceLeDiff, Nat.reduceLT, Nat.reduceAdd, Nat.reduceMul, Nat.reduceSub, Nat.reduceEqDiff, Nat.reduceBEq, Int.reduceToNat, reduceCtorEq, ct9t4_32, body32]
      repeat ((with_reducible refine And.intro ?_ ?_); focus (first | (with_reducible trivial) | omega | exact f11 | (intro g; have q := f11 (by first | exact g | simpa using g); first | exact q | exact ⟨q.1, q.2.1⟩ | exact q.2.2 | omega | exact ⟨g, q⟩ | exact ⟨trivial, q⟩) | (intro x y _ _; (repeat (first | exact nfR_enI | exact nfR_lit (by simp only [nrefL, nref, and_self]) | (refine nfR_app (fun x y => ?_) (fun x y => ?_)) | (refine nfR_ins (fun x y => ?_) (fun x y => ?_)) | (refine nfR_del (fun x y => ?_)) | (refine nfR_upc (fun x y => ?_) (by simp only [nrefL, nref, and_self])) | (refine nfR_ovw (fun x y => ?_) (fun x y => ?_)) | exact nfR_getL (by simp only [nrefL, nref, and_self]))); done) | (intro x hx; (repeat (first | (exfalso; omega) | (rcases x with _ | x; first | (and_intros <;> (first | exact rfl | exact trivial | exact ⟨Or.inr rfl, Fit_enI⟩ | exact Fit_enI | exact Or.inr rfl | exact Or.inl rfl | exact fun x hx => absurd hx (by omega) | exact ⟨Or.inl rfl, fun x hx => absurd hx (by omega)⟩)) | (first | exact rfl | exact trivial | exact ⟨Or.inr rfl, Fit_enI⟩ | exact Fit_enI | exact Or.inr rfl | exact Or.inl rfl | exact fun x hx => absurd hx (by omega) | exact ⟨Or.inl rfl, fun x hx => absurd hx (by omega)⟩)))); done) | (and_intros <;> first | (with_reducible trivial) | omega | assumption | (intro x y _ _; (repeat (first | exact nfR_enI | exact nfR_lit (by simp only [nrefL, nref, and_self]) | (refine nfR_app (fun x y => ?_) (fun x y => ?_)) | (refine nfR_ins (fun x y => ?_) (fun x y => ?_)) | (refine nfR_del (fun x y => ?_)) | (refine nfR_upc (fun x y => ?_) (by simp only [nrefL, nref, and_self])) | (refine nfR_ovw (fun x y => ?_) (fun x y => ?_)) | exact nfR_getL (by simp only [nrefL, nref, and_self]))); done) | (intro x hx; (repeat (first | (exfalso; omega) | (rcases x with _ | x; first | (and_intros <;> (first | exact rfl | exact trivial | exact ⟨Or.inr rfl, Fit_enI⟩ | exact Fit_enI | exact Or.inr rfl | exact Or.inl rfl | exact fun x hx => absurd hx (by omega) | exact ⟨Or.inl rfl, fun x hx => absurd hx (by omega)⟩)) | (first | exact rfl | exact trivial | exact ⟨Or.inr rfl, Fit_enI⟩ | exact Fit_enI | exact Or.inr rfl | exact Or.inl rfl | exact fun x hx => absurd hx (by omega) | exact ⟨Or.inl rfl, fun x hx => absurd hx (by omega)⟩)))); done)) | (intro g; and_intros <;> first | (with_reducible trivial) | assumption | exact f11 g | (intro x y _ _; (repeat (first | exact nfR_enI | exact nfR_lit (by simp only [nrefL, nref, and_self]) | (refine nfR_app (fun x y => ?_) (fun x y => ?_)) | (refine nfR_ins (fun x y => ?_) (fun x y => ?_)) | (refine nfR_del (fun x y => ?_)) | (refine nfR_upc (fun x y => ?_) (by simp only [nrefL, nref, and_self])) | (refine nfR_ovw (fun x y => ?_) (fun x y => ?_)) | exact nfR_getL (by simp only [nrefL, nref, and_self]))); done) | (intro x hx; (repeat (first | (exfalso; omega) | (rcases x with _ | x; first | (and_intros <;> (first | exact rfl | exact trivial | exact ⟨Or.inr rfl, Fit_enI⟩ | exact Fit_enI | exact Or.inr rfl | exact Or.inl rfl | exact fun x hx => absurd hx (by omega) | exact ⟨Or.inl rfl, fun x hx => absurd hx (by omega)⟩)) | (first | exact rfl | exact trivial | exact ⟨Or.inr rfl, Fit_enI⟩ | exact Fit_enI | exact Or.inr rfl | exact Or.inl rfl | exact fun x hx => absurd hx (by omega) | exact ⟨Or.inl rfl, fun x hx => absurd hx (by omega)⟩)))); done) | (and_intros <;> first | (with_reducible trivial) | omega | assumption | (intro x y _ _; (repeat (first | exact nfR_enI | exact nfR_lit (by simp only [nrefL, nref, and_self]) | (refine nfR_app (fun x y => ?_) (fun x y => ?_)) | (refine nfR_ins (fun x y => ?_) (fun x y => ?_)) | (refine nfR_del (fun x y => ?_)) | (refine nfR_upc (fun x y => ?_) (by simp only [nrefL, nref, and_self])) | (refine nfR_ovw (fun x y => ?_) (fun x y => ?_)) | exact nfR_getL (by simp only [nrefL, nref, and_self]))); done) | (intro x hx; (repeat (first | (exfalso; omega) | (rcases x with _ | x; first | (and_intros <;> (first | exact rfl | exact trivial | exact ⟨Or.inr rfl, Fit_enI⟩ | exact Fit_enI | exact Or.inr rfl | exact Or.inl rfl | exact fun x hx => absurd hx (by omega) | exact ⟨Or.inl rfl, fun x hx => absurd hx (by omega)⟩)) | (first | exact rfl | exact trivial | exact ⟨Or.inr rfl, Fit_enI⟩ | exact Fit_enI | exact Or.inr rfl | exact Or.inl rfl | exact fun x hx => absurd hx (by omega) | exact ⟨Or.inl rfl, fun x hx => absurd hx (by omega)⟩)))); done))) | grind))
      refine rg ctNo_ok ?_
      simp only [go_sem, Nat.reduceLeDiff, Nat.reduceLT, Nat.reduceAdd, Nat.reduceMul, Nat.reduceSub, Nat.reduceEqDiff, Nat.reduceBEq, Int.reduceToNat, reduceCtorEq]
      obtain rfl := Option.some.inj H
      first | rfl | simp only [Bool.and_false, Bool.false_and, Bool.and_true, Bool.true_and]
  · cases hb
end Go.Proofs.Ytpgcekjnpieibaa
