/-
  The law WakeShared, walked.
-/
import Derived.Test.YtpgcekjnpieibaaK
import Derived.Test.YtpgcekjnpieibaaAm24
namespace Go.Proofs.Ytpgcekjnpieibaa
open Go.Am
set_option linter.unusedVariables false
set_option linter.unusedSimpArgs false
def ctQ : Ct := tab [(14, pureC body14), (16, pureC body16), (18, pureC body18)]
theorem ctQ_ok : CtOk Try.prog ctQ := tab_cons ok14 <| tab_cons ok16 <| tab_cons ok18 <| tab_nil
theorem ctQ14 (l : List AV) (h : List ABlk) : ctQ 14 l h = pureC body14 l h := rfl
theorem ctQ16 (l : List AV) (h : List ABlk) : ctQ 16 l h = pureC body16 l h := rfl
theorem ctQ18 (l : List AV) (h : List ABlk) : ctQ 18 l h = pureC body18 l h := rfl
theorem emod_le (x g : Int) (hx : 0 ≤ x) (hg : 0 < g) : x % g ≤ x := by
  have h1 := Int.mul_ediv_add_emod x g
  have h2 := Int.ediv_nonneg hx (show 0 ≤ g by omega)
  have h3 := Int.mul_nonneg (show 0 ≤ g by omega) h2
  omega
theorem gcdI_comm (x y : Int) : gcdI x y = gcdI y x := by simp only [gcdI, Nat.gcd_comm]
theorem gcdI_dvd (x y : Int) (hx : 0 ≤ x) (hy : 0 ≤ y) : gcdI x y ∣ x ∧ gcdI x y ∣ y := by
  obtain ⟨m, rfl⟩ := Int.eq_ofNat_of_zero_le hx
  obtain ⟨n, rfl⟩ := Int.eq_ofNat_of_zero_le hy
  rw [gcdI_cast]
  exact ⟨Int.natCast_dvd_natCast.2 (Nat.gcd_dvd_left m n), Int.natCast_dvd_natCast.2 (Nat.gcd_dvd_right m n)⟩
theorem neg_mod (x g : Int) (hg : 0 < g) : (-x) % g = if x % g = 0 then 0 else g - x % g := by
  have h0 := Int.emod_nonneg x (show g ≠ 0 by omega)
  have h1 := Int.emod_lt_of_pos x hg
  have h2 := Int.mul_ediv_add_emod x g
  split
  · refine emod_of _ g (-(x / g)) _ ?_ (by omega) (by omega)
    rw [Int.mul_neg]; omega
  · refine emod_of _ g (-(x / g) - 1) _ ?_ (by omega) (by omega)
    rw [Int.mul_sub, Int.mul_neg, Int.mul_one]; omega
theorem ovB_symm (a b c d e a2 b2 c2 d2 e2 : Int) (h1 : vld a b c d e = true) (h2 : vld a2 b2 c2 d2 e2 = true) : ovB b2 c2 d2 b c d = ovB b c d b2 c2 d2 := by
  simp only [vld, decide_eq_true_eq] at h1 h2
  by_cases hc : c = 0 <;> by_cases hc2 : c2 = 0
  · subst hc hc2
    simp only [ovB, if_true, mtB, mtA, show ¬ ((0 : Int) < 0) from by omega, false_and, if_false]
    congr 1
    exact propext ⟨fun h => ⟨by omega, by omega⟩, fun h => ⟨by omega, by omega⟩⟩
  · simp only [ovB, hc, hc2, if_true, if_false]
  · simp only [ovB, hc, hc2, if_true, if_false]
  · have hg := gcdI_bd c c2 (by omega)
    simp only [ovB, hc, hc2, if_false]
    rw [gcdI_comm c2 c, show b2 - b = -(b - b2) from by omega, neg_mod _ _ (by omega)]
    have h3 := Int.emod_nonneg (b - b2) (show gcdI c c2 ≠ 0 by omega)
    have h4 := Int.emod_lt_of_pos (b - b2) (show 0 < gcdI c c2 by omega)
    congr 1
    split
    · exact propext ⟨fun h => by omega, fun h => by omega⟩
    · exact propext ⟨fun h => by omega, fun h => by omega⟩
theorem ovB_self (a b c d e : Int) (h1 : vld a b c d e = true) : ovB b c d b c d = true := by
  simp only [vld, decide_eq_true_eq] at h1
  by_cases hc : c = 0
  · subst hc
    simp only [ovB, if_true, mtB, mtA, show ¬ ((0 : Int) < 0) from by omega, false_and, if_false, decide_eq_true_eq]
    omega
  · simp only [ovB, hc, if_false, Int.sub_self, Int.zero_emod, decide_eq_true_eq]
    omega
theorem mtB_shift (b c d f g s : Int) : mtB (b + s) c d (f + s) (g + s) = mtB b c d f g := by
  have h1 : mtA (b + s) c d (f + s) = mtA b c d f + s := by
    simp only [mtA]
    rw [show f + s - (b + s + d) = f - (b + d) from by omega]
    by_cases h : 0 < c ∧ b + d ≤ f
    · rw [if_pos h, if_pos ⟨h.1, by omega⟩]; omega
    · rw [if_neg h, if_neg (fun h' => h ⟨h'.1, by omega⟩)]
  simp only [mtB, h1]
  congr 1
  exact propext ⟨fun h => by omega, fun h => by omega⟩
theorem ovB_shift (b c d b2 c2 d2 s : Int) : ovB (b + s) c d (b2 + s) c2 d2 = ovB b c d b2 c2 d2 := by
  simp only [ovB]
  rw [show b + s - (b2 + s) = b - b2 from by omega, show b + s + d = b + d + s from by omega, show b2 + s + d2 = b2 + d2 + s from by omega, mtB_shift, mtB_shift]
theorem mt_of_awake (b c d b2 c2 d2 t : Int) (h0 : 1 ≤ c2) (hd : 1 ≤ d2 ∧ d2 ≤ c2) (h1 : b ≤ t) (h2 : t < b + d) (h3 : b2 ≤ t) (h4 : (t - b2) % c2 < d2) : mtB b2 c2 d2 b (b + d) = true := by
  have m0 := Int.emod_nonneg (t - b2) (show c2 ≠ 0 by omega)
  have m1 := Int.mul_ediv_add_emod (t - b2) c2
  have m2 := Int.ediv_nonneg (show 0 ≤ t - b2 by omega) (show 0 ≤ c2 by omega)
  have m3 := Int.mul_nonneg (show 0 ≤ c2 by omega) m2
  by_cases h : 0 < c2 ∧ b2 + d2 ≤ b
  · have hA : mtA b2 c2 d2 b = b2 + ((b - (b2 + d2)) / c2 + 1) * c2 := by rw [mtA, if_pos h]
    simp only [mtB, decide_eq_true_eq, hA]
    have hq := divs (b - (b2 + d2)) c2 (by omega) (by omega)
    have h5 : (b - (b2 + d2)) / c2 * c2 < (t - b2) / c2 * c2 := by rw [Int.mul_comm ((t - b2) / c2)]; omega
    have h6 := Int.lt_of_mul_lt_mul_right h5 (by omega)
    have h7 : ((b - (b2 + d2)) / c2 + 1) * c2 ≤ (t - b2) / c2 * c2 := Int.mul_le_mul_of_nonneg_right (by omega) (by omega)
    rw [Int.mul_comm ((t - b2) / c2)] at h7
    omega
  · have hA : mtA b2 c2 d2 b = b2 := by rw [mtA, if_neg h]
    simp only [mtB, decide_eq_true_eq, hA]
    omega
theorem ov_of_awake (a b c d e a2 b2 c2 d2 e2 t : Int) (h1 : awk a b c d e t = true) (h2 : awk a2 b2 c2 d2 e2 t = true) : ovB b c d b2 c2 d2 = true := by
  simp only [awk, decide_eq_true_eq] at h1 h2
  obtain ⟨v1, h1, h3⟩ := h1
  obtain ⟨v2, h2, h4⟩ := h2
  have w1 := v1
  have w2 := v2
  simp only [vld, decide_eq_true_eq] at w1 w2
  by_cases hc : c = 0 <;> by_cases hc2 : c2 = 0
  · rw [if_pos hc] at h3
    rw [if_pos hc2] at h4
    subst hc hc2
    simp only [ovB, if_true, mtB, mtA, show ¬ ((0 : Int) < 0) from by omega, false_and, if_false, decide_eq_true_eq]
    omega
  · rw [if_pos hc] at h3
    rw [if_neg hc2] at h4
    rw [ovB, if_pos hc]
    exact mt_of_awake b c d b2 c2 d2 t (by omega) (by omega) h1 (by omega) h2 h4
  · rw [if_neg hc] at h3
    rw [if_pos hc2] at h4
    rw [ovB, if_neg hc, if_pos hc2]
    exact mt_of_awake b2 c2 d2 b c d t (by omega) (by omega) h2 (by omega) h1 h3
  · rw [if_neg hc] at h3
    rw [if_neg hc2] at h4
    rw [ovB, if_neg hc, if_neg hc2, decide_eq_true_eq]
    have hg := gcdI_bd c c2 (by omega)
    obtain ⟨g1, g2⟩ := gcdI_dvd c c2 (by omega) (by omega)
    have u0 := Int.emod_nonneg (t - b) (show c ≠ 0 by omega)
    have v0 := Int.emod_nonneg (t - b2) (show c2 ≠ 0 by omega)
    have u1 := Int.mul_ediv_add_emod (t - b) c
    have v1 := Int.mul_ediv_add_emod (t - b2) c2
    generalize (t - b) % c = u at *
    generalize (t - b2) % c2 = v at *
    have hdv : gcdI c c2 ∣ (b - b2) - (v - u) := by
      have e : (b - b2) - (v - u) = c2 * ((t - b2) / c2) - c * ((t - b) / c) := by omega
      rw [e]
      exact Int.dvd_sub (Int.dvd_mul_of_dvd_left g2) (Int.dvd_mul_of_dvd_left g1)
    have hmod : (b - b2) % gcdI c c2 = (v - u) % gcdI c c2 := Int.emod_eq_emod_iff_emod_sub_eq_zero.2 (Int.emod_eq_zero_of_dvd hdv)
    rw [hmod]
    by_cases hvu : u ≤ v
    · have := emod_le (v - u) (gcdI c c2) (by omega) (by omega)
      omega
    · have h5 := emod_le (u - v) (gcdI c c2) (by omega) (by omega)
      rw [show v - u = -(u - v) from by omega, neg_mod _ _ (by omega)]
      split <;> omega
def body6 : List AV → AR
  | [.agg [.int .i64 a, .int .i64 b, .int .i64 c, .int .i64 d, .int .i64 e], .agg [.int .i64 a2, .int .i64 b2, .int .i64 c2, .int .i64 d2, .int .i64 e2], .int .i64 t, .int .i64 s] => .pure (-9223372036854775808 ≤ t ∧ t ≤ 9223372036854775807 ∧ 0 ≤ 1) (.bool true)
  | _ => .fail
set_option maxHeartbeats 4000000 in
set_option maxRecDepth 20000 in
theorem ok6 : FnOk Try.prog 6 (pureC body6) := by
  refine pure_fn noSh_ok ctQ_ok body6 (rs := [.tmp 8]) Try.func6 (by kernel_rfl) rfl rfl ?_
  intro l ob v hb hob
  unfold body6 at hb
  split at hb
  · rename_i a b c d e a2 b2 c2 d2 e2 t s
    injection hb with q1 q2; subst q1 q2
    refine ⟨[.agg [.int .i64 a, .int .i64 b, .int .i64 c, .int .i64 d, .int .i64 e], .agg [.int .i64 a2, .int .i64 b2, .int .i64 c2, .int .i64 d2, .int .i64 e2], .int .i64 t, .int .i64 s], [.agg [.int .i64 a, .int .i64 b, .int .i64 c, .int .i64 d, .int .i64 e], .agg [.int .i64 a2, .int .i64 b2, .int .i64 c2, .int .i64 d2, .int .i64 e2], .int .i64 t, .int .i64 s, .top, .top, .top, .top, .top, .top, .top, .top, .top, .top, .top, .top, .top, .top, .top, .top, .top, .top, .top, .top, .top, .top, .top, .top, .top, .top, .top, .top, .top, .top, .top, .top, .top, .top, .top, .top, .top, .top, .top, .top, .top, .top, .top, .top, .top, .top, .top, .top, .top, .top, .top, .top, .top, .top, .top, .top, .top, .top, .top, .top, .top, .top, .top, .top, .top, .top, .top, .top, .top, .top, .top, .top, .top, .top, .top, .top, .top, .top, .top, .top, .top, .top, .top, .top, .top, .top, .top, .top, .top, .top, .top, .top, .top, .top, .top, .top, .top, .top, .top, .top, .top, .top, .top, .top, .top, .top, .top, .top, .top, .top, .top, .top, .top, .top, .top, .top, .top, .top, .top, .top, .top, .top, .top, .top, .top, .top, .top], fun E vs h => h, rfl, by rw [Try.ntmps6]; rfl, ?_⟩
    simp only [w_skip, w_label, w_goto, w_scope, k_goto, b_goto, l_goto, s_normal, s_exit, s_ret, s_goto, w_region, w_draw, w_seq, w_cond, w_block, w_exit, w_ret, w_loop, k_normal, k_exit, k_ret, b_normal, b_exit, b_ret, l_normal, l_exit, l_ret, r_normal, r_ret, o_nil, o_cons, q_nil, q_cons, nxt, gval, gvd, gvl, gvw, dstOf, evO, ogOp, ogC, og, ogL, ogP, ogO, rho, rhoO, strip, optOk, getL, setL, setT, absC, absV, absL, pO, hO, evLoad, ldB, geth, seth, evStore, stRes, stB, evBox, evAlloc, evFieldAddr, evField, evIndexAddr, evBin2, binI, binB, evInt, evStr, evUn, evConv, evPick, mrg, evExtract, evNil, evCall, mapR, evBuiltin, evLen2, vcells, vcOk, atom, tabF, cnd, retK, resTup, resL, resOg, evBuild, evBuildP, placeS, placeA, fillA, fillOk, putL, getP, nxtQ, pureC_eq, pureR, roV, roL, roOb, roObL, Bool.not_eq_true', Bool.not_eq_false', Bool.not_not, Option.getD_some, Option.getD_none, Option.bind_some, Option.bind_none, Option.or_some, Option.or_none, Option.none_or, List.nil_append, List.cons_append, List.append_nil, cond_true, cond_false, List.length_cons, List.length_nil, beq_self_eq_true, Bool.and_true, Bool.true_and, Bool.not_true, Bool.not_false, true_and, and_true, and_self, true_implies, implies_true, ne_eq, not_false_eq_true, Bool.false_eq_true, false_implies, Nat.lt_irrefl, Nat.reduceLeDiff, Nat.reduceLT, Nat.le_refl, Nat.reduceAdd, Nat.reduceMul, Nat.reduceSub, Nat.reduceEqDiff, Nat.reduceBEq, Nat.succ_ne_self, imp_self, Bool.cond_false_right, Bool.cond_true_left, decide_true, decide_false, reduceCtorEq, tsz3, tby3, tagg3, tslice3, tarr3, tzero3, tzn3, tplaces3, tint3, tstr3, tnoint3, tbool3, tany3, tsz4, tby4, tagg4, tslice4, tarr4, tzero4, tzn4, tplaces4, tint4, tstr4, tnoint4, tbool4, tany4, tsz23, tby23, tagg23, tslice23, tarr23, tzero23, tzn23, tplaces23, tint23, tstr23, tnoint23, tbool23, tany23, tfld23_0, tfld23_1, tfld23_2, tfld23_3, tfld23_4, tsz29, tby29, tagg29, tslice29, tarr29, tzero29, tzn29, tplaces29, tint29, tstr29, tnoint29, tbool29, tany29, tsz35, tby35, tagg35, tslice35, tarr35, tzero35, tzn35, tplaces35, tint35, tstr35, tnoint35, tbool35, tany35, tsz37, tby37, tagg37, tslice37, tarr37, tzero37, tzn37, tplaces37, tint37, tstr37, tnoint37, tbool37, tany37, tfld37_0, tsz51, tby51, tagg51, tslice51, tarr51, tzero51, tzn51, tplaces51, tint51, tstr51, tnoint51, tbool51, tany51, tsz61, tby61, tagg61, tslice61, tarr61, tzero61, tzn61, tplaces61, tint61, tstr61, tnoint61, tbool61, tany61, tsz74, tby74, tagg74, tslice74, tarr74, tzero74, tzn74, tplaces74, tint74, tstr74, tnoint74, tbool74, tany74
  , bEq, bB, ctQ14, body14, ctQ16, body16, ctQ18, body18]
    obtain ⟨t1, t2, t3⟩ := hob
    have eE : ∀ x y : Bool, ((if (x && y) = true then (0 : Int) else 2) == 0) = (x && y) := by intro x y; cases x <;> cases y <;> rfl
    refine ⟨fun h => ?_, fun h => ?_⟩
    · have : ovE a b c d e a2 b2 c2 d2 e2 = ovE a2 b2 c2 d2 e2 a b c d e := by simp only [ovE, Bool.and_comm]
      rw [← this, Bool.or_self] at h
      rw [← this]
      simp only [ovE] at h ⊢
      rw [eE] at h
      simp only [Bool.not_eq_true'] at h
      rw [h]; rfl
    have v1 : vld a b c d e = true := by
      cases hv : vld a b c d e with
      | true => rfl
      | false => simp [ovE, hv] at h
    have v2 : vld a2 b2 c2 d2 e2 = true := by
      cases hv : vld a2 b2 c2 d2 e2 with
      | true => rfl
      | false => simp [ovE, hv] at h
    have x1 := v1
    have x2 := v2
    simp only [vld, decide_eq_true_eq] at x1 x2
    have f1 : ovC a2 b2 c2 d2 e2 a b c d e = ovC a b c d e a2 b2 c2 d2 e2 := by simp only [ovC, v1, v2, ovB_symm a b c d e a2 b2 c2 d2 e2 v1 v2]
    have f2 : ovE a b c d e a b c d e = 0 := by simp [ovE, v1]
    have f3 : ovC a b c d e a b c d e = true := by simp [ovC, v1, ovB_self a b c d e v1]
    have f4 : ovE a b c d e a2 b2 c2 d2 e2 = 0 := by simp [ovE, v1, v2]
    have f7 : awk a b c d e t = true → awk a2 b2 c2 d2 e2 t = true → ovC a b c d e a2 b2 c2 d2 e2 = true := fun h1 h2 => by simp [ovC, v1, v2, ov_of_awake a b c d e a2 b2 c2 d2 e2 t h1 h2]
    refine draw_rule noSh_ok ctQ_ok 2 (by kernel_rfl) (by kernel_rfl) ?_
    intro an han
    simp only [w_skip, w_label, w_goto, w_scope, k_goto, b_goto, l_goto, s_normal, s_exit, s_ret, s_goto, w_region, w_draw, w_seq, w_cond, w_block, w_exit, w_ret, w_loop, k_normal, k_exit, k_ret, b_normal, b_exit, b_ret, l_normal, l_exit, l_ret, r_normal, r_ret, o_nil, o_cons, q_nil, q_cons, nxt, gval, gvd, gvl, gvw, dstOf, evO, ogOp, ogC, og, ogL, ogP, ogO, rho, rhoO, strip, optOk, getL, setL, setT, absC, absV, absL, pO, hO, evLoad, ldB, geth, seth, evStore, stRes, stB, evBox, evAlloc, evFieldAddr, evField, evIndexAddr, evBin2, binI, binB, evInt, evStr, evUn, evConv, evPick, mrg, evExtract, evNil, evCall, mapR, evBuiltin, evLen2, vcells, vcOk, atom, tabF, cnd, retK, resTup, resL, resOg, evBuild, evBuildP, placeS, placeA, fillA, fillOk, putL, getP, nxtQ, pureC_eq, pureR, roV, roL, roOb, roObL, Bool.not_eq_true', Bool.not_eq_false', Bool.not_not, Option.getD_some, Option.getD_none, Option.bind_some, Option.bind_none, Option.or_some, Option.or_none, Option.none_or, List.nil_append, List.cons_append, List.append_nil, cond_true, cond_false, List.length_cons, List.length_nil, beq_self_eq_true, Bool.and_true, Bool.true_and, Bool.not_true, Bool.not_false, true_and, and_true, and_self, true_implies, implies_true, ne_eq, not_false_eq_true, Bool.false_eq_true, false_implies, Nat.lt_irrefl, Nat.reduceLeDiff, Nat.reduceLT, Nat.le_refl, Nat.reduceAdd, Nat.reduceMul, Nat.reduceSub, Nat.reduceEqDiff, Nat.reduceBEq, Nat.succ_ne_self, imp_self, Bool.cond_false_right, Bool.cond_true_left, decide_true, decide_false, reduceCtorEq, tsz3, tby3, tagg3, tslice3, tarr3, tzero3, tzn3, tplaces3, tint3, tstr3, tnoint3, tbool3, tany3, tsz4, tby4, tagg4, tslice4, tarr4, tzero4, tzn4, tplaces4, tint4, tstr4, tnoint4, tbool4, tany4, tsz23, tby23, tagg23, tslice23, tarr23, tzero23, tzn23, tplaces23, tint23, tstr23, tnoint23, tbool23, tany23, tfld23_0, tfld23_1, tfld23_2, tfld23_3, tfld23_4, tsz29, tby29, tagg29, tslice29, tarr29, tzero29, tzn29, tplaces29, tint29, tstr29, tnoint29, tbool29, tany29, tsz35, tby35, tagg35, tslice35, tarr35, tzero35, tzn35, tplaces35, tint35, tstr35, tnoint35, tbool35, tany35, tsz37, tby37, tagg37, tslice37, tarr37, tzero37, tzn37, tplaces37, tint37, tstr37, tnoint37, tbool37, tany37, tfld37_0, tsz51, tby51, tagg51, tslice51, tarr51, tzero51, tzn51, tplaces51, tint51, tstr51, tnoint51, tbool51, tany51, tsz61, tby61, tagg61, tslice61, tarr61, tzero61, tzn61, tplaces61, tint61, tstr61, tnoint61, tbool61, tany61, tsz74, tby74, tagg74, tslice74, tarr74, tzero74, tzn74, tplaces74, tint74, tstr74, tnoint74, tbool74, tany74
  , bEq, bB, ctQ14, body14, ctQ16, body16, ctQ18, body18, d_nil, d_cons, nxtD, refsOp, refs, refsL, mask, maskF, place, placeF, okLog, pairOk, hit, inL, slotsF, ren, renL, rnN, nrH, nrB, nrL, nr, dead0, deadS, List.replicate_zero, List.replicate_succ, Bool.or_false, Bool.false_or, Bool.or_true, Bool.true_or, Bool.and_false, Bool.false_and, Nat.sub_self, Nat.add_zero, Nat.zero_add, Nat.reduceSub, Nat.not_lt_zero, Nat.zero_le, Nat.lt_add_one]
    refine ⟨by subst han; kernel_rfl, by subst han; kernel_rfl, fun h3 => ?_, fun h3 => ?_⟩
    · clear han an
      simp only [bLe, Bool.and_eq_true, decide_eq_true_eq] at h3
      obtain ⟨⟨⟨s1, s2⟩, s3⟩, s4⟩ := h3
      rw [show wr .i64 (b + s) = b + s from IntWalk.i64_in _ (by omega)] at s3
      rw [show wr .i64 (b2 + s) = b2 + s from IntWalk.i64_in _ (by omega)] at s4
      have w1 : vld a (b + s) c d e = true := by simp only [vld, decide_eq_true_eq]; omega
      have w2 : vld a2 (b2 + s) c2 d2 e2 = true := by simp only [vld, decide_eq_true_eq]; omega
      have f4 : ovE a (b + s) c d e a2 (b2 + s) c2 d2 e2 = 0 := by simp [ovE, w1, w2]
      have f5 : ovC a (b + s) c d e a2 (b2 + s) c2 d2 e2 = ovC a b c d e a2 b2 c2 d2 e2 := by simp only [ovC, v1, v2, w1, w2, ovB_shift]
      refine draw_rule noSh_ok ctQ_ok 0 (by kernel_rfl) (by kernel_rfl) ?_
      intro an han
      simp only [w_skip, w_label, w_goto, w_scope, k_goto, b_goto, l_goto, s_normal, s_exit, s_ret, s_goto, w_region, w_draw, w_seq, w_cond, w_block, w_exit, w_ret, w_loop, k_normal, k_exit, k_ret, b_normal, b_exit, b_ret, l_normal, l_exit, l_ret, r_normal, r_ret, o_nil, o_cons, q_nil, q_cons, nxt, gval, gvd, gvl, gvw, dstOf, evO, ogOp, ogC, og, ogL, ogP, ogO, rho, rhoO, strip, optOk, getL, setL, setT, absC, absV, absL, pO, hO, evLoad, ldB, geth, seth, evStore, stRes, stB, evBox, evAlloc, evFieldAddr, evField, evIndexAddr, evBin2, binI, binB, evInt, evStr, evUn, evConv, evPick, mrg, evExtract, evNil, evCall, mapR, evBuiltin, evLen2, vcells, vcOk, atom, tabF, cnd, retK, resTup, resL, resOg, evBuild, evBuildP, placeS, placeA, fillA, fillOk, putL, getP, nxtQ, pureC_eq, pureR, roV, roL, roOb, roObL, Bool.not_eq_true', Bool.not_eq_false', Bool.not_not, Option.getD_some, Option.getD_none, Option.bind_some, Option.bind_none, Option.or_some, Option.or_none, Option.none_or, List.nil_append, List.cons_append, List.append_nil, cond_true, cond_false, List.length_cons, List.length_nil, beq_self_eq_true, Bool.and_true, Bool.true_and, Bool.not_true, Bool.not_false, true_and, and_true, and_self, true_implies, implies_true, ne_eq, not_false_eq_true, Bool.false_eq_true, false_implies, Nat.lt_irrefl, Nat.reduceLeDiff, Nat.reduceLT, Nat.le_refl, Nat.reduceAdd, Nat.reduceMul, Nat.reduceSub, Nat.reduceEqDiff, Nat.reduceBEq, Nat.succ_ne_self, imp_self, Bool.cond_false_right, Bool.cond_true_left, decide_true, decide_false, reduceCtorEq, tsz3, tby3, tagg3, tslice3, tarr3, tzero3, tzn3, tplaces3, tint3, tstr3, tnoint3, tbool3, tany3, tsz4, tby4, tagg4, tslice4, tarr4, tzero4, tzn4, tplaces4, tint4, tstr4, tnoint4, tbool4, tany4, tsz23, tby23, tagg23, tslice23, tarr23, tzero23, tzn23, tplaces23, tint23, tstr23, tnoint23, tbool23, tany23, tfld23_0, tfld23_1, tfld23_2, tfld23_3, tfld23_4, tsz29, tby29, tagg29, tslice29, tarr29, tzero29, tzn29, tplaces29, tint29, tstr29, tnoint29, tbool29, tany29, tsz35, tby35, tagg35, tslice35, tarr35, tzero35, tzn35, tplaces35, tint35, tstr35, tnoint35, tbool35, tany35, tsz37, tby37, tagg37, tslice37, tarr37, tzero37, tzn37, tplaces37, tint37, tstr37, tnoint37, tbool37, tany37, tfld37_0, tsz51, tby51, tagg51, tslice51, tarr51, tzero51, tzn51, tplaces51, tint51, tstr51, tnoint51, tbool51, tany51, tsz61, tby61, tagg61, tslice61, tarr61, tzero61, tzn61, tplaces61, tint61, tstr61, tnoint61, tbool61, tany61, tsz74, tby74, tagg74, tslice74, tarr74, tzero74, tzn74, tplaces74, tint74, tstr74, tnoint74, tbool74, tany74
  , bEq, bB, ctQ14, body14, ctQ16, body16, ctQ18, body18, d_nil, d_cons, nxtD, refsOp, refs, refsL, mask, maskF, place, placeF, okLog, pairOk, hit, inL, slotsF, ren, renL, rnN, nrH, nrB, nrL, nr, dead0, deadS, List.replicate_zero, List.replicate_succ, Bool.or_false, Bool.false_or, Bool.or_true, Bool.true_or, Bool.and_false, Bool.false_and, Nat.sub_self, Nat.add_zero, Nat.zero_add, Nat.reduceSub, Nat.not_lt_zero, Nat.zero_le, Nat.lt_add_one]
      clear han
      rw [show wr .i64 (b + s) = b + s from IntWalk.i64_in _ (by omega), show wr .i64 (b2 + s) = b2 + s from IntWalk.i64_in _ (by omega)]
      rw [f1, f2, f3, f4, f5]
      generalize ha : awk a b c d e t = p at f7 ⊢
      generalize hb : awk a2 b2 c2 d2 e2 t = q at f7 ⊢
      generalize ovC a b c d e a2 b2 c2 d2 e2 = r at f7 ⊢
      cases p <;> cases q <;> cases r <;> first | exact absurd (f7 rfl rfl) (by decide) | exact ⟨t2, by simp [t2], by simp, rfl⟩
    · clear han an
      rw [f1, f2, f3, f4]
      generalize ha : awk a b c d e t = p at f7 ⊢
      generalize hb : awk a2 b2 c2 d2 e2 t = q at f7 ⊢
      generalize ovC a b c d e a2 b2 c2 d2 e2 = r at f7 ⊢
      cases p <;> cases q <;> cases r <;> first | exact absurd (f7 rfl rfl) (by decide) | exact ⟨t2, by simp [t2], by simp, rfl⟩
  · cases hb
end Go.Proofs.Ytpgcekjnpieibaa
