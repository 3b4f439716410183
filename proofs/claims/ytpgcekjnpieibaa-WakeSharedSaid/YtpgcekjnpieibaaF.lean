/-
  Contracts of functions, each walked by the abstract machine.
-/
import Derived.Test.YtpgcekjnpieibaaE
namespace Go.Proofs.Ytpgcekjnpieibaa
open Go.Am
set_option linter.unusedVariables false
set_option linter.unusedSimpArgs false
theorem div_uniq (x c m : Int) (h : 0 ≤ x) (hc : 1 ≤ c) (h1 : m * c ≤ x) (h2 : x < m * c + c) : x / c = m := by
  have hd := divs x c h hc
  rcases Int.lt_trichotomy (x / c) m with q | q | q
  · have := Int.mul_le_mul_of_nonneg_right (show x / c + 1 ≤ m by omega) (show 0 ≤ c by omega)
    omega
  · exact q
  · have := Int.mul_le_mul_of_nonneg_right (show m + 1 ≤ x / c by omega) (show 0 ≤ c by omega)
    rw [Int.add_mul, Int.one_mul] at this
    omega
def body13 : List AV → AR
  | [.agg [.int .i64 a, .int .i64 b, .int .i64 c, .int .i64 d, .int .i64 e], .int .i64 t] => .pure (-9223372036854775808 ≤ t ∧ t ≤ 9223372036854775807) (.tup [.int .i64 (nxT a b c d e t), .bool (nxV a b c d e t)])
  | _ => .fail
set_option maxHeartbeats 4000000 in
set_option maxRecDepth 20000 in
theorem ok13 : FnOk Try.prog 13 (pureC body13) := by
  refine pure_fn noSh_ok ctB_ok body13 (rs := [.tmp 4, .tmp 5]) Try.func13 (by kernel_rfl) rfl rfl ?_
  intro l ob v hb hob
  unfold body13 at hb
  split at hb
  · rename_i a b c d e t
    injection hb with q1 q2; subst q1 q2
    refine ⟨[.agg [.int .i64 a, .int .i64 b, .int .i64 c, .int .i64 d, .int .i64 e], .int .i64 t], [.agg [.int .i64 a, .int .i64 b, .int .i64 c, .int .i64 d, .int .i64 e], .int .i64 t, .top, .top, .top, .top, .top, .top, .top, .top, .top, .top, .top, .top, .top, .top, .top, .top, .top, .top, .top, .top, .top, .top, .top, .top, .top, .top, .top], fun E vs h => h, rfl, by rw [Try.ntmps13]; rfl, ?_⟩
    simp only [w_skip, w_region, w_draw, w_seq, w_cond, w_block, w_exit, w_ret, w_loop, k_normal, k_exit, k_ret, b_normal, b_exit, b_ret, l_normal, l_exit, l_ret, r_normal, r_ret, o_nil, o_cons, q_nil, q_cons, nxt, gval, gvd, gvl, gvw, dstOf, evO, ogOp, ogC, og, ogL, ogP, ogO, rho, rhoO, strip, optOk, getL, setL, setT, absC, absV, absL, pO, hO, evLoad, ldB, geth, seth, evStore, stRes, stB, evBox, evAlloc, evFieldAddr, evField, evIndexAddr, evBin2, binI, binB, evInt, evStr, evUn, evConv, evPick, mrg, evExtract, evNil, evCall, mapR, evBuiltin, evLen2, vcells, vcOk, atom, tabF, cnd, retK, resTup, resL, resOg, evBuild, evBuildP, placeS, placeA, fillA, fillOk, putL, getP, nxtQ, pureC_eq, pureR, roV, roL, roOb, roObL, Option.getD_some, Option.getD_none, Option.bind_some, Option.bind_none, Option.or_some, Option.or_none, Option.none_or, List.nil_append, List.cons_append, List.append_nil, cond_true, cond_false, List.length_cons, List.length_nil, beq_self_eq_true, Bool.and_true, Bool.true_and, Bool.not_true, Bool.not_false, true_and, and_true, and_self, true_implies, implies_true, ne_eq, not_false_eq_true, Bool.false_eq_true, false_implies, Nat.lt_irrefl, Nat.reduceLeDiff, Nat.reduceLT, Nat.le_refl, Nat.reduceAdd, Nat.reduceMul, Nat.reduceSub, Nat.reduceEqDiff, Nat.reduceBEq, Nat.succ_ne_self, imp_self, Bool.cond_false_right, Bool.cond_true_left, decide_true, decide_false, reduceCtorEq, tsz3, tby3, tagg3, tslice3, tarr3, tzero3, tzn3, tplaces3, tint3, tstr3, tnoint3, tbool3, tany3, tsz4, tby4, tagg4, tslice4, tarr4, tzero4, tzn4, tplaces4, tint4, tstr4, tnoint4, tbool4, tany4, tsz23, tby23, tagg23, tslice23, tarr23, tzero23, tzn23, tplaces23, tint23, tstr23, tnoint23, tbool23, tany23, tfld23_0, tfld23_1, tfld23_2, tfld23_3, tfld23_4, tsz29, tby29, tagg29, tslice29, tarr29, tzero29, tzn29, tplaces29, tint29, tstr29, tnoint29, tbool29, tany29, tsz35, tby35, tagg35, tslice35, tarr35, tzero35, tzn35, tplaces35, tint35, tstr35, tnoint35, tbool35, tany35, tsz37, tby37, tagg37, tslice37, tarr37, tzero37, tzn37, tplaces37, tint37, tstr37, tnoint37, tbool37, tany37, tfld37_0, tsz51, tby51, tagg51, tslice51, tarr51, tzero51, tzn51, tplaces51, tint51, tstr51, tnoint51, tbool51, tany51, tsz61, tby61, tagg61, tslice61, tarr61, tzero61, tzn61, tplaces61, tint61, tstr61, tnoint61, tbool61, tany61, tsz74, tby74, tagg74, tslice74, tarr74, tzero74, tzn74, tplaces74, tint74, tstr74, tnoint74, tbool74, tany74, ctB20, body20]
    refine ⟨fun h => ?_, fun h => ?_⟩
    · exact nx_no _ _ _ _ _ _ (by simp only [nxV, decide_eq_false_iff_not]; rintro ⟨h', _⟩; rw [h'] at h; cases h)
    have hv : vld a b c d e = true := by simpa using h
    have hv' := hv
    simp only [vld, decide_eq_true_eq] at hv'
    refine loop_rule noSh_ok ctB_ok (fun p : Int => [.top, .int .i64 t, .ptr 0 0 0 0, .top, .top, .top, .int .i64 p, .top, .top, .top, .top, .top, .top, .top, .top, .top, .top, .top, .top, .top, .top, .top, .top, .top, .top, .top, .top, .top, .top]) (fun _ => [ABlk.lit 23 [.int .i64 a, .int .i64 b, .int .i64 c, .int .i64 d, .int .i64 e]]) (fun p : Int => b ≤ p ∧ p ≤ 1103806595072 ∧ ∃ k : Int, 0 ≤ k ∧ p = b + k * c ∧ (k = 0 ∨ (1 ≤ k ∧ p - c ≤ t ∧ c ≠ 0))) (fun p => (t + 1 - p).toNat) 1 b rfl ⟨by omega, by omega, 0, by omega, by omega, .inl rfl⟩ (by simp [Cov]) (fun p hJ => ?_)
    simp only [w_skip, w_region, w_draw, w_seq, w_cond, w_block, w_exit, w_ret, w_loop, k_normal, k_exit, k_ret, b_normal, b_exit, b_ret, l_normal, l_exit, l_ret, r_normal, r_ret, o_nil, o_cons, q_nil, q_cons, nxt, gval, gvd, gvl, gvw, dstOf, evO, ogOp, ogC, og, ogL, ogP, ogO, rho, rhoO, strip, optOk, getL, setL, setT, absC, absV, absL, pO, hO, evLoad, ldB, geth, seth, evStore, stRes, stB, evBox, evAlloc, evFieldAddr, evField, evIndexAddr, evBin2, binI, binB, evInt, evStr, evUn, evConv, evPick, mrg, evExtract, evNil, evCall, mapR, evBuiltin, evLen2, vcells, vcOk, atom, tabF, cnd, retK, resTup, resL, resOg, evBuild, evBuildP, placeS, placeA, fillA, fillOk, putL, getP, nxtQ, pureC_eq, pureR, roV, roL, roOb, roObL, Option.getD_some, Option.getD_none, Option.bind_some, Option.bind_none, Option.or_some, Option.or_none, Option.none_or, List.nil_append, List.cons_append, List.append_nil, cond_true, cond_false, List.length_cons, List.length_nil, beq_self_eq_true, Bool.and_true, Bool.true_and, Bool.not_true, Bool.not_false, true_and, and_true, and_self, true_implies, implies_true, ne_eq, not_false_eq_true, Bool.false_eq_true, false_implies, Nat.lt_irrefl, Nat.reduceLeDiff, Nat.reduceLT, Nat.le_refl, Nat.reduceAdd, Nat.reduceMul, Nat.reduceSub, Nat.reduceEqDiff, Nat.reduceBEq, Nat.succ_ne_self, imp_self, Bool.cond_false_right, Bool.cond_true_left, decide_true, decide_false, reduceCtorEq, tsz3, tby3, tagg3, tslice3, tarr3, tzero3, tzn3, tplaces3, tint3, tstr3, tnoint3, tbool3, tany3, tsz4, tby4, tagg4, tslice4, tarr4, tzero4, tzn4, tplaces4, tint4, tstr4, tnoint4, tbool4, tany4, tsz23, tby23, tagg23, tslice23, tarr23, tzero23, tzn23, tplaces23, tint23, tstr23, tnoint23, tbool23, tany23, tfld23_0, tfld23_1, tfld23_2, tfld23_3, tfld23_4, tsz29, tby29, tagg29, tslice29, tarr29, tzero29, tzn29, tplaces29, tint29, tstr29, tnoint29, tbool29, tany29, tsz35, tby35, tagg35, tslice35, tarr35, tzero35, tzn35, tplaces35, tint35, tstr35, tnoint35, tbool35, tany35, tsz37, tby37, tagg37, tslice37, tarr37, tzero37, tzn37, tplaces37, tint37, tstr37, tnoint37, tbool37, tany37, tfld37_0, tsz51, tby51, tagg51, tslice51, tarr51, tzero51, tzn51, tplaces51, tint51, tstr51, tnoint51, tbool51, tany51, tsz61, tby61, tagg61, tslice61, tarr61, tzero61, tzn61, tplaces61, tint61, tstr61, tnoint61, tbool61, tany61, tsz74, tby74, tagg74, tslice74, tarr74, tzero74, tzn74, tplaces74, tint74, tstr74, tnoint74, tbool74, tany74, ctB20, body20]
    obtain ⟨j1, j2, k, k0, k1, k2⟩ := hJ
    have kc : (k - 1) * c = k * c - c := by rw [Int.sub_mul, Int.one_mul]
    have ex : t < p → (k = 0 ∧ t < b) ∨ (¬ t < b ∧ c ≠ 0 ∧ b + ((t - b) / c + 1) * c = p) := by
      intro hp
      rcases k2 with rfl | ⟨q1, q2, q3⟩
      · rw [Int.zero_mul] at k1; exact .inl ⟨rfl, by omega⟩
      · have hm : 0 ≤ (k - 1) * c := Int.mul_nonneg (by omega) (by omega)
        have := div_uniq (t - b) c (k - 1) (by omega) (by omega) (by omega) (by omega)
        refine .inr ⟨by omega, q3, ?_⟩
        rw [this, show k - 1 + 1 = k from by omega]; omega
    refine ⟨fun h1 => ⟨fun h2 => by simp [h2], fun h2 => ?_, fun h2 => ?_⟩, fun h1 => ⟨fun h2 => ?_, fun h2 => ?_⟩⟩
    · simp only [bLe, bLt, bEq, decide_eq_true_eq, Bool.or_eq_true, beq_iff_eq] at h1 h2
      exact nx_no _ _ _ _ _ _ (by simp only [nxV, decide_eq_false_iff_not]; rintro ⟨_, h⟩; omega)
    · simp only [bLe, bLt, bEq, decide_eq_true_eq, Bool.or_eq_false_iff, decide_eq_false_iff_not, beq_eq_false_iff_ne] at h1 h2
      rw [show wr .i64 (p + c) = p + c from IntWalk.i64_in _ (by omega)]
      refine ⟨p + c, ⟨by omega, by omega, k + 1, by omega, by rw [Int.add_mul, Int.one_mul]; omega, .inr ⟨by omega, by omega, h2.1⟩⟩, (by show (t + 1 - (p + c)).toNat < (t + 1 - p).toNat; omega), by simp [Cov], ⟨[], rfl⟩, rfl, by simp [nrL, nr], by simp [nrH, nrB, nrL, nr]⟩
    · simp only [bLe, bLt, decide_eq_true_eq, decide_eq_false_iff_not] at h1 h2
      refine nx_no _ _ _ _ _ _ ?_
      simp only [nxV, decide_eq_false_iff_not]
      rintro ⟨_, h⟩
      rcases ex (by omega) with ⟨rfl, q⟩ | ⟨q1, q2, q3⟩
      · rw [Int.zero_mul] at k1; omega
      · omega
    · simp only [bLe, bLt, decide_eq_true_eq, decide_eq_false_iff_not] at h1 h2
      rcases ex (by omega) with ⟨rfl, q⟩ | ⟨q1, q2, q3⟩
      · rw [Int.zero_mul] at k1
        exact nx_yes _ _ _ _ _ _ _ (by simp only [nxV, hv, decide_eq_true_eq, true_and]; omega) (by rw [if_pos q]; omega)
      · exact nx_yes _ _ _ _ _ _ _ (by simp only [nxV, hv, decide_eq_true_eq, true_and]; omega) (by rw [if_neg q1, q3])
  · cases hb
end Go.Proofs.Ytpgcekjnpieibaa
