/-
  The laws WakeNext and WakeAwake, walked.
-/
import Derived.Test.YtpgcekjnpieibaaK
namespace Go.Proofs.Ytpgcekjnpieibaa
open Go.Am
set_option linter.unusedVariables false
set_option linter.unusedSimpArgs false
def ctP : Ct := tab [(12, pureC body12), (14, pureC body14), (16, pureC body16), (17, pureC body17)]
theorem ctP_ok : CtOk Try.prog ctP := tab_cons ok12 <| tab_cons ok14 <| tab_cons ok16 <| tab_cons ok17 <| tab_nil
theorem ctP12 (l : List AV) (h : List ABlk) : ctP 12 l h = pureC body12 l h := rfl
theorem ctP14 (l : List AV) (h : List ABlk) : ctP 14 l h = pureC body14 l h := rfl
theorem ctP16 (l : List AV) (h : List ABlk) : ctP 16 l h = pureC body16 l h := rfl
theorem ctP17 (l : List AV) (h : List ABlk) : ctP 17 l h = pureC body17 l h := rfl
theorem nx_facts (a b c d e t : Int) (h : nxV a b c d e t = true) : vld a b c d e = true ∧ t < nxT a b c d e t ∧ b ≤ nxT a b c d e t ∧ nxT a b c d e t ≤ 1099511627776 ∧
    ((nxT a b c d e t = b ∧ t < b) ∨ (1 ≤ c ∧ (nxT a b c d e t - b) % c = 0 ∧ nxT a b c d e t - c ≤ t ∧ b ≤ t ∧ b + c ≤ nxT a b c d e t)) := by
  have h' := h
  simp only [nxV, decide_eq_true_eq] at h'
  obtain ⟨hv, h1⟩ := h'
  have hv' := hv
  simp only [vld, decide_eq_true_eq] at hv'
  by_cases hb : t < b
  · have e1 : nxT a b c d e t = b := by rw [nxT, if_pos h, if_pos hb]
    rw [e1]; exact ⟨hv, by omega, by omega, by omega, .inl ⟨rfl, hb⟩⟩
  · have e1 : nxT a b c d e t = b + ((t - b) / c + 1) * c := by rw [nxT, if_pos h, if_neg hb]
    have hd := divs (t - b) c (by omega) (by omega)
    have e2 : (nxT a b c d e t - b) % c = 0 := by rw [e1, show b + ((t - b) / c + 1) * c - b = ((t - b) / c + 1) * c from by omega, Int.mul_emod_left]
    have hq := Int.mul_nonneg hd.1 (show 0 ≤ c by omega)
    rw [e1] at e2 ⊢
    exact ⟨hv, by omega, by omega, by omega, .inr ⟨by omega, e2, by omega, by omega, by omega⟩⟩
theorem nx_none (a b c d e t : Int) (hv : vld a b c d e = true) (h : nxV a b c d e t = false) : nxT a b c d e t = 0 ∧ (1099511627776 < t ∨ (c = 0 ∧ b ≤ t) ∨ (b ≤ t ∧ t ≤ 1099511627776 ∧ 1099511627776 - c < t + c)) := by
  refine ⟨by rw [nxT, h]; rfl, ?_⟩
  have hv' := hv
  simp only [vld, decide_eq_true_eq] at hv'
  simp only [nxV, decide_eq_false_iff_not, hv, true_and] at h
  by_cases hc : c = 0
  · omega
  · by_cases hb : t < b
    · omega
    · have hd := divs (t - b) c (by omega) (by omega)
      omega
theorem e08 (x : Bool) : ((bif x then (0 : Int) else 8) == 0) = x := by cases x <;> rfl
def body4 : List AV → AR
  | [.agg [.int .i64 a, .int .i64 b, .int .i64 c, .int .i64 d, .int .i64 e], .int .i64 t] => .pure (-9223372036854775808 ≤ t ∧ t ≤ 9223372036854775807) (.bool true)
  | _ => .fail
set_option maxHeartbeats 4000000 in
set_option maxRecDepth 20000 in
theorem ok4 : FnOk Try.prog 4 (pureC body4) := by
  refine pure_fn noSh_ok ctP_ok body4 (rs := [.tmp 4]) Try.func4 (by kernel_rfl) rfl rfl ?_
  intro l ob v hb hob
  unfold body4 at hb
  split at hb
  · rename_i a b c d e t
    injection hb with q1 q2; subst q1 q2
    refine ⟨[.agg [.int .i64 a, .int .i64 b, .int .i64 c, .int .i64 d, .int .i64 e], .int .i64 t], [.agg [.int .i64 a, .int .i64 b, .int .i64 c, .int .i64 d, .int .i64 e], .int .i64 t, .top, .top, .top, .top, .top, .top, .top, .top, .top, .top, .top, .top, .top, .top, .top, .top, .top, .top, .top, .top, .top, .top, .top, .top, .top, .top, .top, .top, .top, .top, .top, .top, .top, .top, .top, .top, .top, .top, .top, .top, .top, .top, .top, .top, .top, .top, .top, .top, .top, .top, .top, .top, .top, .top, .top, .top, .top, .top, .top, .top, .top, .top, .top, .top, .top, .top, .top, .top, .top, .top, .top, .top, .top, .top, .top, .top, .top, .top, .top, .top, .top, .top, .top, .top, .top, .top, .top, .top, .top, .top, .top, .top, .top, .top, .top, .top, .top, .top, .top, .top, .top, .top, .top, .top, .top, .top, .top, .top, .top, .top, .top, .top, .top, .top, .top, .top], fun E vs h => h, rfl, by rw [Try.ntmps4]; rfl, ?_⟩
    simp only [w_skip, w_label, w_goto, w_scope, k_goto, b_goto, l_goto, s_normal, s_exit, s_ret, s_goto, w_region, w_draw, w_seq, w_cond, w_block, w_exit, w_ret, w_loop, k_normal, k_exit, k_ret, b_normal, b_exit, b_ret, l_normal, l_exit, l_ret, r_normal, r_ret, o_nil, o_cons, q_nil, q_cons, nxt, gval, gvd, gvl, gvw, dstOf, evO, ogOp, ogC, og, ogL, ogP, ogO, rho, rhoO, strip, optOk, getL, setL, setT, absC, absV, absL, pO, hO, evLoad, ldB, geth, seth, evStore, stRes, stB, evBox, evAlloc, evFieldAddr, evField, evIndexAddr, evBin2, binI, binB, evInt, evStr, evUn, evConv, evPick, mrg, evExtract, evNil, evCall, mapR, evBuiltin, evLen2, vcells, vcOk, atom, tabF, cnd, retK, resTup, resL, resOg, evBuild, evBuildP, placeS, placeA, fillA, fillOk, putL, getP, nxtQ, pureC_eq, pureR, roV, roL, roOb, roObL, Bool.not_eq_true', Bool.not_eq_false', Bool.not_not, Option.getD_some, Option.getD_none, Option.bind_some, Option.bind_none, Option.or_some, Option.or_none, Option.none_or, List.nil_append, List.cons_append, List.append_nil, cond_true, cond_false, List.length_cons, List.length_nil, beq_self_eq_true, Bool.and_true, Bool.true_and, Bool.not_true, Bool.not_false, true_and, and_true, and_self, true_implies, implies_true, ne_eq, not_false_eq_true, Bool.false_eq_true, false_implies, Nat.lt_irrefl, Nat.reduceLeDiff, Nat.reduceLT, Nat.le_refl, Nat.reduceAdd, Nat.reduceMul, Nat.reduceSub, Nat.reduceEqDiff, Nat.reduceBEq, Nat.succ_ne_self, imp_self, Bool.cond_false_right, Bool.cond_true_left, decide_true, decide_false, reduceCtorEq, tsz3, tby3, tagg3, tslice3, tarr3, tzero3, tzn3, tplaces3, tint3, tstr3, tnoint3, tbool3, tany3, tsz4, tby4, tagg4, tslice4, tarr4, tzero4, tzn4, tplaces4, tint4, tstr4, tnoint4, tbool4, tany4, tsz23, tby23, tagg23, tslice23, tarr23, tzero23, tzn23, tplaces23, tint23, tstr23, tnoint23, tbool23, tany23, tfld23_0, tfld23_1, tfld23_2, tfld23_3, tfld23_4, tsz29, tby29, tagg29, tslice29, tarr29, tzero29, tzn29, tplaces29, tint29, tstr29, tnoint29, tbool29, tany29, tsz35, tby35, tagg35, tslice35, tarr35, tzero35, tzn35, tplaces35, tint35, tstr35, tnoint35, tbool35, tany35, tsz37, tby37, tagg37, tslice37, tarr37, tzero37, tzn37, tplaces37, tint37, tstr37, tnoint37, tbool37, tany37, tfld37_0, tsz51, tby51, tagg51, tslice51, tarr51, tzero51, tzn51, tplaces51, tint51, tstr51, tnoint51, tbool51, tany51, tsz61, tby61, tagg61, tslice61, tarr61, tzero61, tzn61, tplaces61, tint61, tstr61, tnoint61, tbool61, tany61, tsz74, tby74, tagg74, tslice74, tarr74, tzero74, tzn74, tplaces74, tint74, tstr74, tnoint74, tbool74, tany74
  , bEq, bB, e08, ctP12, body12, ctP14, body14, ctP16, body16, ctP17, body17]
    refine ⟨hob, fun h => ?_, fun h => ?_⟩
    · cases hv : vld a b c d e with
      | false => have e1 : nxT a b c d e t = 0 := by rw [nxT, h]; rfl
                 simp [e1]
      | true =>
        obtain ⟨e1, h1⟩ := nx_none _ _ _ _ _ _ hv h
        have hv' := hv
        simp only [vld, decide_eq_true_eq] at hv'
        simp only [e1, Bool.not_true, Bool.false_or, beq_self_eq_true, Bool.true_and]
        refine ⟨?_, ?_, ?_, ?_⟩
        · generalize bLt 1099511627776 t = p; generalize bLe b t = q; cases p <;> cases q <;> simp
        · generalize bLt 1099511627776 t = p; generalize bLe b t = q; cases p <;> cases q <;> simp
        · generalize bLt 1099511627776 t = p; generalize bLe b t = q; generalize (c == 0) = r; cases p <;> cases q <;> cases r <;> simp
        by_cases h2 : 1099511627776 < t
        · simp [bLt, h2]
        · rw [show wr .i64 (1099511627776 - c) = 1099511627776 - c from IntWalk.i64_in _ (by omega), show wr .i64 (t + c) = t + c from IntWalk.i64_in _ (by omega)]
          congr 1
          simp only [bLt, bLe, Bool.or_eq_true, Bool.and_eq_true, decide_eq_true_eq, beq_iff_eq]
          omega
    · obtain ⟨hv, h1, h2, h3, h4⟩ := nx_facts _ _ _ _ _ _ h
      have hv' := hv
      simp only [vld, decide_eq_true_eq] at hv'
      have ha : awk a b c d e (nxT a b c d e t) = true := by
        simp only [awk, decide_eq_true_eq]
        refine ⟨hv, h2, ?_⟩
        split
        · omega
        · rcases h4 with h4 | h4
          · rw [h4.1, Int.sub_self]; simp; omega
          · omega
      rw [show wr .i64 (nxT a b c d e t - b) = nxT a b c d e t - b from IntWalk.i64_in _ (by omega), show wr .i64 (nxT a b c d e t - c) = nxT a b c d e t - c from IntWalk.i64_in _ (by omega)]
      have n1 : bLe (nxT a b c d e t) t = false := by simp [bLe]; omega
      have n2 : bLt (nxT a b c d e t) b = false := by simp [bLt]; omega
      have n3 : bLt 1099511627776 (nxT a b c d e t) = false := by simp [bLt]; omega
      have n4 : bLt t (nxT a b c d e t) = true := by simp [bLt]; omega
      simp only [hv, ha, n1, n2, n3, n4, Bool.not_true, Bool.or_false, Bool.false_eq_true, false_implies, true_and, and_true, implies_true]
      refine ⟨by omega, fun _ => ?_⟩
      intro h5
      have h5 : ¬ nxT a b c d e t = b := by simpa using h5
      have h6 := h4.resolve_left (by omega)
      refine ⟨fun h7 => ⟨h7, by omega⟩, ?_⟩
      have n5 : bLt 0 c = true := by simp [bLt]; omega
      have n6 : bLe (nxT a b c d e t - c) t = true := by simp [bLe]; omega
      have n7 : (nxT a b c d e t - b).tmod c = 0 := by rw [Int.tmod_eq_emod_of_nonneg (by omega)]; omega
      rw [n5, n6, n7]; rfl
  · cases hb
def body5 : List AV → AR
  | [.agg [.int .i64 a, .int .i64 b, .int .i64 c, .int .i64 d, .int .i64 e], .int .i64 t, .int .i64 o] => .pure (-9223372036854775808 ≤ t ∧ t ≤ 9223372036854775807) (.bool true)
  | _ => .fail
set_option maxHeartbeats 4000000 in
set_option maxRecDepth 20000 in
theorem ok5 : FnOk Try.prog 5 (pureC body5) := by
  refine pure_fn noSh_ok ctP_ok body5 (rs := [.tmp 6]) Try.func5 (by kernel_rfl) rfl rfl ?_
  intro l ob v hb hob
  unfold body5 at hb
  split at hb
  · rename_i a b c d e t o
    injection hb with q1 q2; subst q1 q2
    refine ⟨[.agg [.int .i64 a, .int .i64 b, .int .i64 c, .int .i64 d, .int .i64 e], .int .i64 t, .int .i64 o], [.agg [.int .i64 a, .int .i64 b, .int .i64 c, .int .i64 d, .int .i64 e], .int .i64 t, .int .i64 o, .top, .top, .top, .top, .top, .top, .top, .top, .top, .top, .top, .top, .top, .top, .top, .top, .top, .top, .top, .top, .top, .top, .top, .top, .top, .top, .top, .top, .top, .top, .top, .top, .top, .top, .top, .top, .top, .top, .top, .top, .top, .top, .top, .top, .top, .top, .top, .top, .top, .top, .top, .top, .top, .top, .top, .top, .top, .top, .top, .top, .top], fun E vs h => h, rfl, by rw [Try.ntmps5]; rfl, ?_⟩
    simp only [w_skip, w_label, w_goto, w_scope, k_goto, b_goto, l_goto, s_normal, s_exit, s_ret, s_goto, w_region, w_draw, w_seq, w_cond, w_block, w_exit, w_ret, w_loop, k_normal, k_exit, k_ret, b_normal, b_exit, b_ret, l_normal, l_exit, l_ret, r_normal, r_ret, o_nil, o_cons, q_nil, q_cons, nxt, gval, gvd, gvl, gvw, dstOf, evO, ogOp, ogC, og, ogL, ogP, ogO, rho, rhoO, strip, optOk, getL, setL, setT, absC, absV, absL, pO, hO, evLoad, ldB, geth, seth, evStore, stRes, stB, evBox, evAlloc, evFieldAddr, evField, evIndexAddr, evBin2, binI, binB, evInt, evStr, evUn, evConv, evPick, mrg, evExtract, evNil, evCall, mapR, evBuiltin, evLen2, vcells, vcOk, atom, tabF, cnd, retK, resTup, resL, resOg, evBuild, evBuildP, placeS, placeA, fillA, fillOk, putL, getP, nxtQ, pureC_eq, pureR, roV, roL, roOb, roObL, Bool.not_eq_true', Bool.not_eq_false', Bool.not_not, Option.getD_some, Option.getD_none, Option.bind_some, Option.bind_none, Option.or_some, Option.or_none, Option.none_or, List.nil_append, List.cons_append, List.append_nil, cond_true, cond_false, List.length_cons, List.length_nil, beq_self_eq_true, Bool.and_true, Bool.true_and, Bool.not_true, Bool.not_false, true_and, and_true, and_self, true_implies, implies_true, ne_eq, not_false_eq_true, Bool.false_eq_true, false_implies, Nat.lt_irrefl, Nat.reduceLeDiff, Nat.reduceLT, Nat.le_refl, Nat.reduceAdd, Nat.reduceMul, Nat.reduceSub, Nat.reduceEqDiff, Nat.reduceBEq, Nat.succ_ne_self, imp_self, Bool.cond_false_right, Bool.cond_true_left, decide_true, decide_false, reduceCtorEq, tsz3, tby3, tagg3, tslice3, tarr3, tzero3, tzn3, tplaces3, tint3, tstr3, tnoint3, tbool3, tany3, tsz4, tby4, tagg4, tslice4, tarr4, tzero4, tzn4, tplaces4, tint4, tstr4, tnoint4, tbool4, tany4, tsz23, tby23, tagg23, tslice23, tarr23, tzero23, tzn23, tplaces23, tint23, tstr23, tnoint23, tbool23, tany23, tfld23_0, tfld23_1, tfld23_2, tfld23_3, tfld23_4, tsz29, tby29, tagg29, tslice29, tarr29, tzero29, tzn29, tplaces29, tint29, tstr29, tnoint29, tbool29, tany29, tsz35, tby35, tagg35, tslice35, tarr35, tzero35, tzn35, tplaces35, tint35, tstr35, tnoint35, tbool35, tany35, tsz37, tby37, tagg37, tslice37, tarr37, tzero37, tzn37, tplaces37, tint37, tstr37, tnoint37, tbool37, tany37, tfld37_0, tsz51, tby51, tagg51, tslice51, tarr51, tzero51, tzn51, tplaces51, tint51, tstr51, tnoint51, tbool51, tany51, tsz61, tby61, tagg61, tslice61, tarr61, tzero61, tzn61, tplaces61, tint61, tstr61, tnoint61, tbool61, tany61, tsz74, tby74, tagg74, tslice74, tarr74, tzero74, tzn74, tplaces74, tint74, tstr74, tnoint74, tbool74, tany74
  , bEq, bB, e08, ctP12, body12, ctP14, body14, ctP16, body16, ctP17, body17]
    refine ⟨hob, fun h1 h2 => ?_⟩
    simp only [bLt, bLe, Bool.or_eq_false_iff, Bool.and_eq_false_iff, Bool.not_eq_false', decide_eq_false_iff_not] at h1 h2
    obtain ⟨⟨h, h3⟩, h4⟩ := h1
    obtain ⟨hv, g1, g2, g3, g4⟩ := nx_facts _ _ _ _ _ _ h
    have hv' := hv
    simp only [vld, decide_eq_true_eq] at hv'
    refine draw_quiet noSh_ok ctP_ok (by kernel_rfl) (by kernel_rfl) ?_
    simp only [w_skip, w_label, w_goto, w_scope, k_goto, b_goto, l_goto, s_normal, s_exit, s_ret, s_goto, w_region, w_draw, w_seq, w_cond, w_block, w_exit, w_ret, w_loop, k_normal, k_exit, k_ret, b_normal, b_exit, b_ret, l_normal, l_exit, l_ret, r_normal, r_ret, o_nil, o_cons, q_nil, q_cons, nxt, gval, gvd, gvl, gvw, dstOf, evO, ogOp, ogC, og, ogL, ogP, ogO, rho, rhoO, strip, optOk, getL, setL, setT, absC, absV, absL, pO, hO, evLoad, ldB, geth, seth, evStore, stRes, stB, evBox, evAlloc, evFieldAddr, evField, evIndexAddr, evBin2, binI, binB, evInt, evStr, evUn, evConv, evPick, mrg, evExtract, evNil, evCall, mapR, evBuiltin, evLen2, vcells, vcOk, atom, tabF, cnd, retK, resTup, resL, resOg, evBuild, evBuildP, placeS, placeA, fillA, fillOk, putL, getP, nxtQ, pureC_eq, pureR, roV, roL, roOb, roObL, Bool.not_eq_true', Bool.not_eq_false', Bool.not_not, Option.getD_some, Option.getD_none, Option.bind_some, Option.bind_none, Option.or_some, Option.or_none, Option.none_or, List.nil_append, List.cons_append, List.append_nil, cond_true, cond_false, List.length_cons, List.length_nil, beq_self_eq_true, Bool.and_true, Bool.true_and, Bool.not_true, Bool.not_false, true_and, and_true, and_self, true_implies, implies_true, ne_eq, not_false_eq_true, Bool.false_eq_true, false_implies, Nat.lt_irrefl, Nat.reduceLeDiff, Nat.reduceLT, Nat.le_refl, Nat.reduceAdd, Nat.reduceMul, Nat.reduceSub, Nat.reduceEqDiff, Nat.reduceBEq, Nat.succ_ne_self, imp_self, Bool.cond_false_right, Bool.cond_true_left, decide_true, decide_false, reduceCtorEq, tsz3, tby3, tagg3, tslice3, tarr3, tzero3, tzn3, tplaces3, tint3, tstr3, tnoint3, tbool3, tany3, tsz4, tby4, tagg4, tslice4, tarr4, tzero4, tzn4, tplaces4, tint4, tstr4, tnoint4, tbool4, tany4, tsz23, tby23, tagg23, tslice23, tarr23, tzero23, tzn23, tplaces23, tint23, tstr23, tnoint23, tbool23, tany23, tfld23_0, tfld23_1, tfld23_2, tfld23_3, tfld23_4, tsz29, tby29, tagg29, tslice29, tarr29, tzero29, tzn29, tplaces29, tint29, tstr29, tnoint29, tbool29, tany29, tsz35, tby35, tagg35, tslice35, tarr35, tzero35, tzn35, tplaces35, tint35, tstr35, tnoint35, tbool35, tany35, tsz37, tby37, tagg37, tslice37, tarr37, tzero37, tzn37, tplaces37, tint37, tstr37, tnoint37, tbool37, tany37, tfld37_0, tsz51, tby51, tagg51, tslice51, tarr51, tzero51, tzn51, tplaces51, tint51, tstr51, tnoint51, tbool51, tany51, tsz61, tby61, tagg61, tslice61, tarr61, tzero61, tzn61, tplaces61, tint61, tstr61, tnoint61, tbool61, tany61, tsz74, tby74, tagg74, tslice74, tarr74, tzero74, tzn74, tplaces74, tint74, tstr74, tnoint74, tbool74, tany74
  , bEq, bB, e08, ctP12, body12, ctP14, body14, ctP16, body16, ctP17, body17]
    rw [show wr .i64 (nxT a b c d e t + o) = nxT a b c d e t + o from IntWalk.i64_in _ (by omega), show wr .i64 (nxT a b c d e t - 1) = nxT a b c d e t - 1 from IntWalk.i64_in _ (by omega)]
    have ha : awk a b c d e (nxT a b c d e t + o) = bLt o d := by
      have : (if c = 0 then nxT a b c d e t + o - b else (nxT a b c d e t + o - b) % c) = o := by
        split
        · omega
        · rcases g4 with g4 | g4
          · rw [g4.1, show b + o - b = o from by omega, Int.emod_eq_of_lt (by omega) (by omega)]
          · rw [show nxT a b c d e t + o - b = (nxT a b c d e t - b) + o from by omega, Int.add_emod, g4.2.1, Int.zero_add, Int.emod_emod, Int.emod_eq_of_lt (by omega) (by omega)]
      simp only [awk, hv, this, bLt, true_and]
      congr 1
      exact propext ⟨fun h => h.2, fun h => ⟨by omega, h⟩⟩
    rw [ha]
    have hb : (nxT a b c d e t == b) = true → awk a b c d e (nxT a b c d e t - 1) = false := by
      intro h5
      have h5 : nxT a b c d e t = b := by simpa using h5
      rw [h5]
      simp only [awk, decide_eq_false_iff_not]
      omega
    simp only [beq_self_eq_true, Bool.true_and, true_and]
    refine ⟨by omega, fun h5 => ⟨h5, by omega⟩, ?_, ?_⟩
    · intro _ h5; exact h5
    · cases h5 : (nxT a b c d e t == b) with
      | false => rfl
      | true => rw [hb h5]; rfl
  · cases hb
end Go.Proofs.Ytpgcekjnpieibaa
