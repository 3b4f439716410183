/-
  Contracts of CheckRule, Valid, Small, Awake: what each returns, told in plain terms.
-/
import Derived.Test.YtpgcekjnpieibaaT
import Derived.Test.YtpgcekjnpieibaaAm16
namespace Go.Proofs.Ytpgcekjnpieibaa
open Go.Am
set_option linter.unusedVariables false
set_option linter.unusedSimpArgs false
def vld (id st ev le gr : Int) : Bool := decide (0 ≤ id ∧ id ≤ 255 ∧ 0 ≤ gr ∧ gr ≤ 255 ∧ 0 ≤ ev ∧ ev ≤ 4294967296 ∧ 1 ≤ le ∧ le ≤ 4294967296 ∧ (ev = 0 ∨ le ≤ ev) ∧ 0 ≤ st ∧ st ≤ 1099511627776)
def sml (st ev le : Int) : Bool := decide (st ≤ 20000 ∧ ev ≤ 2000 ∧ le ≤ 2000 ∧ (ev ≤ 0 ∨ 10 ≤ ev))
def awk (id st ev le gr t : Int) : Bool := decide (vld id st ev le gr = true ∧ st ≤ t ∧ (if ev = 0 then t - st else (t - st) % ev) < le)
def noSh (t : TypeId) : Option (List Leaf) := none
theorem noSh_ok : ShOk Try.prog noSh := by
  intro t l h
  cases h
def body17 : List AV → AR
  | [.agg [.int .i64 a, .int .i64 b, .int .i64 c, .int .i64 d, .int .i64 e]] => .pure True (.int .i64 (bif vld a b c d e then 0 else 8))
  | _ => .fail
set_option maxHeartbeats 4000000 in
set_option maxRecDepth 20000 in
theorem ok17 : FnOk Try.prog 17 (pureC body17) := by
  refine pure_fn noSh_ok tab_nil body17 (rs := [.tmp 2]) Try.func17 (by kernel_rfl) rfl rfl ?_
  intro l ob v hb hob
  unfold body17 at hb
  split at hb
  · rename_i a b c d e
    injection hb with q1 q2; subst q1 q2
    refine ⟨[.agg [.int .i64 a, .int .i64 b, .int .i64 c, .int .i64 d, .int .i64 e]], [.agg [.int .i64 a, .int .i64 b, .int .i64 c, .int .i64 d, .int .i64 e], .top, .top, .top, .top, .top, .top, .top, .top, .top, .top, .top, .top, .top, .top, .top, .top, .top, .top, .top, .top, .top, .top, .top, .top, .top, .top, .top, .top, .top, .top, .top, .top, .top, .top, .top, .top, .top, .top, .top, .top, .top, .top, .top, .top, .top, .top, .top, .top, .top, .top, .top, .top, .top, .top, .top, .top, .top, .top, .top, .top, .top, .top, .top, .top, .top, .top, .top, .top], fun E vs h => h, rfl, by rw [Try.ntmps17]; rfl, ?_⟩
    simp only [w_skip, w_region, w_draw, w_seq, w_cond, w_block, w_exit, w_ret, w_loop, k_normal, k_exit, k_ret, b_normal, b_exit, b_ret, l_normal, l_exit, l_ret, r_normal, r_ret, o_nil, o_cons, q_nil, q_cons, nxt, gval, gvd, gvl, gvw, dstOf, evO, ogOp, ogC, og, ogL, ogP, ogO, rho, rhoO, strip, optOk, getL, setL, setT, absC, absV, absL, pO, hO, evLoad, ldB, geth, seth, evStore, stRes, stB, evBox, evAlloc, evFieldAddr, evField, evIndexAddr, evBin2, binI, binB, evInt, evStr, evUn, evConv, evPick, mrg, evExtract, evNil, evCall, mapR, tab, evBuiltin, evLen2, vcells, vcOk, atom, tabF, cnd, retK, resTup, resL, resOg, evBuild, evBuildP, placeS, placeA, fillA, fillOk, putL, getP, nxtQ, pureC, pureR, roV, roL, roOb, roObL, Option.getD_some, Option.getD_none, Option.bind_some, Option.bind_none, Option.or_some, Option.or_none, Option.none_or, List.nil_append, List.cons_append, List.append_nil, cond_true, cond_false, List.length_cons, List.length_nil, beq_self_eq_true, Bool.and_true, Bool.true_and, Bool.not_true, Bool.not_false, true_and, and_true, and_self, true_implies, implies_true, ne_eq, not_false_eq_true, Bool.false_eq_true, false_implies, Nat.lt_irrefl, Nat.reduceLeDiff, Nat.reduceLT, Nat.le_refl, Nat.reduceAdd, Nat.reduceMul, Nat.reduceSub, Nat.reduceEqDiff, Nat.reduceBEq, Nat.succ_ne_self, imp_self, Bool.cond_false_right, Bool.cond_true_left, decide_true, decide_false, reduceCtorEq, tsz3, tby3, tagg3, tslice3, tarr3, tzero3, tzn3, tplaces3, tint3, tstr3, tnoint3, tbool3, tany3, tsz4, tby4, tagg4, tslice4, tarr4, tzero4, tzn4, tplaces4, tint4, tstr4, tnoint4, tbool4, tany4, tsz23, tby23, tagg23, tslice23, tarr23, tzero23, tzn23, tplaces23, tint23, tstr23, tnoint23, tbool23, tany23, tfld23_0, tfld23_1, tfld23_2, tfld23_3, tfld23_4, tsz29, tby29, tagg29, tslice29, tarr29, tzero29, tzn29, tplaces29, tint29, tstr29, tnoint29, tbool29, tany29, tsz35, tby35, tagg35, tslice35, tarr35, tzero35, tzn35, tplaces35, tint35, tstr35, tnoint35, tbool35, tany35, tsz37, tby37, tagg37, tslice37, tarr37, tzero37, tzn37, tplaces37, tint37, tstr37, tnoint37, tbool37, tany37, tfld37_0, tsz51, tby51, tagg51, tslice51, tarr51, tzero51, tzn51, tplaces51, tint51, tstr51, tnoint51, tbool51, tany51, tsz61, tby61, tagg61, tslice61, tarr61, tzero61, tzn61, tplaces61, tint61, tstr61, tnoint61, tbool61, tany61, tsz74, tby74, tagg74, tslice74, tarr74, tzero74, tzn74, tplaces74, tint74, tstr74, tnoint74, tbool74, tany74]
    simp only [bLe, bLt, bEq, bB, Bool.and_eq_true, Bool.or_eq_true, Bool.not_eq_true', Bool.not_eq_false', decide_eq_true_eq, decide_eq_false_iff_not, beq_iff_eq, beq_eq_false_iff_ne, AV.int.injEq, AV.bool.injEq, AV.tup.injEq, List.cons.injEq, Bool.or_eq_false_iff, Bool.and_eq_false_iff, Bool.cond_decide, true_and, and_true, vld]
    refine ⟨?_, ?_, ?_, ?_, ?_, ?_⟩ <;> intros <;> first | omega | (split <;> omega)
  · cases hb
def body20 : List AV → AR
  | [.agg [.int .i64 a, .int .i64 b, .int .i64 c, .int .i64 d, .int .i64 e]] => .pure True (.bool (vld a b c d e))
  | _ => .fail
set_option maxHeartbeats 4000000 in
set_option maxRecDepth 20000 in
theorem ok20 : FnOk Try.prog 20 (pureC body20) := by
  refine pure_fn noSh_ok tab_nil body20 (rs := [.tmp 2]) Try.func20 (by kernel_rfl) rfl rfl ?_
  intro l ob v hb hob
  unfold body20 at hb
  split at hb
  · rename_i a b c d e
    injection hb with q1 q2; subst q1 q2
    refine ⟨[.agg [.int .i64 a, .int .i64 b, .int .i64 c, .int .i64 d, .int .i64 e]], [.agg [.int .i64 a, .int .i64 b, .int .i64 c, .int .i64 d, .int .i64 e], .top, .top, .top, .top, .top, .top, .top, .top, .top, .top, .top, .top, .top, .top, .top, .top, .top, .top, .top, .top, .top, .top, .top, .top, .top, .top, .top, .top, .top, .top, .top, .top, .top, .top, .top, .top, .top, .top, .top, .top, .top, .top, .top, .top, .top, .top, .top, .top, .top, .top, .top, .top, .top, .top, .top, .top, .top, .top], fun E vs h => h, rfl, by rw [Try.ntmps20]; rfl, ?_⟩
    simp only [w_skip, w_region, w_draw, w_seq, w_cond, w_block, w_exit, w_ret, w_loop, k_normal, k_exit, k_ret, b_normal, b_exit, b_ret, l_normal, l_exit, l_ret, r_normal, r_ret, o_nil, o_cons, q_nil, q_cons, nxt, gval, gvd, gvl, gvw, dstOf, evO, ogOp, ogC, og, ogL, ogP, ogO, rho, rhoO, strip, optOk, getL, setL, setT, absC, absV, absL, pO, hO, evLoad, ldB, geth, seth, evStore, stRes, stB, evBox, evAlloc, evFieldAddr, evField, evIndexAddr, evBin2, binI, binB, evInt, evStr, evUn, evConv, evPick, mrg, evExtract, evNil, evCall, mapR, tab, evBuiltin, evLen2, vcells, vcOk, atom, tabF, cnd, retK, resTup, resL, resOg, evBuild, evBuildP, placeS, placeA, fillA, fillOk, putL, getP, nxtQ, pureC, pureR, roV, roL, roOb, roObL, Option.getD_some, Option.getD_none, Option.bind_some, Option.bind_none, Option.or_some, Option.or_none, Option.none_or, List.nil_append, List.cons_append, List.append_nil, cond_true, cond_false, List.length_cons, List.length_nil, beq_self_eq_true, Bool.and_true, Bool.true_and, Bool.not_true, Bool.not_false, true_and, and_true, and_self, true_implies, implies_true, ne_eq, not_false_eq_true, Bool.false_eq_true, false_implies, Nat.lt_irrefl, Nat.reduceLeDiff, Nat.reduceLT, Nat.le_refl, Nat.reduceAdd, Nat.reduceMul, Nat.reduceSub, Nat.reduceEqDiff, Nat.reduceBEq, Nat.succ_ne_self, imp_self, Bool.cond_false_right, Bool.cond_true_left, decide_true, decide_false, reduceCtorEq, tsz3, tby3, tagg3, tslice3, tarr3, tzero3, tzn3, tplaces3, tint3, tstr3, tnoint3, tbool3, tany3, tsz4, tby4, tagg4, tslice4, tarr4, tzero4, tzn4, tplaces4, tint4, tstr4, tnoint4, tbool4, tany4, tsz23, tby23, tagg23, tslice23, tarr23, tzero23, tzn23, tplaces23, tint23, tstr23, tnoint23, tbool23, tany23, tfld23_0, tfld23_1, tfld23_2, tfld23_3, tfld23_4, tsz29, tby29, tagg29, tslice29, tarr29, tzero29, tzn29, tplaces29, tint29, tstr29, tnoint29, tbool29, tany29, tsz35, tby35, tagg35, tslice35, tarr35, tzero35, tzn35, tplaces35, tint35, tstr35, tnoint35, tbool35, tany35, tsz37, tby37, tagg37, tslice37, tarr37, tzero37, tzn37, tplaces37, tint37, tstr37, tnoint37, tbool37, tany37, tfld37_0, tsz51, tby51, tagg51, tslice51, tarr51, tzero51, tzn51, tplaces51, tint51, tstr51, tnoint51, tbool51, tany51, tsz61, tby61, tagg61, tslice61, tarr61, tzero61, tzn61, tplaces61, tint61, tstr61, tnoint61, tbool61, tany61, tsz74, tby74, tagg74, tslice74, tarr74, tzero74, tzn74, tplaces74, tint74, tstr74, tnoint74, tbool74, tany74]
    simp only [bLe, bLt, bEq, bB, Bool.and_eq_true, Bool.or_eq_true, Bool.not_eq_true', Bool.not_eq_false', decide_eq_true_eq, decide_eq_false_iff_not, beq_iff_eq, beq_eq_false_iff_ne, AV.int.injEq, AV.bool.injEq, AV.tup.injEq, List.cons.injEq, Bool.or_eq_false_iff, Bool.and_eq_false_iff, Bool.cond_decide, true_and, and_true, vld]
    repeat' first | apply And.intro | intro
    all_goals first | omega | (rw [eq_comm, decide_eq_false_iff_not]; omega) | (rw [Bool.eq_iff_iff]; simp only [Bool.and_eq_true, Bool.or_eq_true, decide_eq_true_eq, beq_iff_eq]; omega)
  · cases hb
def body11 : List AV → AR
  | [.agg [.int .i64 a, .int .i64 b, .int .i64 c, .int .i64 d, .int .i64 e]] => .pure True (.bool (sml b c d))
  | _ => .fail
set_option maxHeartbeats 4000000 in
set_option maxRecDepth 20000 in
theorem ok11 : FnOk Try.prog 11 (pureC body11) := by
  refine pure_fn noSh_ok tab_nil body11 (rs := [.tmp 2]) Try.func11 (by kernel_rfl) rfl rfl ?_
  intro l ob v hb hob
  unfold body11 at hb
  split at hb
  · rename_i a b c d e
    injection hb with q1 q2; subst q1 q2
    refine ⟨[.agg [.int .i64 a, .int .i64 b, .int .i64 c, .int .i64 d, .int .i64 e]], [.agg [.int .i64 a, .int .i64 b, .int .i64 c, .int .i64 d, .int .i64 e], .top, .top, .top, .top, .top, .top, .top, .top, .top, .top, .top, .top, .top, .top, .top, .top, .top, .top, .top, .top, .top, .top, .top, .top, .top], fun E vs h => h, rfl, by rw [Try.ntmps11]; rfl, ?_⟩
    simp only [w_skip, w_region, w_draw, w_seq, w_cond, w_block, w_exit, w_ret, w_loop, k_normal, k_exit, k_ret, b_normal, b_exit, b_ret, l_normal, l_exit, l_ret, r_normal, r_ret, o_nil, o_cons, q_nil, q_cons, nxt, gval, gvd, gvl, gvw, dstOf, evO, ogOp, ogC, og, ogL, ogP, ogO, rho, rhoO, strip, optOk, getL, setL, setT, absC, absV, absL, pO, hO, evLoad, ldB, geth, seth, evStore, stRes, stB, evBox, evAlloc, evFieldAddr, evField, evIndexAddr, evBin2, binI, binB, evInt, evStr, evUn, evConv, evPick, mrg, evExtract, evNil, evCall, mapR, tab, evBuiltin, evLen2, vcells, vcOk, atom, tabF, cnd, retK, resTup, resL, resOg, evBuild, evBuildP, placeS, placeA, fillA, fillOk, putL, getP, nxtQ, pureC, pureR, roV, roL, roOb, roObL, Option.getD_some, Option.getD_none, Option.bind_some, Option.bind_none, Option.or_some, Option.or_none, Option.none_or, List.nil_append, List.cons_append, List.append_nil, cond_true, cond_false, List.length_cons, List.length_nil, beq_self_eq_true, Bool.and_true, Bool.true_and, Bool.not_true, Bool.not_false, true_and, and_true, and_self, true_implies, implies_true, ne_eq, not_false_eq_true, Bool.false_eq_true, false_implies, Nat.lt_irrefl, Nat.reduceLeDiff, Nat.reduceLT, Nat.le_refl, Nat.reduceAdd, Nat.reduceMul, Nat.reduceSub, Nat.reduceEqDiff, Nat.reduceBEq, Nat.succ_ne_self, imp_self, Bool.cond_false_right, Bool.cond_true_left, decide_true, decide_false, reduceCtorEq, tsz3, tby3, tagg3, tslice3, tarr3, tzero3, tzn3, tplaces3, tint3, tstr3, tnoint3, tbool3, tany3, tsz4, tby4, tagg4, tslice4, tarr4, tzero4, tzn4, tplaces4, tint4, tstr4, tnoint4, tbool4, tany4, tsz23, tby23, tagg23, tslice23, tarr23, tzero23, tzn23, tplaces23, tint23, tstr23, tnoint23, tbool23, tany23, tfld23_0, tfld23_1, tfld23_2, tfld23_3, tfld23_4, tsz29, tby29, tagg29, tslice29, tarr29, tzero29, tzn29, tplaces29, tint29, tstr29, tnoint29, tbool29, tany29, tsz35, tby35, tagg35, tslice35, tarr35, tzero35, tzn35, tplaces35, tint35, tstr35, tnoint35, tbool35, tany35, tsz37, tby37, tagg37, tslice37, tarr37, tzero37, tzn37, tplaces37, tint37, tstr37, tnoint37, tbool37, tany37, tfld37_0, tsz51, tby51, tagg51, tslice51, tarr51, tzero51, tzn51, tplaces51, tint51, tstr51, tnoint51, tbool51, tany51, tsz61, tby61, tagg61, tslice61, tarr61, tzero61, tzn61, tplaces61, tint61, tstr61, tnoint61, tbool61, tany61, tsz74, tby74, tagg74, tslice74, tarr74, tzero74, tzn74, tplaces74, tint74, tstr74, tnoint74, tbool74, tany74]
    simp only [bLe, bLt, bEq, bB, Bool.and_eq_true, Bool.or_eq_true, Bool.not_eq_true', Bool.not_eq_false', decide_eq_true_eq, decide_eq_false_iff_not, beq_iff_eq, beq_eq_false_iff_ne, AV.int.injEq, AV.bool.injEq, AV.tup.injEq, List.cons.injEq, Bool.or_eq_false_iff, Bool.and_eq_false_iff, Bool.cond_decide, true_and, and_true, sml]
    repeat' first | apply And.intro | intro
    all_goals first | omega | (rw [eq_comm, decide_eq_false_iff_not]; omega) | (rw [Bool.eq_iff_iff]; simp only [Bool.and_eq_true, Bool.or_eq_true, decide_eq_true_eq, beq_iff_eq]; omega)
  · cases hb
def body14 : List AV → AR
  | [.agg [.int .i64 a, .int .i64 b, .int .i64 c, .int .i64 d, .int .i64 e], .int .i64 t] => .pure (t ≤ 9223372036854775807) (.bool (awk a b c d e t))
  | _ => .fail
set_option maxHeartbeats 4000000 in
set_option maxRecDepth 20000 in
theorem ok14 : FnOk Try.prog 14 (pureC body14) := by
  refine pure_fn noSh_ok (tab_cons ok17 tab_nil) body14 (rs := [.tmp 4]) Try.func14 (by kernel_rfl) rfl rfl ?_
  intro l ob v hb hob
  unfold body14 at hb
  split at hb
  · rename_i a b c d e t
    injection hb with q1 q2; subst q1 q2
    refine ⟨[.agg [.int .i64 a, .int .i64 b, .int .i64 c, .int .i64 d, .int .i64 e], .int .i64 t], [.agg [.int .i64 a, .int .i64 b, .int .i64 c, .int .i64 d, .int .i64 e], .int .i64 t, .top, .top, .top, .top, .top, .top, .top, .top, .top, .top, .top, .top, .top, .top, .top, .top, .top, .top, .top, .top, .top, .top, .top, .top, .top, .top, .top, .top, .top, .top, .top, .top], fun E vs h => h, rfl, by rw [Try.ntmps14]; rfl, ?_⟩
    simp only [w_skip, w_region, w_draw, w_seq, w_cond, w_block, w_exit, w_ret, w_loop, k_normal, k_exit, k_ret, b_normal, b_exit, b_ret, l_normal, l_exit, l_ret, r_normal, r_ret, o_nil, o_cons, q_nil, q_cons, nxt, gval, gvd, gvl, gvw, dstOf, evO, ogOp, ogC, og, ogL, ogP, ogO, rho, rhoO, strip, optOk, getL, setL, setT, absC, absV, absL, pO, hO, evLoad, ldB, geth, seth, evStore, stRes, stB, evBox, evAlloc, evFieldAddr, evField, evIndexAddr, evBin2, binI, binB, evInt, evStr, evUn, evConv, evPick, mrg, evExtract, evNil, evCall, mapR, tab, evBuiltin, evLen2, vcells, vcOk, atom, tabF, cnd, retK, resTup, resL, resOg, evBuild, evBuildP, placeS, placeA, fillA, fillOk, putL, getP, nxtQ, pureC, pureR, roV, roL, roOb, roObL, Option.getD_some, Option.getD_none, Option.bind_some, Option.bind_none, Option.or_some, Option.or_none, Option.none_or, List.nil_append, List.cons_append, List.append_nil, cond_true, cond_false, List.length_cons, List.length_nil, beq_self_eq_true, Bool.and_true, Bool.true_and, Bool.not_true, Bool.not_false, true_and, and_true, and_self, true_implies, implies_true, ne_eq, not_false_eq_true, Bool.false_eq_true, false_implies, Nat.lt_irrefl, Nat.reduceLeDiff, Nat.reduceLT, Nat.le_refl, Nat.reduceAdd, Nat.reduceMul, Nat.reduceSub, Nat.reduceEqDiff, Nat.reduceBEq, Nat.succ_ne_self, imp_self, Bool.cond_false_right, Bool.cond_true_left, decide_true, decide_false, reduceCtorEq, tsz3, tby3, tagg3, tslice3, tarr3, tzero3, tzn3, tplaces3, tint3, tstr3, tnoint3, tbool3, tany3, tsz4, tby4, tagg4, tslice4, tarr4, tzero4, tzn4, tplaces4, tint4, tstr4, tnoint4, tbool4, tany4, tsz23, tby23, tagg23, tslice23, tarr23, tzero23, tzn23, tplaces23, tint23, tstr23, tnoint23, tbool23, tany23, tfld23_0, tfld23_1, tfld23_2, tfld23_3, tfld23_4, tsz29, tby29, tagg29, tslice29, tarr29, tzero29, tzn29, tplaces29, tint29, tstr29, tnoint29, tbool29, tany29, tsz35, tby35, tagg35, tslice35, tarr35, tzero35, tzn35, tplaces35, tint35, tstr35, tnoint35, tbool35, tany35, tsz37, tby37, tagg37, tslice37, tarr37, tzero37, tzn37, tplaces37, tint37, tstr37, tnoint37, tbool37, tany37, tfld37_0, tsz51, tby51, tagg51, tslice51, tarr51, tzero51, tzn51, tplaces51, tint51, tstr51, tnoint51, tbool51, tany51, tsz61, tby61, tagg61, tslice61, tarr61, tzero61, tzn61, tplaces61, tint61, tstr61, tnoint61, tbool61, tany61, tsz74, tby74, tagg74, tslice74, tarr74, tzero74, tzn74, tplaces74, tint74, tstr74, tnoint74, tbool74, tany74, body17]
    have hk : bEq (bif vld a b c d e then 0 else 8) 0 = vld a b c d e := by cases vld a b c d e <;> rfl
    rw [hk]
    cases hv : vld a b c d e with
    | false => simp [awk, hv]
    | true =>
      have hv' := hv
      simp only [vld, decide_eq_true_eq] at hv'
      simp only [Bool.not_true, Bool.false_or, Bool.not_false, implies_true, true_and]
      refine ⟨fun h => ?_, fun h => ?_⟩
      · simp only [bLt, decide_eq_true_eq] at h
        rw [show awk a b c d e t = false from by simp only [awk, decide_eq_false_iff_not]; rintro ⟨_, h1, _⟩; omega]
      · simp only [bLt, decide_eq_false_iff_not] at h
        have w1 : wr .u64 t = t := IntWalk.u64_in t (by omega)
        have w2 : wr .u64 b = b := IntWalk.u64_in b (by omega)
        have w3 : wr .u64 c = c := IntWalk.u64_in c (by omega)
        have w4 : wr .u64 d = d := IntWalk.u64_in d (by omega)
        have w5 : wr .u64 (t - b) = t - b := IntWalk.u64_in _ (by omega)
        rw [w1, w2, w3, w4, w5, IntWalk.rem_in (t - b) c (by omega)]
        refine ⟨fun hc => ⟨?_, ?_⟩, fun hc => ?_⟩
        · simp only [bLt, decide_eq_true_eq] at hc; omega
        · simp only [bLt, decide_eq_true_eq] at hc
          congr 1
          simp only [bLt, awk, hv, true_and, if_neg (show ¬ c = 0 from by omega)]
          exact decide_eq_decide.2 ⟨fun q => ⟨by omega, q⟩, fun q => q.2⟩
        · simp only [bLt, decide_eq_false_iff_not] at hc
          congr 1
          simp only [bLt, awk, hv, true_and, if_pos (show c = 0 from by omega)]
          exact decide_eq_decide.2 ⟨fun q => ⟨by omega, q⟩, fun q => q.2⟩
  · cases hb
end Go.Proofs.Ytpgcekjnpieibaa
