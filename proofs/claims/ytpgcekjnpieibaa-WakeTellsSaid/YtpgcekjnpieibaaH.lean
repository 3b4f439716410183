/-
  Contracts of functions, each walked by the abstract machine.
-/
import Derived.Test.YtpgcekjnpieibaaG
namespace Go.Proofs.Ytpgcekjnpieibaa
open Go.Am
set_option linter.unusedVariables false
set_option linter.unusedSimpArgs false
def ctL : Ct := tab [(11, pureC body11), (12, pureC body12), (13, pureC body13), (14, pureC body14), (15, pureC body15)]
theorem ctL_ok : CtOk Try.prog ctL := tab_cons ok11 <| tab_cons ok12 <| tab_cons ok13 <| tab_cons ok14 <| tab_cons ok15 <| tab_nil
theorem ctL11 (l : List AV) (h : List ABlk) : ctL 11 l h = pureC body11 l h := rfl
theorem ctL12 (l : List AV) (h : List ABlk) : ctL 12 l h = pureC body12 l h := rfl
theorem ctL13 (l : List AV) (h : List ABlk) : ctL 13 l h = pureC body13 l h := rfl
theorem ctL14 (l : List AV) (h : List ABlk) : ctL 14 l h = pureC body14 l h := rfl
theorem ctL15 (l : List AV) (h : List ABlk) : ctL 15 l h = pureC body15 l h := rfl
def body3 : List AV → AR
  | [.agg [.int .i64 a, .int .i64 b, .int .i64 c, .int .i64 d, .int .i64 e], .int .i64 t] => .pure (-9223372036854775808 ≤ t) (.bool true)
  | _ => .fail
set_option maxHeartbeats 4000000 in
set_option maxRecDepth 20000 in
theorem ok3 : FnOk Try.prog 3 (pureC body3) := by
  refine pure_fn noSh_ok ctL_ok body3 (rs := [.tmp 4]) Try.func3 (by kernel_rfl) rfl rfl ?_
  intro l ob v hb hob
  unfold body3 at hb
  split at hb
  · rename_i a b c d e t
    injection hb with q1 q2; subst q1 q2
    refine ⟨[.agg [.int .i64 a, .int .i64 b, .int .i64 c, .int .i64 d, .int .i64 e], .int .i64 t], [.agg [.int .i64 a, .int .i64 b, .int .i64 c, .int .i64 d, .int .i64 e], .int .i64 t, .top, .top, .top, .top, .top, .top, .top, .top, .top, .top, .top, .top, .top, .top, .top, .top, .top, .top, .top, .top, .top, .top, .top, .top, .top, .top, .top, .top, .top, .top, .top, .top, .top, .top, .top, .top, .top, .top, .top, .top, .top, .top, .top], fun E vs h => h, rfl, by rw [Try.ntmps3]; rfl, ?_⟩
    simp only [w_skip, w_region, w_draw, w_seq, w_cond, w_block, w_exit, w_ret, w_loop, k_normal, k_exit, k_ret, b_normal, b_exit, b_ret, l_normal, l_exit, l_ret, r_normal, r_ret, o_nil, o_cons, q_nil, q_cons, nxt, gval, gvd, gvl, gvw, dstOf, evO, ogOp, ogC, og, ogL, ogP, ogO, rho, rhoO, strip, optOk, getL, setL, setT, absC, absV, absL, pO, hO, evLoad, ldB, geth, seth, evStore, stRes, stB, evBox, evAlloc, evFieldAddr, evField, evIndexAddr, evBin2, binI, binB, evInt, evStr, evUn, evConv, evPick, mrg, evExtract, evNil, evCall, mapR, evBuiltin, evLen2, vcells, vcOk, atom, tabF, cnd, retK, resTup, resL, resOg, evBuild, evBuildP, placeS, placeA, fillA, fillOk, putL, getP, nxtQ, pureC_eq, pureR, roV, roL, roOb, roObL, Option.getD_some, Option.getD_none, Option.bind_some, Option.bind_none, Option.or_some, Option.or_none, Option.none_or, List.nil_append, List.cons_append, List.append_nil, cond_true, cond_false, List.length_cons, List.length_nil, beq_self_eq_true, Bool.and_true, Bool.true_and, Bool.not_true, Bool.not_false, true_and, and_true, and_self, true_implies, implies_true, ne_eq, not_false_eq_true, Bool.false_eq_true, false_implies, Nat.lt_irrefl, Nat.reduceLeDiff, Nat.reduceLT, Nat.le_refl, Nat.reduceAdd, Nat.reduceMul, Nat.reduceSub, Nat.reduceEqDiff, Nat.reduceBEq, Nat.succ_ne_self, imp_self, Bool.cond_false_right, Bool.cond_true_left, decide_true, decide_false, reduceCtorEq, tsz3, tby3, tagg3, tslice3, tarr3, tzero3, tzn3, tplaces3, tint3, tstr3, tnoint3, tbool3, tany3, tsz4, tby4, tagg4, tslice4, tarr4, tzero4, tzn4, tplaces4, tint4, tstr4, tnoint4, tbool4, tany4, tsz23, tby23, tagg23, tslice23, tarr23, tzero23, tzn23, tplaces23, tint23, tstr23, tnoint23, tbool23, tany23, tfld23_0, tfld23_1, tfld23_2, tfld23_3, tfld23_4, tsz29, tby29, tagg29, tslice29, tarr29, tzero29, tzn29, tplaces29, tint29, tstr29, tnoint29, tbool29, tany29, tsz35, tby35, tagg35, tslice35, tarr35, tzero35, tzn35, tplaces35, tint35, tstr35, tnoint35, tbool35, tany35, tsz37, tby37, tagg37, tslice37, tarr37, tzero37, tzn37, tplaces37, tint37, tstr37, tnoint37, tbool37, tany37, tfld37_0, tsz51, tby51, tagg51, tslice51, tarr51, tzero51, tzn51, tplaces51, tint51, tstr51, tnoint51, tbool51, tany51, tsz61, tby61, tagg61, tslice61, tarr61, tzero61, tzn61, tplaces61, tint61, tstr61, tnoint61, tbool61, tany61, tsz74, tby74, tagg74, tslice74, tarr74, tzero74, tzn74, tplaces74, tint74, tstr74, tnoint74, tbool74, tany74, ctL11, body11, ctL12, body12, ctL13, body13, ctL14, body14, ctL15, body15, bEq, bB]
    refine ⟨?_, fun h1 => ?_⟩
    · intro h; simpa using h
    simp only [bLt, Bool.or_eq_false_iff, decide_eq_false_iff_not] at h1
    refine ⟨by omega, by omega, ?_⟩
    refine draw_quiet noSh_ok ctL_ok (by kernel_rfl) (by kernel_rfl) ?_
    simp only [w_skip, w_region, w_draw, w_seq, w_cond, w_block, w_exit, w_ret, w_loop, k_normal, k_exit, k_ret, b_normal, b_exit, b_ret, l_normal, l_exit, l_ret, r_normal, r_ret, o_nil, o_cons, q_nil, q_cons, nxt, gval, gvd, gvl, gvw, dstOf, evO, ogOp, ogC, og, ogL, ogP, ogO, rho, rhoO, strip, optOk, getL, setL, setT, absC, absV, absL, pO, hO, evLoad, ldB, geth, seth, evStore, stRes, stB, evBox, evAlloc, evFieldAddr, evField, evIndexAddr, evBin2, binI, binB, evInt, evStr, evUn, evConv, evPick, mrg, evExtract, evNil, evCall, mapR, evBuiltin, evLen2, vcells, vcOk, atom, tabF, cnd, retK, resTup, resL, resOg, evBuild, evBuildP, placeS, placeA, fillA, fillOk, putL, getP, nxtQ, pureC_eq, pureR, roV, roL, roOb, roObL, Option.getD_some, Option.getD_none, Option.bind_some, Option.bind_none, Option.or_some, Option.or_none, Option.none_or, List.nil_append, List.cons_append, List.append_nil, cond_true, cond_false, List.length_cons, List.length_nil, beq_self_eq_true, Bool.and_true, Bool.true_and, Bool.not_true, Bool.not_false, true_and, and_true, and_self, true_implies, implies_true, ne_eq, not_false_eq_true, Bool.false_eq_true, false_implies, Nat.lt_irrefl, Nat.reduceLeDiff, Nat.reduceLT, Nat.le_refl, Nat.reduceAdd, Nat.reduceMul, Nat.reduceSub, Nat.reduceEqDiff, Nat.reduceBEq, Nat.succ_ne_self, imp_self, Bool.cond_false_right, Bool.cond_true_left, decide_true, decide_false, reduceCtorEq, tsz3, tby3, tagg3, tslice3, tarr3, tzero3, tzn3, tplaces3, tint3, tstr3, tnoint3, tbool3, tany3, tsz4, tby4, tagg4, tslice4, tarr4, tzero4, tzn4, tplaces4, tint4, tstr4, tnoint4, tbool4, tany4, tsz23, tby23, tagg23, tslice23, tarr23, tzero23, tzn23, tplaces23, tint23, tstr23, tnoint23, tbool23, tany23, tfld23_0, tfld23_1, tfld23_2, tfld23_3, tfld23_4, tsz29, tby29, tagg29, tslice29, tarr29, tzero29, tzn29, tplaces29, tint29, tstr29, tnoint29, tbool29, tany29, tsz35, tby35, tagg35, tslice35, tarr35, tzero35, tzn35, tplaces35, tint35, tstr35, tnoint35, tbool35, tany35, tsz37, tby37, tagg37, tslice37, tarr37, tzero37, tzn37, tplaces37, tint37, tstr37, tnoint37, tbool37, tany37, tfld37_0, tsz51, tby51, tagg51, tslice51, tarr51, tzero51, tzn51, tplaces51, tint51, tstr51, tnoint51, tbool51, tany51, tsz61, tby61, tagg61, tslice61, tarr61, tzero61, tzn61, tplaces61, tint61, tstr61, tnoint61, tbool61, tany61, tsz74, tby74, tagg74, tslice74, tarr74, tzero74, tzn74, tplaces74, tint74, tstr74, tnoint74, tbool74, tany74, ctL11, body11, ctL12, body12, ctL13, body13, ctL14, body14, ctL15, body15, bEq, bB]
    exact ⟨by omega, by omega⟩

  · cases hb
end Go.Proofs.Ytpgcekjnpieibaa
