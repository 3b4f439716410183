/-
  The contract of wake.Next: the next wake in closed form.
-/
import Derived.Test.YtpgcekjnpieibaaD
namespace Go.Proofs.Ytpgcekjnpieibaa
open Go.Am
set_option linter.unusedVariables false
set_option linter.unusedSimpArgs false
theorem pureC_eq (body : List AV → AR) (l : List AV) (h : List ABlk) : pureC body l h = pureR (roObL h l) (body (roL h l)) := rfl
def ctA : Ct := tab [(17, pureC body17)]
theorem ctA_ok : CtOk Try.prog ctA := tab_cons ok17 tab_nil
theorem ctA17 (l : List AV) (h : List ABlk) : ctA 17 l h = pureC body17 l h := rfl
def ctB : Ct := tab [(20, pureC body20)]
theorem ctB_ok : CtOk Try.prog ctB := tab_cons ok20 tab_nil
theorem ctB20 (l : List AV) (h : List ABlk) : ctB 20 l h = pureC body20 l h := rfl
/-- The next time: whether there is one, and which. -/
def nxV (id st ev le gr now : Int) : Bool := decide (vld id st ev le gr = true ∧ (now < st ∨ (ev ≠ 0 ∧ now ≤ 1099511627776 ∧ st + ((now - st) / ev + 1) * ev ≤ 1099511627776)))
def nxT (id st ev le gr now : Int) : Int := if nxV id st ev le gr now = true then (if now < st then st else st + ((now - st) / ev + 1) * ev) else 0
theorem nx_no (id st ev le gr now : Int) (h : nxV id st ev le gr now = false) : AV.tup [AV.int IntKind.i64 0, AV.bool false] = AV.tup [AV.int IntKind.i64 (nxT id st ev le gr now), AV.bool (nxV id st ev le gr now)] := by
  simp only [nxT, h]; rfl
theorem nx_yes (id st ev le gr now x : Int) (h : nxV id st ev le gr now = true) (hx : x = if now < st then st else st + ((now - st) / ev + 1) * ev) : AV.tup [AV.int IntKind.i64 x, AV.bool true] = AV.tup [AV.int IntKind.i64 (nxT id st ev le gr now), AV.bool (nxV id st ev le gr now)] := by
  simp only [nxT, h]; rw [hx]; rfl
theorem divs (x c : Int) (h : 0 ≤ x) (hc : 1 ≤ c) : 0 ≤ x / c ∧ x / c * c ≤ x ∧ x < x / c * c + c ∧ (x / c + 1) * c = x / c * c + c ∧ x / c ≤ x := by
  have h1 := Int.mul_ediv_add_emod x c
  have h2 := Int.emod_nonneg x (show c ≠ 0 by omega)
  have h3 := Int.emod_lt_of_pos x (show 0 < c by omega)
  have h4 : 0 ≤ x / c := Int.ediv_nonneg h (by omega)
  rw [Int.mul_comm] at h1
  have h5 : x / c ≤ x := Int.ediv_le_self _ h
  exact ⟨h4, by omega, by omega, by rw [Int.add_mul, Int.one_mul], h5⟩
def body12 : List AV → AR
  | [.agg [.int .i64 a, .int .i64 b, .int .i64 c, .int .i64 d, .int .i64 e], .int .i64 t] => .pure (-9223372036854775808 ≤ t ∧ t ≤ 9223372036854775807) (.tup [.int .i64 (nxT a b c d e t), .bool (nxV a b c d e t)])
  | _ => .fail
set_option maxHeartbeats 4000000 in
set_option maxRecDepth 20000 in
theorem ok12 : FnOk Try.prog 12 (pureC body12) := by
  refine pure_fn noSh_ok ctA_ok body12 (rs := [.tmp 4, .tmp 5]) Try.func12 (by kernel_rfl) rfl rfl ?_
  intro l ob v hb hob
  unfold body12 at hb
  split at hb
  · rename_i a b c d e t
    injection hb with q1 q2; subst q1 q2
    refine ⟨[.agg [.int .i64 a, .int .i64 b, .int .i64 c, .int .i64 d, .int .i64 e], .int .i64 t], [.agg [.int .i64 a, .int .i64 b, .int .i64 c, .int .i64 d, .int .i64 e], .int .i64 t, .top, .top, .top, .top, .top, .top, .top, .top, .top, .top, .top, .top, .top, .top, .top, .top, .top, .top, .top, .top, .top, .top, .top, .top, .top, .top, .top, .top, .top, .top, .top, .top, .top, .top], fun E vs h => h, rfl, by rw [Try.ntmps12]; rfl, ?_⟩
    simp only [w_skip, w_region, w_draw, w_seq, w_cond, w_block, w_exit, w_ret, w_loop, k_normal, k_exit, k_ret, b_normal, b_exit, b_ret, l_normal, l_exit, l_ret, r_normal, r_ret, o_nil, o_cons, q_nil, q_cons, nxt, gval, gvd, gvl, gvw, dstOf, evO, ogOp, ogC, og, ogL, ogP, ogO, rho, rhoO, strip, optOk, getL, setL, setT, absC, absV, absL, pO, hO, evLoad, ldB, geth, seth, evStore, stRes, stB, evBox, evAlloc, evFieldAddr, evField, evIndexAddr, evBin2, binI, binB, evInt, evStr, evUn, evConv, evPick, mrg, evExtract, evNil, evCall, mapR, evBuiltin, evLen2, vcells, vcOk, atom, tabF, cnd, retK, resTup, resL, resOg, evBuild, evBuildP, placeS, placeA, fillA, fillOk, putL, getP, nxtQ, pureC_eq, pureR, roV, roL, roOb, roObL, Option.getD_some, Option.getD_none, Option.bind_some, Option.bind_none, Option.or_some, Option.or_none, Option.none_or, List.nil_append, List.cons_append, List.append_nil, cond_true, cond_false, List.length_cons, List.length_nil, beq_self_eq_true, Bool.and_true, Bool.true_and, Bool.not_true, Bool.not_false, true_and, and_true, and_self, true_implies, implies_true, ne_eq, not_false_eq_true, Bool.false_eq_true, false_implies, Nat.lt_irrefl, Nat.reduceLeDiff, Nat.reduceLT, Nat.le_refl, Nat.reduceAdd, Nat.reduceMul, Nat.reduceSub, Nat.reduceEqDiff, Nat.reduceBEq, Nat.succ_ne_self, imp_self, Bool.cond_false_right, Bool.cond_true_left, decide_true, decide_false, reduceCtorEq, tsz3, tby3, tagg3, tslice3, tarr3, tzero3, tzn3, tplaces3, tint3, tstr3, tnoint3, tbool3, tany3, tsz4, tby4, tagg4, tslice4, tarr4, tzero4, tzn4, tplaces4, tint4, tstr4, tnoint4, tbool4, tany4, tsz23, tby23, tagg23, tslice23, tarr23, tzero23, tzn23, tplaces23, tint23, tstr23, tnoint23, tbool23, tany23, tfld23_0, tfld23_1, tfld23_2, tfld23_3, tfld23_4, tsz29, tby29, tagg29, tslice29, tarr29, tzero29, tzn29, tplaces29, tint29, tstr29, tnoint29, tbool29, tany29, tsz35, tby35, tagg35, tslice35, tarr35, tzero35, tzn35, tplaces35, tint35, tstr35, tnoint35, tbool35, tany35, tsz37, tby37, tagg37, tslice37, tarr37, tzero37, tzn37, tplaces37, tint37, tstr37, tnoint37, tbool37, tany37, tfld37_0, tsz51, tby51, tagg51, tslice51, tarr51, tzero51, tzn51, tplaces51, tint51, tstr51, tnoint51, tbool51, tany51, tsz61, tby61, tagg61, tslice61, tarr61, tzero61, tzn61, tplaces61, tint61, tstr61, tnoint61, tbool61, tany61, tsz74, tby74, tagg74, tslice74, tarr74, tzero74, tzn74, tplaces74, tint74, tstr74, tnoint74, tbool74, tany74, ctA17, body17]
    have hk : bEq (bif vld a b c d e then 0 else 8) 0 = vld a b c d e := by cases vld a b c d e <;> rfl
    rw [hk]
    cases hv : vld a b c d e with
    | false =>
      have hn : nxV a b c d e t = false := by simp only [nxV, hv, decide_eq_false_iff_not]; rintro ⟨h, _⟩; cases h
      refine ⟨fun _ => nx_no _ _ _ _ _ _ hn, fun h => ?_⟩
      simp at h
    | true =>
      have hv' := hv
      simp only [vld, decide_eq_true_eq] at hv'
      refine ⟨fun h => ?_, fun _ => ⟨fun h2 => ⟨?_, fun h3 => ?_, fun h3 => ?_⟩, fun h2 => ⟨fun h3 => ?_, fun h3 => ?_⟩⟩⟩
      · simp at h
      · intro h; simp [h]
      · simp only [bLe, bLt, bEq, decide_eq_true_eq, Bool.or_eq_true, beq_iff_eq] at h2 h3
        exact nx_no _ _ _ _ _ _ (by simp only [nxV, decide_eq_false_iff_not]; rintro ⟨_, h⟩; omega)
      · simp only [bLe, bLt, bEq, decide_eq_true_eq, Bool.or_eq_false_iff, decide_eq_false_iff_not, beq_eq_false_iff_ne] at h2 h3
        refine draw_quiet noSh_ok ctA_ok (by kernel_rfl) (by kernel_rfl) ?_
        simp only [w_skip, w_region, w_draw, w_seq, w_cond, w_block, w_exit, w_ret, w_loop, k_normal, k_exit, k_ret, b_normal, b_exit, b_ret, l_normal, l_exit, l_ret, r_normal, r_ret, o_nil, o_cons, q_nil, q_cons, nxt, gval, gvd, gvl, gvw, dstOf, evO, ogOp, ogC, og, ogL, ogP, ogO, rho, rhoO, strip, optOk, getL, setL, setT, absC, absV, absL, pO, hO, evLoad, ldB, geth, seth, evStore, stRes, stB, evBox, evAlloc, evFieldAddr, evField, evIndexAddr, evBin2, binI, binB, evInt, evStr, evUn, evConv, evPick, mrg, evExtract, evNil, evCall, mapR, evBuiltin, evLen2, vcells, vcOk, atom, tabF, cnd, retK, resTup, resL, resOg, evBuild, evBuildP, placeS, placeA, fillA, fillOk, putL, getP, nxtQ, pureC_eq, pureR, roV, roL, roOb, roObL, Option.getD_some, Option.getD_none, Option.bind_some, Option.bind_none, Option.or_some, Option.or_none, Option.none_or, List.nil_append, List.cons_append, List.append_nil, cond_true, cond_false, List.length_cons, List.length_nil, beq_self_eq_true, Bool.and_true, Bool.true_and, Bool.not_true, Bool.not_false, true_and, and_true, and_self, true_implies, implies_true, ne_eq, not_false_eq_true, Bool.false_eq_true, false_implies, Nat.lt_irrefl, Nat.reduceLeDiff, Nat.reduceLT, Nat.le_refl, Nat.reduceAdd, Nat.reduceMul, Nat.reduceSub, Nat.reduceEqDiff, Nat.reduceBEq, Nat.succ_ne_self, imp_self, Bool.cond_false_right, Bool.cond_true_left, decide_true, decide_false, reduceCtorEq, tsz3, tby3, tagg3, tslice3, tarr3, tzero3, tzn3, tplaces3, tint3, tstr3, tnoint3, tbool3, tany3, tsz4, tby4, tagg4, tslice4, tarr4, tzero4, tzn4, tplaces4, tint4, tstr4, tnoint4, tbool4, tany4, tsz23, tby23, tagg23, tslice23, tarr23, tzero23, tzn23, tplaces23, tint23, tstr23, tnoint23, tbool23, tany23, tfld23_0, tfld23_1, tfld23_2, tfld23_3, tfld23_4, tsz29, tby29, tagg29, tslice29, tarr29, tzero29, tzn29, tplaces29, tint29, tstr29, tnoint29, tbool29, tany29, tsz35, tby35, tagg35, tslice35, tarr35, tzero35, tzn35, tplaces35, tint35, tstr35, tnoint35, tbool35, tany35, tsz37, tby37, tagg37, tslice37, tarr37, tzero37, tzn37, tplaces37, tint37, tstr37, tnoint37, tbool37, tany37, tfld37_0, tsz51, tby51, tagg51, tslice51, tarr51, tzero51, tzn51, tplaces51, tint51, tstr51, tnoint51, tbool51, tany51, tsz61, tby61, tagg61, tslice61, tarr61, tzero61, tzn61, tplaces61, tint61, tstr61, tnoint61, tbool61, tany61, tsz74, tby74, tagg74, tslice74, tarr74, tzero74, tzn74, tplaces74, tint74, tstr74, tnoint74, tbool74, tany74, ctA17, body17]
        have hd := divs (t - b) c (by omega) (by omega)
        have w1 : wr .i64 (t - b) = t - b := IntWalk.i64_in _ (by omega)
        have w2 : wr .i64 ((t - b).tdiv c) = (t - b) / c := IntWalk.i64_quo _ _ (by omega)
        have w3 : wr .i64 ((t - b) / c + 1) = (t - b) / c + 1 := IntWalk.i64_in _ (by omega)
        have w4 : wr .i64 (((t - b) / c + 1) * c) = ((t - b) / c + 1) * c := IntWalk.i64_in _ (by omega)
        have w5 : wr .i64 (b + ((t - b) / c + 1) * c) = b + ((t - b) / c + 1) * c := IntWalk.i64_in _ (by omega)
        rw [w1, w2, w3, w4, w5]
        refine ⟨by omega, fun h4 => ?_, fun h4 => ?_⟩
        · simp only [bLt, decide_eq_true_eq] at h4
          exact nx_no _ _ _ _ _ _ (by simp only [nxV, decide_eq_false_iff_not]; rintro ⟨_, h⟩; omega)
        · simp only [bLt, decide_eq_false_iff_not] at h4
          exact nx_yes _ _ _ _ _ _ _ (by simp only [nxV, hv, decide_eq_true_eq, true_and]; omega) (by rw [if_neg (by omega)])
      · simp only [bLt, decide_eq_true_eq] at h3; omega
      · simp only [bLe, decide_eq_false_iff_not] at h2
        exact nx_yes _ _ _ _ _ _ _ (by simp only [nxV, hv, decide_eq_true_eq, true_and]; omega) (by rw [if_pos (by omega)])
  · cases hb
end Go.Proofs.Ytpgcekjnpieibaa
