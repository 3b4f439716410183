/-
  Contracts of overlap and Overlap.
-/
import Derived.Test.YtpgcekjnpieibaaJ
namespace Go.Proofs.Ytpgcekjnpieibaa
open Go.Am
set_option linter.unusedVariables false
set_option linter.unusedSimpArgs false
theorem emod_of (x g q r : Int) (h : x = r + g * q) (h0 : 0 ≤ r) (h1 : r < g) : x % g = r := by
  subst h
  rw [Int.add_mul_emod_self_left, Int.emod_eq_of_lt h0 h1]
theorem tmod_bounds (x g : Int) (hg : 0 < g) : -g < x.tmod g ∧ x.tmod g < g := by
  rcases Int.le_total 0 x with h | h
  · have h1 := Int.tmod_nonneg g h
    have h2 := Int.tmod_lt_of_pos x hg
    omega
  · have h1 := Int.tmod_nonneg g (show 0 ≤ -x by omega)
    have h2 := Int.tmod_lt_of_pos (-x) hg
    rw [Int.neg_tmod] at h1 h2
    omega
theorem tmod_neg (x g : Int) (hg : 0 < g) (h : x.tmod g < 0) : x.tmod g + g = x % g := by
  have hb := tmod_bounds x g hg
  have he := Int.mul_tdiv_add_tmod x g
  refine (emod_of x g (x.tdiv g - 1) _ ?_ (by omega) (by omega)).symm
  rw [Int.mul_sub, Int.mul_one]; omega
theorem tmod_pos (x g : Int) (hg : 0 < g) (h : ¬ x.tmod g < 0) : x.tmod g = x % g := by
  have hb := tmod_bounds x g hg
  have he := Int.mul_tdiv_add_tmod x g
  exact (emod_of x g (x.tdiv g) _ (by omega) (by omega) (by omega)).symm
theorem gcdI_bd (c c2 : Int) (h : 0 < c) : 1 ≤ gcdI c c2 ∧ gcdI c c2 ≤ c := by
  obtain ⟨m, rfl⟩ := Int.eq_ofNat_of_zero_le (show 0 ≤ c by omega)
  have h1 := Nat.gcd_pos_of_pos_left c2.toNat (show 0 < m by omega)
  have h2 := Nat.gcd_le_left c2.toNat (show 0 < m by omega)
  simp only [gcdI, Int.toNat_natCast]
  omega
def ovB (b c d b2 c2 d2 : Int) : Bool := if c = 0 then mtB b2 c2 d2 b (b + d) else if c2 = 0 then mtB b c d b2 (b2 + d2) else decide ((b - b2) % gcdI c c2 < d2 ∨ gcdI c c2 - (b - b2) % gcdI c c2 < d)
def ctJ : Ct := tab [(44, pureC body44), (45, pureC body45)]
theorem ctJ_ok : CtOk Try.prog ctJ := tab_cons ok44 <| tab_cons ok45 tab_nil
theorem ctJ44 (l : List AV) (h : List ABlk) : ctJ 44 l h = pureC body44 l h := rfl
theorem ctJ45 (l : List AV) (h : List ABlk) : ctJ 45 l h = pureC body45 l h := rfl
def body34 : List AV → AR
  | [.agg [.int .i64 a, .int .i64 b, .int .i64 c, .int .i64 d, .int .i64 e], .agg [.int .i64 a2, .int .i64 b2, .int .i64 c2, .int .i64 d2, .int .i64 e2]] => .pure (vld a b c d e = true ∧ vld a2 b2 c2 d2 e2 = true) (.bool (ovB b c d b2 c2 d2))
  | _ => .fail
set_option maxHeartbeats 4000000 in
set_option maxRecDepth 20000 in
theorem ok34 : FnOk Try.prog 34 (pureC body34) := by
  refine pure_fn noSh_ok ctJ_ok body34 (rs := [.tmp 4]) Try.func34 (by kernel_rfl) rfl rfl ?_
  intro l ob v hb hob
  unfold body34 at hb
  split at hb
  · rename_i a b c d e a2 b2 c2 d2 e2
    injection hb with q1 q2; subst q1 q2
    refine ⟨[.agg [.int .i64 a, .int .i64 b, .int .i64 c, .int .i64 d, .int .i64 e], .agg [.int .i64 a2, .int .i64 b2, .int .i64 c2, .int .i64 d2, .int .i64 e2]], [.agg [.int .i64 a, .int .i64 b, .int .i64 c, .int .i64 d, .int .i64 e], .agg [.int .i64 a2, .int .i64 b2, .int .i64 c2, .int .i64 d2, .int .i64 e2], .top, .top, .top, .top, .top, .top, .top, .top, .top, .top, .top, .top, .top, .top, .top, .top, .top, .top, .top, .top, .top, .top, .top, .top, .top, .top, .top, .top, .top, .top, .top, .top, .top, .top, .top, .top, .top, .top, .top, .top, .top, .top, .top, .top, .top, .top, .top, .top, .top, .top, .top, .top, .top, .top, .top, .top, .top, .top, .top, .top], fun E vs h => h, rfl, by rw [Try.ntmps34]; rfl, ?_⟩
    simp only [w_skip, w_label, w_goto, w_scope, k_goto, b_goto, l_goto, s_normal, s_exit, s_ret, s_goto, w_region, w_draw, w_seq, w_cond, w_block, w_exit, w_ret, w_loop, k_normal, k_exit, k_ret, b_normal, b_exit, b_ret, l_normal, l_exit, l_ret, r_normal, r_ret, o_nil, o_cons, q_nil, q_cons, nxt, gval, gvd, gvl, gvw, dstOf, evO, ogOp, ogC, og, ogL, ogP, ogO, rho, rhoO, strip, optOk, getL, setL, setT, absC, absV, absL, pO, hO, evLoad, ldB, geth, seth, evStore, stRes, stB, evBox, evAlloc, evFieldAddr, evField, evIndexAddr, evBin2, binI, binB, evInt, evStr, evUn, evConv, evPick, mrg, evExtract, evNil, evCall, mapR, evBuiltin, evLen2, vcells, vcOk, atom, tabF, cnd, retK, resTup, resL, resOg, evBuild, evBuildP, placeS, placeA, fillA, fillOk, putL, getP, nxtQ, pureC_eq, pureR, roV, roL, roOb, roObL, Option.getD_some, Option.getD_none, Option.bind_some, Option.bind_none, Option.or_some, Option.or_none, Option.none_or, List.nil_append, List.cons_append, List.append_nil, cond_true, cond_false, List.length_cons, List.length_nil, beq_self_eq_true, Bool.and_true, Bool.true_and, Bool.not_true, Bool.not_false, true_and, and_true, and_self, true_implies, implies_true, ne_eq, not_false_eq_true, Bool.false_eq_true, false_implies, Nat.lt_irrefl, Nat.reduceLeDiff, Nat.reduceLT, Nat.le_refl, Nat.reduceAdd, Nat.reduceMul, Nat.reduceSub, Nat.reduceEqDiff, Nat.reduceBEq, Nat.succ_ne_self, imp_self, Bool.cond_false_right, Bool.cond_true_left, decide_true, decide_false, reduceCtorEq, tsz3, tby3, tagg3, tslice3, tarr3, tzero3, tzn3, tplaces3, tint3, tstr3, tnoint3, tbool3, tany3, tsz4, tby4, tagg4, tslice4, tarr4, tzero4, tzn4, tplaces4, tint4, tstr4, tnoint4, tbool4, tany4, tsz23, tby23, tagg23, tslice23, tarr23, tzero23, tzn23, tplaces23, tint23, tstr23, tnoint23, tbool23, tany23, tfld23_0, tfld23_1, tfld23_2, tfld23_3, tfld23_4, tsz29, tby29, tagg29, tslice29, tarr29, tzero29, tzn29, tplaces29, tint29, tstr29, tnoint29, tbool29, tany29, tsz35, tby35, tagg35, tslice35, tarr35, tzero35, tzn35, tplaces35, tint35, tstr35, tnoint35, tbool35, tany35, tsz37, tby37, tagg37, tslice37, tarr37, tzero37, tzn37, tplaces37, tint37, tstr37, tnoint37, tbool37, tany37, tfld37_0, tsz51, tby51, tagg51, tslice51, tarr51, tzero51, tzn51, tplaces51, tint51, tstr51, tnoint51, tbool51, tany51, tsz61, tby61, tagg61, tslice61, tarr61, tzero61, tzn61, tplaces61, tint61, tstr61, tnoint61, tbool61, tany61, tsz74, tby74, tagg74, tslice74, tarr74, tzero74, tzn74, tplaces74, tint74, tstr74, tnoint74, tbool74, tany74
  , bEq, ctJ44, ctJ45, body44, body45]
    obtain ⟨v1, v2⟩ := hob
    have w1 := v1
    have w2 := v2
    simp only [vld, decide_eq_true_eq] at w1 w2
    rw [show wr .i64 (b + d) = b + d from IntWalk.i64_in _ (by omega), show wr .i64 (b2 + d2) = b2 + d2 from IntWalk.i64_in _ (by omega), show wr .i64 (b - b2) = b - b2 from IntWalk.i64_in _ (by omega)]
    refine ⟨fun h => ?_, fun h => ⟨fun h2 => ?_, fun h2 => ?_⟩⟩
    · have h : c = 0 := by simpa using h
      exact ⟨⟨v2, by omega⟩, by rw [ovB, if_pos h]⟩
    · have h : ¬ c = 0 := by simpa using h
      have h2 : c2 = 0 := by simpa using h2
      exact ⟨⟨v1, by omega⟩, by rw [ovB, if_neg h, if_pos h2]⟩
    · have h : ¬ c = 0 := by simpa using h
      have h2 : ¬ c2 = 0 := by simpa using h2
      have hg := gcdI_bd c c2 (by omega)
      have ht := tmod_bounds (b - b2) (gcdI c c2) (by omega)
      have hm0 := Int.emod_nonneg (b - b2) (show gcdI c c2 ≠ 0 by omega)
      have hm1 := Int.emod_lt_of_pos (b - b2) (show 0 < gcdI c c2 by omega)
      rw [ovB, if_neg h, if_neg h2]
      refine ⟨by omega, by omega, fun h3 => ?_, fun h3 => ?_⟩
      · have h3 : (b - b2).tmod (gcdI c c2) < 0 := by simpa [bLt] using h3
        rw [show wr .i64 ((b - b2).tmod (gcdI c c2) + gcdI c c2) = (b - b2).tmod (gcdI c c2) + gcdI c c2 from IntWalk.i64_in _ (by omega), tmod_neg _ _ (by omega) h3]
        rw [show wr .i64 (gcdI c c2 - (b - b2) % gcdI c c2) = gcdI c c2 - (b - b2) % gcdI c c2 from IntWalk.i64_in _ (by omega)]
        exact ⟨fun h4 => by rw [h4]; rfl, by simp only [bLt, Bool.decide_or]⟩
      · have h3 : ¬ (b - b2).tmod (gcdI c c2) < 0 := by simpa [bLt] using h3
        rw [tmod_pos _ _ (by omega) h3]
        rw [show wr .i64 (gcdI c c2 - (b - b2) % gcdI c c2) = gcdI c c2 - (b - b2) % gcdI c c2 from IntWalk.i64_in _ (by omega)]
        exact ⟨fun h4 => by rw [h4]; rfl, by simp only [bLt, Bool.decide_or]⟩
  · cases hb
def ctK : Ct := tab [(17, pureC body17), (34, pureC body34)]
theorem ctK_ok : CtOk Try.prog ctK := tab_cons ok17 <| tab_cons ok34 tab_nil
theorem ctK17 (l : List AV) (h : List ABlk) : ctK 17 l h = pureC body17 l h := rfl
theorem ctK34 (l : List AV) (h : List ABlk) : ctK 34 l h = pureC body34 l h := rfl
def ovC (a b c d e a2 b2 c2 d2 e2 : Int) : Bool := vld a b c d e && vld a2 b2 c2 d2 e2 && ovB b c d b2 c2 d2
def ovE (a b c d e a2 b2 c2 d2 e2 : Int) : Int := if vld a b c d e && vld a2 b2 c2 d2 e2 then 0 else 2
def body18 : List AV → AR
  | [.agg [.int .i64 a, .int .i64 b, .int .i64 c, .int .i64 d, .int .i64 e], .agg [.int .i64 a2, .int .i64 b2, .int .i64 c2, .int .i64 d2, .int .i64 e2]] => .pure True (.tup [.bool (ovC a b c d e a2 b2 c2 d2 e2), .int .i64 (ovE a b c d e a2 b2 c2 d2 e2)])
  | _ => .fail
set_option maxHeartbeats 4000000 in
set_option maxRecDepth 20000 in
theorem ok18 : FnOk Try.prog 18 (pureC body18) := by
  refine pure_fn noSh_ok ctK_ok body18 (rs := [.tmp 4, .tmp 5]) Try.func18 (by kernel_rfl) rfl rfl ?_
  intro l ob v hb hob
  unfold body18 at hb
  split at hb
  · rename_i a b c d e a2 b2 c2 d2 e2
    injection hb with q1 q2; subst q1 q2
    refine ⟨[.agg [.int .i64 a, .int .i64 b, .int .i64 c, .int .i64 d, .int .i64 e], .agg [.int .i64 a2, .int .i64 b2, .int .i64 c2, .int .i64 d2, .int .i64 e2]], [.agg [.int .i64 a, .int .i64 b, .int .i64 c, .int .i64 d, .int .i64 e], .agg [.int .i64 a2, .int .i64 b2, .int .i64 c2, .int .i64 d2, .int .i64 e2], .top, .top, .top, .top, .top, .top, .top, .top, .top, .top, .top, .top, .top, .top, .top], fun E vs h => h, rfl, by rw [Try.ntmps18]; rfl, ?_⟩
    simp only [w_skip, w_label, w_goto, w_scope, k_goto, b_goto, l_goto, s_normal, s_exit, s_ret, s_goto, w_region, w_draw, w_seq, w_cond, w_block, w_exit, w_ret, w_loop, k_normal, k_exit, k_ret, b_normal, b_exit, b_ret, l_normal, l_exit, l_ret, r_normal, r_ret, o_nil, o_cons, q_nil, q_cons, nxt, gval, gvd, gvl, gvw, dstOf, evO, ogOp, ogC, og, ogL, ogP, ogO, rho, rhoO, strip, optOk, getL, setL, setT, absC, absV, absL, pO, hO, evLoad, ldB, geth, seth, evStore, stRes, stB, evBox, evAlloc, evFieldAddr, evField, evIndexAddr, evBin2, binI, binB, evInt, evStr, evUn, evConv, evPick, mrg, evExtract, evNil, evCall, mapR, evBuiltin, evLen2, vcells, vcOk, atom, tabF, cnd, retK, resTup, resL, resOg, evBuild, evBuildP, placeS, placeA, fillA, fillOk, putL, getP, nxtQ, pureC_eq, pureR, roV, roL, roOb, roObL, Option.getD_some, Option.getD_none, Option.bind_some, Option.bind_none, Option.or_some, Option.or_none, Option.none_or, List.nil_append, List.cons_append, List.append_nil, cond_true, cond_false, List.length_cons, List.length_nil, beq_self_eq_true, Bool.and_true, Bool.true_and, Bool.not_true, Bool.not_false, true_and, and_true, and_self, true_implies, implies_true, ne_eq, not_false_eq_true, Bool.false_eq_true, false_implies, Nat.lt_irrefl, Nat.reduceLeDiff, Nat.reduceLT, Nat.le_refl, Nat.reduceAdd, Nat.reduceMul, Nat.reduceSub, Nat.reduceEqDiff, Nat.reduceBEq, Nat.succ_ne_self, imp_self, Bool.cond_false_right, Bool.cond_true_left, decide_true, decide_false, reduceCtorEq, tsz3, tby3, tagg3, tslice3, tarr3, tzero3, tzn3, tplaces3, tint3, tstr3, tnoint3, tbool3, tany3, tsz4, tby4, tagg4, tslice4, tarr4, tzero4, tzn4, tplaces4, tint4, tstr4, tnoint4, tbool4, tany4, tsz23, tby23, tagg23, tslice23, tarr23, tzero23, tzn23, tplaces23, tint23, tstr23, tnoint23, tbool23, tany23, tfld23_0, tfld23_1, tfld23_2, tfld23_3, tfld23_4, tsz29, tby29, tagg29, tslice29, tarr29, tzero29, tzn29, tplaces29, tint29, tstr29, tnoint29, tbool29, tany29, tsz35, tby35, tagg35, tslice35, tarr35, tzero35, tzn35, tplaces35, tint35, tstr35, tnoint35, tbool35, tany35, tsz37, tby37, tagg37, tslice37, tarr37, tzero37, tzn37, tplaces37, tint37, tstr37, tnoint37, tbool37, tany37, tfld37_0, tsz51, tby51, tagg51, tslice51, tarr51, tzero51, tzn51, tplaces51, tint51, tstr51, tnoint51, tbool51, tany51, tsz61, tby61, tagg61, tslice61, tarr61, tzero61, tzn61, tplaces61, tint61, tstr61, tnoint61, tbool61, tany61, tsz74, tby74, tagg74, tslice74, tarr74, tzero74, tzn74, tplaces74, tint74, tstr74, tnoint74, tbool74, tany74
  , bEq, ctK17, ctK34, body17, body34]
    have e0 : ∀ x : Bool, ((bif x then (0 : Int) else 8) == 0) = x := by intro x; cases x <;> rfl
    simp only [e0, ovC, ovE]
    cases h1 : vld a b c d e <;> cases h2 : vld a2 b2 c2 d2 e2 <;> simp
  · cases hb
def ctM : Ct := tab [(12, pureC body12), (14, pureC body14), (18, pureC body18)]
theorem ctM_ok : CtOk Try.prog ctM := tab_cons ok12 <| tab_cons ok14 <| tab_cons ok18 tab_nil
theorem ctM12 (l : List AV) (h : List ABlk) : ctM 12 l h = pureC body12 l h := rfl
theorem ctM14 (l : List AV) (h : List ABlk) : ctM 14 l h = pureC body14 l h := rfl
theorem ctM18 (l : List AV) (h : List ABlk) : ctM 18 l h = pureC body18 l h := rfl
def body16 : List AV → AR
  | [] => .pure True (.bool true)
  | _ => .fail
set_option maxHeartbeats 4000000 in
set_option maxRecDepth 20000 in
theorem ok16 : FnOk Try.prog 16 (pureC body16) := by
  refine pure_fn noSh_ok ctM_ok body16 (rs := [.tmp 0]) Try.func16 (by kernel_rfl) rfl rfl ?_
  intro l ob v hb hob
  unfold body16 at hb
  split at hb
  · skip
    injection hb with q1 q2; subst q1 q2
    refine ⟨[], [.top, .top, .top, .top, .top, .top, .top, .top, .top, .top, .top, .top, .top, .top, .top, .top, .top, .top, .top, .top, .top, .top, .top, .top, .top, .top, .top, .top, .top, .top, .top, .top, .top, .top, .top, .top, .top, .top, .top, .top, .top, .top, .top, .top, .top, .top, .top, .top, .top, .top, .top, .top, .top, .top, .top, .top, .top, .top, .top, .top, .top, .top, .top, .top, .top, .top, .top, .top, .top, .top, .top, .top, .top], fun E vs h => h, rfl, by rw [Try.ntmps16]; rfl, ?_⟩
    simp only [w_skip, w_label, w_goto, w_scope, k_goto, b_goto, l_goto, s_normal, s_exit, s_ret, s_goto, w_region, w_draw, w_seq, w_cond, w_block, w_exit, w_ret, w_loop, k_normal, k_exit, k_ret, b_normal, b_exit, b_ret, l_normal, l_exit, l_ret, r_normal, r_ret, o_nil, o_cons, q_nil, q_cons, nxt, gval, gvd, gvl, gvw, dstOf, evO, ogOp, ogC, og, ogL, ogP, ogO, rho, rhoO, strip, optOk, getL, setL, setT, absC, absV, absL, pO, hO, evLoad, ldB, geth, seth, evStore, stRes, stB, evBox, evAlloc, evFieldAddr, evField, evIndexAddr, evBin2, binI, binB, evInt, evStr, evUn, evConv, evPick, mrg, evExtract, evNil, evCall, mapR, evBuiltin, evLen2, vcells, vcOk, atom, tabF, cnd, retK, resTup, resL, resOg, evBuild, evBuildP, placeS, placeA, fillA, fillOk, putL, getP, nxtQ, pureC_eq, pureR, roV, roL, roOb, roObL, Option.getD_some, Option.getD_none, Option.bind_some, Option.bind_none, Option.or_some, Option.or_none, Option.none_or, List.nil_append, List.cons_append, List.append_nil, cond_true, cond_false, List.length_cons, List.length_nil, beq_self_eq_true, Bool.and_true, Bool.true_and, Bool.not_true, Bool.not_false, true_and, and_true, and_self, true_implies, implies_true, ne_eq, not_false_eq_true, Bool.false_eq_true, false_implies, Nat.lt_irrefl, Nat.reduceLeDiff, Nat.reduceLT, Nat.le_refl, Nat.reduceAdd, Nat.reduceMul, Nat.reduceSub, Nat.reduceEqDiff, Nat.reduceBEq, Nat.succ_ne_self, imp_self, Bool.cond_false_right, Bool.cond_true_left, decide_true, decide_false, reduceCtorEq, tsz3, tby3, tagg3, tslice3, tarr3, tzero3, tzn3, tplaces3, tint3, tstr3, tnoint3, tbool3, tany3, tsz4, tby4, tagg4, tslice4, tarr4, tzero4, tzn4, tplaces4, tint4, tstr4, tnoint4, tbool4, tany4, tsz23, tby23, tagg23, tslice23, tarr23, tzero23, tzn23, tplaces23, tint23, tstr23, tnoint23, tbool23, tany23, tfld23_0, tfld23_1, tfld23_2, tfld23_3, tfld23_4, tsz29, tby29, tagg29, tslice29, tarr29, tzero29, tzn29, tplaces29, tint29, tstr29, tnoint29, tbool29, tany29, tsz35, tby35, tagg35, tslice35, tarr35, tzero35, tzn35, tplaces35, tint35, tstr35, tnoint35, tbool35, tany35, tsz37, tby37, tagg37, tslice37, tarr37, tzero37, tzn37, tplaces37, tint37, tstr37, tnoint37, tbool37, tany37, tfld37_0, tsz51, tby51, tagg51, tslice51, tarr51, tzero51, tzn51, tplaces51, tint51, tstr51, tnoint51, tbool51, tany51, tsz61, tby61, tagg61, tslice61, tarr61, tzero61, tzn61, tplaces61, tint61, tstr61, tnoint61, tbool61, tany61, tsz74, tby74, tagg74, tslice74, tarr74, tzero74, tzn74, tplaces74, tint74, tstr74, tnoint74, tbool74, tany74
  , bEq, ctM12, ctM14, ctM18, body12, body14, body18]
    exact ⟨by decide, by decide, fun h => ⟨h, by decide⟩, fun h => ⟨h, by decide⟩, fun h => ⟨h, by decide⟩, congrArg AV.bool (by decide +kernel)⟩
  · cases hb
end Go.Proofs.Ytpgcekjnpieibaa
