/-
  What ScanNames reaches.
-/
import Derived.Test.YtpnhehcncljhpaaY8p1
namespace Go.Proofs.Ytpnhehcncljhpaa
open Go.Am
set_option linter.unusedVariables false
set_option linter.unusedSimpArgs false
/-! hotspot/hotspotlaw28.two -/
noncomputable def ct26t0 : Ct := tab [(17, edC body17), (27, genC body27)]
theorem ct26t0_ok : CtOk Try.prog ct26t0 := tab_cons ok17 <| tab_cons ok27 <| tab_nil
theorem ct26t0_17 (l : List AV) (h : List ABlk) : ct26t0 17 l h = edC body17 l h := rfl
theorem ct26t0_27 (l : List AV) (h : List ABlk) : ct26t0 27 l h = genC body27 l h := rfl
noncomputable def F26 : Option (TCandidates × Int) :=
  (F27 (ByteArray.mk #[110, 101, 116]) 60 true).bind fun r1 => (F17 (TCandidates.mk []) (A6u8.mk 4 0 0 0 0 0) r1 6 (-450) 1000).bind fun r3 => bif (!bEq r3.2 0) then (some ((TCandidates.mk r3.1.List), r3.2)) else ((F27 (ByteArray.mk #[110, 101, 116]) 0 true).bind fun r6 => (F17 (TCandidates.mk r3.1.List) (A6u8.mk 2 0 0 0 0 0) r6 1 (-500) 2000).bind fun r8 => some ((TCandidates.mk r8.1.List), r8.2))
noncomputable def body26 : List AV -> List ABlk -> ED
  | [], h => .ed [] ((F26).isSome = true) (.tup [.agg [.sl 0 13 0 ((((gt F26).1).List).length) false], .int .i64 ((gt F26).2)]) [.row 52 13 ((((gt F26).1).List).length) (enR c_TCandidate (((gt F26).1).List))]
  | _, _ => .fail
set_option maxHeartbeats 4000000 in
set_option maxRecDepth 20000 in
theorem ok26 : FnOk Try.prog 26 (edC body26) := by
  refine edit_fnV body26 (rs := [.cell 0 41, .tmp 1]) Try.func26 (by kernel_rfl) rfl rfl ?_
  intro l h bs ob q0 g0 hb hob
  unfold body26 at hb
  split at hb
  · injection hb with q1 q2 q3 q4; subst q1 q2 q3 q4
    obtain ⟨r, H⟩ := Option.isSome_iff_exists.1 hob
    rw [H, gt_some]
    refine ⟨[], [], rfl, trivial, trivial, trivial, ⟨(nfB_en nr_TCandidate), trivial⟩, ⟨noroB_en, trivial⟩, (by first | (simp only [noro, noroL, and_self]; done) | (simp only [noro, noroL]; and_intros <;> first | trivial | exact noro_bif (by simp only [noro]) (by simp only [noro]) | (simp only [noro, noroL, and_self]))), ?_⟩
    rw [Try.ntmps26]
    simp only [List.length_cons, List.length_nil, Nat.reduceAdd, Nat.reduceSub, List.replicate_succ, List.replicate_zero, List.cons_append, List.nil_append]
    unfold F26 at H
    try dsimp only at H
    refine sq ctNo_ok ?_
    simp only [go_sem, Nat.reduceLeDiff, Nat.reduceLT, Nat.reduceAdd, Nat.reduceMul, Nat.reduceSub, Nat.reduceEqDiff, Nat.reduceBEq, Int.reduceToNat, reduceCtorEq]
    refine seqM ?_
    obtain ⟨r1, e2, H⟩ := bsi H
    obtain ⟨r3, e4, H⟩ := bsi H
    refine rg ct26t0_ok ?_
    simp only [go_sem, Nat.reduceLeDiff, Nat.reduceLT, Nat.reduceAdd, Nat.reduceMul, Nat.reduceSub, Nat.reduceEqDiff, Nat.reduceBEq, Int.reduceToNat, reduceCtorEq, ct26t0_17, body17, ct26t0_27, body27, e2, e4]
    repeat ((with_reducible refine And.intro ?_ ?_); focus exact an0)
    refine seqM ?_
    refine sq ctNo_ok ?_
    simp only [go_sem, Nat.reduceLeDiff, Nat.reduceLT, Nat.reduceAdd, Nat.reduceMul, Nat.reduceSub, Nat.reduceEqDiff, Nat.reduceBEq, Int.reduceToNat, reduceCtorEq]
    refine condM rfl trivial (fun hc => ?_) (fun hc => ?_)
    · have hk5 : (bEq r3.2 0) = false := by simpa using hc
      replace H := cond_t hc H
      refine sq ctNo_ok ?_
      simp only [go_sem, Nat.reduceLeDiff, Nat.reduceLT, Nat.reduceAdd, Nat.reduceMul, Nat.reduceSub, Nat.reduceEqDiff, Nat.reduceBEq, Int.reduceToNat, reduceCtorEq]
      repeat ((with_reducible refine And.intro ?_ ?_); focus exact an3)
      refine rg ctNo_ok ?_
      simp only [go_sem, Nat.reduceLeDiff, Nat.reduceLT, Nat.reduceAdd, Nat.reduceMul, Nat.reduceSub, Nat.reduceEqDiff, Nat.reduceBEq, Int.reduceToNat, reduceCtorEq]
      obtain rfl := Option.some.inj H
      refine RetE_mk [] [some 1] ?_ ?_ ?_ ?_ (by rfl) (by rfl)
      · simp only [go_sem, Nat.reduceEqDiff, Nat.reduceBEq, Nat.reduceAdd]
        try exact at0
      · simp only [go_sem, Nat.reduceEqDiff, Nat.reduceBEq, Nat.reduceAdd]
        try exact at0
      · simp only [go_sem, Nat.reduceEqDiff, Nat.reduceBEq, Nat.reduceAdd]
        exact Cv_tup (CvL_cons (by first | (simp [Cv, CvL, getM, gt_some]; done) | (simp [Cv, CvL, getM, gt_some]; omega)) (CvL_cons (by simp [Cv, CvL, getM, gt_some]) CvL_nil))
      · simp only [go_sem, Nat.reduceEqDiff, Nat.reduceBEq, Nat.reduceAdd, CvH, gt_some, Option.isSome_some, Option.isSome_none]
        exact CvB_row nr_TCandidate cl (fun _ _ _ _ => rfl)
    have hk5 : (bEq r3.2 0) = true := by simpa using hc
    replace H := cond_f hc H
    refine rg ctNo_ok ?_
    simp only [go_sem, Nat.reduceLeDiff, Nat.reduceLT, Nat.reduceAdd, Nat.reduceMul, Nat.reduceSub, Nat.reduceEqDiff, Nat.reduceBEq, Int.reduceToNat, reduceCtorEq]
    refine seqM ?_
    obtain ⟨r6, e7, H⟩ := bsi H
    obtain ⟨r8, e9, H⟩ := bsi H
    refine draw_ruleX [(18, [], [1])] shT_ok ct26t0_ok 1 (by kernel_rfl) (by kernel_rfl) ?_
    intro an han
    simp only [d_nil, d_cons, nxtD, xrD, xoD, roEq, minL, List.append_nil, refsOp, refs, refsL, mask, maskF, place, placeF, okLog, pairOk, hit, inL, slotsF, ren, renL, rnN, nrH, nrB, nrL, nr, dead0, deadS, List.replicate_zero, List.replicate_succ, Nat.sub_self, Nat.add_zero, Nat.zero_add, Nat.reduceSub, Nat.not_lt_zero, Nat.zero_le, Nat.lt_add_one, go_sem, Nat.reduceLeDiff, Nat.reduceLT, Nat.reduceAdd, Nat.reduceMul, Nat.reduceSub, Nat.reduceEqDiff, Nat.reduceBEq, Int.reduceToNat, reduceCtorEq, ct26t0_17, body17, ct26t0_27, body27, e7, e9]
    repeat ((with_reducible refine And.intro ?_ ?_); focus exact an7)
    refine rg ctNo_ok ?_
    simp only [go_sem, Nat.reduceLeDiff, Nat.reduceLT, Nat.reduceAdd, Nat.reduceMul, Nat.reduceSub, Nat.reduceEqDiff, Nat.reduceBEq, Int.reduceToNat, reduceCtorEq]
    obtain rfl := Option.some.inj H
    refine RetE_mk [] [some 3] ?_ ?_ ?_ ?_ (by rfl) (by rfl)
    · simp only [go_sem, Nat.reduceEqDiff, Nat.reduceBEq, Nat.reduceAdd]
      try exact at0
    · simp only [go_sem, Nat.reduceEqDiff, Nat.reduceBEq, Nat.reduceAdd]
      try exact at0
    · simp only [go_sem, Nat.reduceEqDiff, Nat.reduceBEq, Nat.reduceAdd]
      exact Cv_tup (CvL_cons (by first | (simp [Cv, CvL, getM, gt_some]; done) | (simp [Cv, CvL, getM, gt_some]; omega)) (CvL_cons (by simp [Cv, CvL, getM, gt_some]) CvL_nil))
    · simp only [go_sem, Nat.reduceEqDiff, Nat.reduceBEq, Nat.reduceAdd, CvH, gt_some, Option.isSome_some, Option.isSome_none]
      exact CvB_row nr_TCandidate cl (fun _ _ _ _ => rfl)
  · cases hb
/-! hotspot/scan.asked -/
noncomputable def ct46t0 : Ct := tab [(19, pureC body19)]
theorem ct46t0_ok : CtOk Try.prog ct46t0 := tab_cons ok19 <| tab_nil
theorem ct46t0_19 (l : List AV) (h : List ABlk) : ct46t0 19 l h = pureC body19 l h := rfl
noncomputable def ct46t1 : Ct := tab [(29, pureC body29)]
theorem ct46t1_ok : CtOk Try.prog ct46t1 := tab_cons ok29 <| tab_nil
theorem ct46t1_29 (l : List AV) (h : List ABlk) : ct46t1 29 l h = pureC body29 l h := rfl
noncomputable def F46 (p0 : TCandidates) (p1 : Int) : Option (Int) :=
  (F19 p0).bind fun r1 => bif (!bEq r1 0) then (some r1) else ((F29 p1 0 1099511627776).bind fun r4 => bif (!r4) then (some 2) else (some 0))
noncomputable def body46 : List AV -> AR
  | [v0, v1] => .pure (aK 1 k_TCandidates v0 /\ iK .i64 v1 /\ (F46 (g_TCandidates (aL v0)) (iA v1)).isSome = true) (.int .i64 (gt (F46 (g_TCandidates (aL v0)) (iA v1))))
  | _ => .fail
set_option maxHeartbeats 4000000 in
set_option maxRecDepth 20000 in
theorem ok46 : FnOk Try.prog 46 (pureC body46) := by
  refine pure_fnM body46 (rs := [.tmp 4]) Try.func46 (by kernel_rfl) rfl rfl ?_
  intro l ob v hb hob
  unfold body46 at hb
  split at hb
  · rename_i v0 v1
    injection hb with q1 q2; subst q1 q2
    obtain ⟨hk0_0, hk1_0, hob⟩ := hob
    obtain ⟨r, H⟩ := Option.isSome_iff_exists.1 hob
    rw [H, gt_some]
    have hw0 := wA_TCandidates hk0_0
    have hw1 := iK_wk hk1_0
    generalize g_TCandidates (aL v0) = p0 at H hw0
    generalize iA v1 = p1 at H hw1
    refine ⟨[.agg [.ro 13 p0.List.length false (enR c_TCandidate p0.List)], .int .i64 p1], _, (fun E vs F => FR_wk1 hw0.1 F (fun vs F => FR_wk1 hw1.1 F (fun vs F => F))), rfl, rfl, ?_⟩
    rw [Try.ntmps46]
    simp only [List.length_cons, List.length_nil, Nat.reduceAdd, Nat.reduceSub, List.replicate_succ, List.replicate_zero, List.cons_append, List.nil_append]
    unfold F46 at H
    try dsimp only at H
    refine sq ctNo_ok ?_
    simp only [go_sem, Nat.reduceLeDiff, Nat.reduceLT, Nat.reduceAdd, Nat.reduceMul, Nat.reduceSub, Nat.reduceEqDiff, Nat.reduceBEq, Int.reduceToNat, reduceCtorEq]
    refine seqM ?_
    refine seqM ?_
    obtain ⟨r1, e2, H⟩ := bsi H
    refine rg ct46t0_ok ?_
    simp only [go_sem, Nat.reduceLeDiff, Nat.reduceLT, Nat.reduceAdd, Nat.reduceMul, Nat.reduceSub, Nat.reduceEqDiff, Nat.reduceBEq, Int.reduceToNat, reduceCtorEq, ct46t0_19, body19, e2]
    repeat ((with_reducible refine And.intro ?_ ?_); focus exact an0)
    refine sq ctNo_ok ?_
    simp only [go_sem, Nat.reduceLeDiff, Nat.reduceLT, Nat.reduceAdd, Nat.reduceMul, Nat.reduceSub, Nat.reduceEqDiff, Nat.reduceBEq, Int.reduceToNat, reduceCtorEq]
    refine condM rfl trivial (fun hc => ?_) (fun hc => ?_)
    · have hk3 : (bEq r1 0) = false := by simpa using hc
      replace H := cond_t hc H
      refine sq ctNo_ok ?_
      simp only [go_sem, Nat.reduceLeDiff, Nat.reduceLT, Nat.reduceAdd, Nat.reduceMul, Nat.reduceSub, Nat.reduceEqDiff, Nat.reduceBEq, Int.reduceToNat, reduceCtorEq]
      refine rg ctNo_ok ?_
      simp only [go_sem, Nat.reduceLeDiff, Nat.reduceLT, Nat.reduceAdd, Nat.reduceMul, Nat.reduceSub, Nat.reduceEqDiff, Nat.reduceBEq, Int.reduceToNat, reduceCtorEq]
      obtain rfl := Option.some.inj H
      first | rfl | simp only [Bool.and_false, Bool.false_and, Bool.and_true, Bool.true_and]
    have hk3 : (bEq r1 0) = true := by simpa using hc
    replace H := cond_f hc H
    refine rg ctNo_ok ?_
    simp only [go_sem, Nat.reduceLeDiff, Nat.reduceLT, Nat.reduceAdd, Nat.reduceMul, Nat.reduceSub, Nat.reduceEqDiff, Nat.reduceBEq, Int.reduceToNat, reduceCtorEq]
    refine seqM ?_
    refine seqM ?_
    obtain ⟨r4, e5, H⟩ := bsi H
    refine rg ct46t1_ok ?_
    simp only [go_sem, Nat.reduceLeDiff, Nat.reduceLT, Nat.reduceAdd, Nat.reduceMul, Nat.reduceSub, Nat.reduceEqDiff, Nat.reduceBEq, Int.reduceToNat, reduceCtorEq, ct46t1_29, body29, e5]
    repeat ((with_reducible refine And.intro ?_ ?_); focus exact an0)
    refine condM rfl trivial (fun hc => ?_) (fun hc => ?_)
    · have hk6 : (r4) = false := by simpa using hc
      replace H := cond_t hc H
      refine sq ctNo_ok ?_
      simp only [go_sem, Nat.reduceLeDiff, Nat.reduceLT, Nat.reduceAdd, Nat.reduceMul, Nat.reduceSub, Nat.reduceEqDiff, Nat.reduceBEq, Int.reduceToNat, reduceCtorEq]
      refine rg ctNo_ok ?_
      simp only [go_sem, Nat.reduceLeDiff, Nat.reduceLT, Nat.reduceAdd, Nat.reduceMul, Nat.reduceSub, Nat.reduceEqDiff, Nat.reduceBEq, Int.reduceToNat, reduceCtorEq]
      obtain rfl := Option.some.inj H
      first | rfl | simp only [Bool.and_false, Bool.false_and, Bool.and_true, Bool.true_and]
    have hk6 : (r4) = true := by simpa using hc
    replace H := cond_f hc H
    refine rg ctNo_ok ?_
    simp only [go_sem, Nat.reduceLeDiff, Nat.reduceLT, Nat.reduceAdd, Nat.reduceMul, Nat.reduceSub, Nat.reduceEqDiff, Nat.reduceBEq, Int.reduceToNat, reduceCtorEq]
    refine sq ctNo_ok ?_
    simp only [go_sem, Nat.reduceLeDiff, Nat.reduceLT, Nat.reduceAdd, Nat.reduceMul, Nat.reduceSub, Nat.reduceEqDiff, Nat.reduceBEq, Int.reduceToNat, reduceCtorEq]
    refine rg ctNo_ok ?_
    simp only [go_sem, Nat.reduceLeDiff, Nat.reduceLT, Nat.reduceAdd, Nat.reduceMul, Nat.reduceSub, Nat.reduceEqDiff, Nat.reduceBEq, Int.reduceToNat, reduceCtorEq]
    obtain rfl := Option.some.inj H
    first | rfl | simp only [Bool.and_false, Bool.false_and, Bool.and_true, Bool.true_and]
  · cases hb
/-! cmp.Or[int] -/
noncomputable def F48_L1 (p0 : List Int) (v1_1 : Int) : Option (Lp (Int) ((Unit) ⊕ (Int))) :=
  bif (bLt v1_1 (p0.length : Nat)) then (need (inb v1_1 p0.length) <| bif (!bEq (gd p0 v1_1.toNat) 0) then (some (.done (.inr (gd p0 v1_1.toNat)))) else (some (.next (wr .i64 (v1_1 + 1))))) else (some (.done (.inl ())))
noncomputable def F48 (p0 : List Int) : Option (Int) :=
  lp (loopD (fun s => F48_L1 p0 s) 0) (fun _ => some 0) some
noncomputable def body48 : List AV -> AR
  | [v0] => .pure (lK k_i64 1 v0 /\ (F48 (lA g_i64 v0)).isSome = true) (.int .i64 (gt (F48 (lA g_i64 v0))))
  | _ => .fail
set_option maxHeartbeats 4000000 in
set_option maxRecDepth 20000 in
theorem ok48 : FnOk Try.prog 48 (pureC body48) := by
  refine pure_fnM body48 (rs := [.tmp 2]) Try.func48 (by kernel_rfl) rfl rfl ?_
  intro l ob v hb hob
  unfold body48 at hb
  split at hb
  · rename_i v0
    injection hb with q1 q2; subst q1 q2
    obtain ⟨hk0_0, hob⟩ := hob
    obtain ⟨r, H⟩ := Option.isSome_iff_exists.1 hob
    rw [H, gt_some]
    have hw0 := lK_wk (fun r h => w_i64 h) hk0_0
    generalize lA g_i64 v0 = p0 at H hw0
    refine ⟨[.ro 1 p0.length false (enR c_i64 p0)], _, (fun E vs F => FR_wk1 hw0.1 F (fun vs F => F)), rfl, rfl, ?_⟩
    rw [Try.ntmps48]
    simp only [List.length_cons, List.length_nil, Nat.reduceAdd, Nat.reduceSub, List.replicate_succ, List.replicate_zero, List.cons_append, List.nil_append]
    unfold F48 at H
    try dsimp only at H
    refine sq ctNo_ok ?_
    simp only [go_sem, Nat.reduceLeDiff, Nat.reduceLT, Nat.reduceAdd, Nat.reduceMul, Nat.reduceSub, Nat.reduceEqDiff, Nat.reduceBEq, Int.reduceToNat, reduceCtorEq]
    refine sq ctNo_ok ?_
    simp only [go_sem, Nat.reduceLeDiff, Nat.reduceLT, Nat.reduceAdd, Nat.reduceMul, Nat.reduceSub, Nat.reduceEqDiff, Nat.reduceBEq, Int.reduceToNat, reduceCtorEq]
    refine seqM ?_
    refine sq ctNo_ok ?_
    simp only [go_sem, Nat.reduceLeDiff, Nat.reduceLT, Nat.reduceAdd, Nat.reduceMul, Nat.reduceSub, Nat.reduceEqDiff, Nat.reduceBEq, Int.reduceToNat, reduceCtorEq]
    repeat ((with_reducible refine And.intro ?_ ?_); focus exact an0)
    refine blkM ?_
    refine loop_den (fun s : Int => (.top :: .top :: .top :: .int .i64 0 :: .top :: .top :: .ro 1 p0.length false (enR c_i64 p0) :: .int .i64 (p0.length : Nat) :: .int .i64 s :: tp 9 [])) (fun s => []) (fun e : Unit => (.top :: .top :: .top :: .int .i64 0 :: tp 14 [])) (fun e => []) H ?_ (fun v1_1 o H hn1_1 hn2_1 => ?_) (fun e H => ?_)
    · refine SubF_of ⟨[], ?_, ?_, by rfl, by rfl⟩
      · simp [CvL, Cv, getM, tp, tp, tpg, t8]
      · trivial
    · unfold F48_L1 at H
      try dsimp only at H ⊢
      try simp only [tp]
      refine sq ctNo_ok ?_
      simp only [go_sem, Nat.reduceLeDiff, Nat.reduceLT, Nat.reduceAdd, Nat.reduceMul, Nat.reduceSub, Nat.reduceEqDiff, Nat.reduceBEq, Int.reduceToNat, reduceCtorEq]
      refine seqM ?_
      refine condM' rfl trivial (fun hc => ?_) (fun hc => ?_)
      · have hk1 : (bLt v1_1 (p0.length : Nat)) = false := by simpa using hc
        replace H := cond_f hc H
        refine rg ctNo_ok ?_
        simp only [go_sem, Nat.reduceLeDiff, Nat.reduceLT, Nat.reduceAdd, Nat.reduceMul, Nat.reduceSub, Nat.reduceEqDiff, Nat.reduceBEq, Int.reduceToNat, reduceCtorEq]
        refine ⟨_, (Option.some.inj H).symm, ?_⟩
        refine SubF_of ⟨[], ?_, ?_, by rfl, by rfl⟩
        · simp [CvL, Cv, getM, tp, tp, tpg, t8]
        · trivial
      have hk1 : (bLt v1_1 (p0.length : Nat)) = true := by simpa using hc
      replace H := cond_t hc H
      refine rg ctNo_ok ?_
      simp only [go_sem, Nat.reduceLeDiff, Nat.reduceLT, Nat.reduceAdd, Nat.reduceMul, Nat.reduceSub, Nat.reduceEqDiff, Nat.reduceBEq, Int.reduceToNat, reduceCtorEq]
      refine seqM ?_
      refine blkM ?_
      refine seqM ?_
      obtain ⟨f2, H⟩ := need_some.1 H
      replace f2 := inb_iff.1 f2
      refine rg ctNo_ok ?_
      simp only [go_sem, Nat.reduceLeDiff, Nat.reduceLT, Nat.reduceAdd, Nat.reduceMul, Nat.reduceSub, Nat.reduceEqDiff, Nat.reduceBEq, Int.reduceToNat, reduceCtorEq, f2]
      repeat ((with_reducible refine And.intro ?_ ?_); focus exact an3)
      refine sq ctNo_ok ?_
      simp only [go_sem, Nat.reduceLeDiff, Nat.reduceLT, Nat.reduceAdd, Nat.reduceMul, Nat.reduceSub, Nat.reduceEqDiff, Nat.reduceBEq, Int.reduceToNat, reduceCtorEq]
      refine condM rfl trivial (fun hc => ?_) (fun hc => ?_)
      · have hk3 : (bEq (gd p0 v1_1.toNat) 0) = false := by simpa using hc
        replace H := cond_t hc H
        refine sq ctNo_ok ?_
        simp only [go_sem, Nat.reduceLeDiff, Nat.reduceLT, Nat.reduceAdd, Nat.reduceMul, Nat.reduceSub, Nat.reduceEqDiff, Nat.reduceBEq, Int.reduceToNat, reduceCtorEq]
        refine rg ctNo_ok ?_
        simp only [go_sem, Nat.reduceLeDiff, Nat.reduceLT, Nat.reduceAdd, Nat.reduceMul, Nat.reduceSub, Nat.reduceEqDiff, Nat.reduceBEq, Int.reduceToNat, reduceCtorEq]
        have H := hn2_1 _ (Option.some.inj H).symm
        obtain rfl := Option.some.inj H
        first | rfl | simp only [Bool.and_false, Bool.false_and, Bool.and_true, Bool.true_and]
      have hk3 : (bEq (gd p0 v1_1.toNat) 0) = true := by simpa using hc
      replace H := cond_f hc H
      refine rg ctNo_ok ?_
      simp only [go_sem, Nat.reduceLeDiff, Nat.reduceLT, Nat.reduceAdd, Nat.reduceMul, Nat.reduceSub, Nat.reduceEqDiff, Nat.reduceBEq, Int.reduceToNat, reduceCtorEq]
      refine rg ctNo_ok ?_
      simp only [go_sem, Nat.reduceLeDiff, Nat.reduceLT, Nat.reduceAdd, Nat.reduceMul, Nat.reduceSub, Nat.reduceEqDiff, Nat.reduceBEq, Int.reduceToNat, reduceCtorEq]
      refine ⟨_, (Option.some.inj H).symm, ?_⟩
      refine SubF_of ⟨[], ?_, ?_, by rfl, by rfl⟩
      · simp [CvL, Cv, getM, tp, tp, tpg, t8]
      · trivial
    · try dsimp only at H ⊢
      try simp only [tp]
      try simp only [m_normal, k_normal, b_normal, kL_normal, r_normal]
      refine sq ctNo_ok ?_
      simp only [go_sem, Nat.reduceLeDiff, Nat.reduceLT, Nat.reduceAdd, Nat.reduceMul, Nat.reduceSub, Nat.reduceEqDiff, Nat.reduceBEq, Int.reduceToNat, reduceCtorEq]
      refine rg ctNo_ok ?_
      simp only [go_sem, Nat.reduceLeDiff, Nat.reduceLT, Nat.reduceAdd, Nat.reduceMul, Nat.reduceSub, Nat.reduceEqDiff, Nat.reduceBEq, Int.reduceToNat, reduceCtorEq]
      obtain rfl := Option.some.inj H
      first | rfl | simp only [Bool.and_false, Bool.false_and, Bool.and_true, Bool.true_and]
  · cases hb
/-! hotspot/scan.Choose$1 -/
noncomputable def ct47_0t0 : Ct := tab [(43, pureC body43)]
theorem ct47_0t0_ok : CtOk Try.prog ct47_0t0 := tab_cons ok43 <| tab_nil
theorem ct47_0t0_43 (l : List AV) (h : List ABlk) : ct47_0t0 43 l h = pureC body43 l h := rfl
noncomputable def ct47_0t1 : Ct := tab [(43, pureC body43), (48, pureC body48)]
theorem ct47_0t1_ok : CtOk Try.prog ct47_0t1 := tab_cons ok43 <| tab_cons ok48 <| tab_nil
theorem ct47_0t1_43 (l : List AV) (h : List ABlk) : ct47_0t1 43 l h = pureC body43 l h := rfl
theorem ct47_0t1_48 (l : List AV) (h : List ABlk) : ct47_0t1 48 l h = pureC body48 l h := rfl
noncomputable def F47_0 (p0 : TCandidate) (p1 : Bool) (p2_7 : Int) (p2_8 : Int) : Option (Bool) :=
  need (bif (!(!p1)) then ((F43 (wr .i64 (p0.Level - p0.Load)) (wr .i64 (p2_7 - p2_8))).isSome) else true) <| need (bif (!(!p1)) then ((F43 p0.Level p2_7).isSome) else true) <| bif (!p1) then (some true) else ((F48 [(gt (F43 (wr .i64 (p0.Level - p0.Load)) (wr .i64 (p2_7 - p2_8)))), (gt (F43 p0.Level p2_7))]).bind fun r3 => some (bLt 0 r3))
noncomputable def body47_0 : List AV -> AR
  | [v0, v1, v2] => .pure (aK 13 k_TCandidate v0 /\ rK 1 k_b v1 /\ rM 13 v2 /\ iK .i64 (rG v2 7) /\ iK .i64 (rG v2 8) /\ (F47_0 (g_TCandidate (aL v0)) (g_b (rG v1)) (iA (rG v2 7)) (iA (rG v2 8))).isSome = true) (.bool (gt (F47_0 (g_TCandidate (aL v0)) (g_b (rG v1)) (iA (rG v2 7)) (iA (rG v2 8)))))
  | _ => .fail
set_option maxHeartbeats 4000000 in
set_option maxRecDepth 20000 in
theorem ok47_0 : FnOk Try.prog 47 (pureC body47_0) := by
  refine pure_fnM body47_0 (rs := [.tmp 4]) Try.func47 (by kernel_rfl) rfl rfl ?_
  intro l ob v hb hob
  unfold body47_0 at hb
  split at hb
  · rename_i v0 v1 v2
    injection hb with q1 q2; subst q1 q2
    obtain ⟨hk0_0, hk1_0, hk2_0, hk2_1, hk2_2, hob⟩ := hob
    obtain ⟨r, H⟩ := Option.isSome_iff_exists.1 hob
    rw [H, gt_some]
    have hw0 := wA_TCandidate hk0_0
    have hw1 := rK_wk (f := c_b) (g := g_b) (fun r h => w_b h) hk1_0
    have hw2 := (rM_wk (cells := [AV.top, AV.top, AV.top, AV.top, AV.top, AV.top, AV.top, AV.int .i64 (iA (rG v2 7)), AV.int .i64 (iA (rG v2 8)), AV.top, AV.top, AV.top, AV.top]) hk2_0 (fun y hy => match y, hy with | 0, _ => top_wk | 1, _ => top_wk | 2, _ => top_wk | 3, _ => top_wk | 4, _ => top_wk | 5, _ => top_wk | 6, _ => top_wk | 7, _ => iK_wk hk2_1 | 8, _ => iK_wk hk2_2 | 9, _ => top_wk | 10, _ => top_wk | 11, _ => top_wk | 12, _ => top_wk | y + 13, hy => absurd hy (by omega)))
    generalize g_TCandidate (aL v0) = p0 at H hw0
    generalize g_b (rG v1) = p1 at H hw1
    generalize iA (rG v2 7) = p2_7 at H hw2
    generalize iA (rG v2 8) = p2_8 at H hw2
    refine ⟨[.agg [.int .u8 p0.Addr.x0, .int .u8 p0.Addr.x1, .int .u8 p0.Addr.x2, .int .u8 p0.Addr.x3, .int .u8 p0.Addr.x4, .int .u8 p0.Addr.x5, .int .i64 p0.Channel, .int .i64 p0.Level, .int .i64 p0.Load, .int .i64 p0.Heard, .int .i64 p0.Interval, .str p0.Name, .bool p0.Secure], .rptr 1 1 0 0 (enR c_b [p1]), .rptr 13 1 0 0 (fun _ y => getL [.top, .top, .top, .top, .top, .top, .top, .int .i64 p2_7, .int .i64 p2_8, .top, .top, .top, .top] y)], _, (fun E vs F => FR_wk1 hw0.1 F (fun vs F => FR_wk1 hw1.1 F (fun vs F => FR_wk1 hw2.1 F (fun vs F => F)))), rfl, rfl, ?_⟩
    rw [Try.ntmps47]
    simp only [List.length_cons, List.length_nil, Nat.reduceAdd, Nat.reduceSub, List.replicate_succ, List.replicate_zero, List.cons_append, List.nil_append]
    unfold F47_0 at H
    try dsimp only at H
    refine sq ctNo_ok ?_
    simp only [go_sem, Nat.reduceLeDiff, Nat.reduceLT, Nat.reduceAdd, Nat.reduceMul, Nat.reduceSub, Nat.reduceEqDiff, Nat.reduceBEq, Int.reduceToNat, reduceCtorEq]
    refine seqM ?_
    obtain ⟨f1, H⟩ := need_some.1 H
    replace f1 := g_iff.1 f1
    obtain ⟨f2, H⟩ := need_some.1 H
    replace f2 := g_iff.1 f2
    refine bif_split (c := (!p1)) (fun hg5 => ?_) (fun hg5 => ?_)
    · replace H := cond_t hg5 H
      try replace f1 := f1 (by first | exact hg5 | simpa using hg5)
      try replace f2 := f2 (by first | exact hg5 | simpa using hg5)
      refine draw_quiet shT_ok ct47_0t1_ok (by kernel_rfl) (by kernel_rfl) ?_
      simp only [go_sem, Nat.reduceLeDiff, Nat.reduceLT, Nat.reduceAdd, Nat.reduceMul, Nat.reduceSub, Nat.reduceEqDiff, Nat.reduceBEq, Int.reduceToNat, reduceCtorEq, ct47_0t1_43, body43, ct47_0t1_48, body48, hg5]
      repeat ((with_reducible refine And.intro ?_ ?_); focus (first | (with_reducible trivial) | omega | exact f1 | exact f2 | (intro g; have q := f1 (by first | exact g | (rw [g]; rfl) | simpa using g); first | exact q | exact ⟨q.1, q.2.1⟩ | exact q.2.2 | omega | exact ⟨g, q⟩ | exact ⟨trivial, q⟩ | exact ⟨g, q.1, q.2.1⟩ | exact ⟨g, q.2.2⟩) | (intro g; have q := f2 (by first | exact g | (rw [g]; rfl) | simpa using g); first | exact q | exact ⟨q.1, q.2.1⟩ | exact q.2.2 | omega | exact ⟨g, q⟩ | exact ⟨trivial, q⟩ | exact ⟨g, q.1, q.2.1⟩ | exact ⟨g, q.2.2⟩) | (intro g; (try have q0 := f1 (by first | exact g | (rw [g]; rfl) | simpa using g)); (try have q1 := f2 (by first | exact g | (rw [g]; rfl) | simpa using g)); and_intros <;> first | (with_reducible trivial) | assumption | exact nfc | (intro g2; rw [g, g2]; rfl) | (intro g2; assumption) | (simp only [g, Bool.true_and, Bool.and_true, Bool.not_false, Bool.not_true]; assumption) | grind) | (and_intros <;> first | (with_reducible trivial) | omega | assumption | exact nfc | first | exact rfl | exact trivial | exact fitI | exact .inr rfl | exact .inl rfl | exact fun x hx => absurd hx (by omega) | (intro x hx; (repeat (first | (and_intros <;> (first | exact rfl | exact trivial | exact fitI | exact .inr rfl | exact .inl rfl | exact fun x hx => absurd hx (by omega))) | (exfalso; omega) | (rcases x with _ | x))); done)) | grind))
      refine rg ctNo_ok ?_
      simp only [go_sem, Nat.reduceLeDiff, Nat.reduceLT, Nat.reduceAdd, Nat.reduceMul, Nat.reduceSub, Nat.reduceEqDiff, Nat.reduceBEq, Int.reduceToNat, reduceCtorEq]
      obtain rfl := Option.some.inj H
      first | rfl | simp only [Bool.and_false, Bool.false_and, Bool.and_true, Bool.true_and]
    replace H := cond_f hg5 H
    try replace f1 := f1 (by first | exact hg5 | simpa using hg5)
    try replace f2 := f2 (by first | exact hg5 | simpa using hg5)
    obtain ⟨r3, e4, H⟩ := bsi H
    refine draw_rule shT_ok ct47_0t1_ok 1 (by kernel_rfl) (by kernel_rfl) ?_
    intro an han
    simp only [d_nil, d_cons, nxtD, xrD, xoD, roEq, minL, List.append_nil, refsOp, refs, refsL, mask, maskF, place, placeF, okLog, pairOk, hit, inL, slotsF, ren, renL, rnN, nrH, nrB, nrL, nr, dead0, deadS, List.replicate_zero, List.replicate_succ, Nat.sub_self, Nat.add_zero, Nat.zero_add, Nat.reduceSub, Nat.not_lt_zero, Nat.zero_le, Nat.lt_add_one, go_sem, Nat.reduceLeDiff, Nat.reduceLT, Nat.reduceAdd, Nat.reduceMul, Nat.reduceSub, Nat.reduceEqDiff, Nat.reduceBEq, Int.reduceToNat, reduceCtorEq, ct47_0t1_43, body43, ct47_0t1_48, body48, hg5, e4]
    repeat ((with_reducible refine And.intro ?_ ?_); focus (and_intros <;> first | (with_reducible trivial) | (show anB _ _ _ = true; subst han; kernel_rfl) | (show (anB _ _ _ && _) = true; subst han; kernel_rfl) | omega | exact f1 | exact f2 | (intro g; have q := f1 (by first | exact g | (rw [g]; rfl) | simpa using g); first | exact q | exact ⟨q.1, q.2.1⟩ | exact q.2.2 | omega | exact ⟨g, q⟩ | exact ⟨trivial, q⟩ | exact ⟨g, q.1, q.2.1⟩ | exact ⟨g, q.2.2⟩) | (intro g; have q := f2 (by first | exact g | (rw [g]; rfl) | simpa using g); first | exact q | exact ⟨q.1, q.2.1⟩ | exact q.2.2 | omega | exact ⟨g, q⟩ | exact ⟨trivial, q⟩ | exact ⟨g, q.1, q.2.1⟩ | exact ⟨g, q.2.2⟩) | assumption | exact nrc | exact nfc | first | exact rfl | exact trivial | exact fitI | exact .inr rfl | exact .inl rfl | exact fun x hx => absurd hx (by omega) | (intro x hx; (repeat (first | (and_intros <;> (first | exact rfl | exact trivial | exact fitI | exact .inr rfl | exact .inl rfl | exact fun x hx => absurd hx (by omega))) | (exfalso; omega) | (rcases x with _ | x))); done)))
    refine rg ctNo_ok ?_
    simp only [go_sem, Nat.reduceLeDiff, Nat.reduceLT, Nat.reduceAdd, Nat.reduceMul, Nat.reduceSub, Nat.reduceEqDiff, Nat.reduceBEq, Int.reduceToNat, reduceCtorEq]
    obtain rfl := Option.some.inj H
    first | rfl | simp only [Bool.and_false, Bool.false_and, Bool.and_true, Bool.true_and]
  · cases hb
/-! hotspot/scan.Choose -/
noncomputable def ct21t0 : Ct := tab [(46, pureC body46)]
theorem ct21t0_ok : CtOk Try.prog ct21t0 := tab_cons ok46 <| tab_nil
theorem ct21t0_46 (l : List AV) (h : List ABlk) : ct21t0 46 l h = pureC body46 l h := rfl
noncomputable def ct21t1 : Ct := tab [(47, pureC body47_0)]
theorem ct21t1_ok : CtOk Try.prog ct21t1 := tab_cons ok47_0 <| tab_nil
theorem ct21t1_47 (l : List AV) (h : List ABlk) : ct21t1 47 l h = pureC body47_0 l h := rfl
noncomputable def F21_L1 (p0 : TCandidates) (p1 : TWanted) (p2 : Int) (v1_1 : Int) (v1_2 : TCandidate) (v1_3 : Bool) : Option (Lp (Int × TCandidate × Bool) ((TCandidate × Bool) ⊕ (TCandidate × Int))) :=
  bif (bLt v1_1 (p0.List.length : Nat)) then (need (inb v1_1 p0.List.length) <| need (bif (((((sEq ((gd p0.List v1_1.toNat).Name) p1.Name) && (bB ((gd p0.List v1_1.toNat).Secure) p1.Secure)) && (bLe p1.Floor ((gd p0.List v1_1.toNat).Level))) && (bLe 0 (wr .i64 (p2 - ((gd p0.List v1_1.toNat).Heard))))) && (bLe (wr .i64 (p2 - ((gd p0.List v1_1.toNat).Heard))) p1.Life)) then ((F47_0 (TCandidate.mk (A6u8.mk (((gd p0.List v1_1.toNat).Addr).x0) (((gd p0.List v1_1.toNat).Addr).x1) (((gd p0.List v1_1.toNat).Addr).x2) (((gd p0.List v1_1.toNat).Addr).x3) (((gd p0.List v1_1.toNat).Addr).x4) (((gd p0.List v1_1.toNat).Addr).x5)) ((gd p0.List v1_1.toNat).Channel) ((gd p0.List v1_1.toNat).Level) ((gd p0.List v1_1.toNat).Load) ((gd p0.List v1_1.toNat).Heard) ((gd p0.List v1_1.toNat).Interval) ((gd p0.List v1_1.toNat).Name) ((gd p0.List v1_1.toNat).Secure)) v1_3 v1_2.Level v1_2.Load).isSome) else true) <| bif ((((((sEq ((gd p0.List v1_1.toNat).Name) p1.Name) && (bB ((gd p0.List v1_1.toNat).Secure) p1.Secure)) && (bLe p1.Floor ((gd p0.List v1_1.toNat).Level))) && (bLe 0 (wr .i64 (p2 - ((gd p0.List v1_1.toNat).Heard))))) && (bLe (wr .i64 (p2 - ((gd p0.List v1_1.toNat).Heard))) p1.Life)) && (gt (F47_0 (TCandidate.mk (A6u8.mk (((gd p0.List v1_1.toNat).Addr).x0) (((gd p0.List v1_1.toNat).Addr).x1) (((gd p0.List v1_1.toNat).Addr).x2) (((gd p0.List v1_1.toNat).Addr).x3) (((gd p0.List v1_1.toNat).Addr).x4) (((gd p0.List v1_1.toNat).Addr).x5)) ((gd p0.List v1_1.toNat).Channel) ((gd p0.List v1_1.toNat).Level) ((gd p0.List v1_1.toNat).Load) ((gd p0.List v1_1.toNat).Heard) ((gd p0.List v1_1.toNat).Interval) ((gd p0.List v1_1.toNat).Name) ((gd p0.List v1_1.toNat).Secure)) v1_3 v1_2.Level v1_2.Load))) then (some (.next (wr .i64 (v1_1 + 1), (TCandidate.mk (A6u8.mk (((gd p0.List v1_1.toNat).Addr).x0) (((gd p0.List v1_1.toNat).Addr).x1) (((gd p0.List v1_1.toNat).Addr).x2) (((gd p0.List v1_1.toNat).Addr).x3) (((gd p0.List v1_1.toNat).Addr).x4) (((gd p0.List v1_1.toNat).Addr).x5)) ((gd p0.List v1_1.toNat).Channel) ((gd p0.List v1_1.toNat).Level) ((gd p0.List v1_1.toNat).Load) ((gd p0.List v1_1.toNat).Heard) ((gd p0.List v1_1.toNat).Interval) ((gd p0.List v1_1.toNat).Name) ((gd p0.List v1_1.toNat).Secure)), true))) else (some (.next (wr .i64 (v1_1 + 1), v1_2, v1_3)))) else (some (.done (.inl (v1_2, v1_3))))
noncomputable def F21 (p0 : TCandidates) (p1 : TWanted) (p2 : Int) : Option (TCandidate × Int) :=
  (F46 p0 p2).bind fun r1 => bif (!bEq r1 0) then (some ((TCandidate.mk (A6u8.mk 0 0 0 0 0 0) 0 0 0 0 0 (ByteArray.mk #[]) false), r1)) else (lp (loopD (fun s => F21_L1 p0 p1 p2 s.1 s.2.1 s.2.2) (0, (TCandidate.mk (A6u8.mk 0 0 0 0 0 0) 0 0 0 0 0 (ByteArray.mk #[]) false), false)) (fun e1 => bif (!e1.2) then (some (e1.1, 6)) else (some (e1.1, 0))) some)
noncomputable def body21 : List AV -> AR
  | [v0, v1, v2] => .pure (aK 1 k_TCandidates v0 /\ aK 4 k_TWanted v1 /\ iK .i64 v2 /\ (F21 (g_TCandidates (aL v0)) (g_TWanted (aL v1)) (iA v2)).isSome = true) (.tup [.agg [.int .u8 ((((gt (F21 (g_TCandidates (aL v0)) (g_TWanted (aL v1)) (iA v2))).1).Addr).x0), .int .u8 ((((gt (F21 (g_TCandidates (aL v0)) (g_TWanted (aL v1)) (iA v2))).1).Addr).x1), .int .u8 ((((gt (F21 (g_TCandidates (aL v0)) (g_TWanted (aL v1)) (iA v2))).1).Addr).x2), .int .u8 ((((gt (F21 (g_TCandidates (aL v0)) (g_TWanted (aL v1)) (iA v2))).1).Addr).x3), .int .u8 ((((gt (F21 (g_TCandidates (aL v0)) (g_TWanted (aL v1)) (iA v2))).1).Addr).x4), .int .u8 ((((gt (F21 (g_TCandidates (aL v0)) (g_TWanted (aL v1)) (iA v2))).1).Addr).x5), .int .i64 (((gt (F21 (g_TCandidates (aL v0)) (g_TWanted (aL v1)) (iA v2))).1).Channel), .int .i64 (((gt (F21 (g_TCandidates (aL v0)) (g_TWanted (aL v1)) (iA v2))).1).Level), .int .i64 (((gt (F21 (g_TCandidates (aL v0)) (g_TWanted (aL v1)) (iA v2))).1).Load), .int .i64 (((gt (F21 (g_TCandidates (aL v0)) (g_TWanted (aL v1)) (iA v2))).1).Heard), .int .i64 (((gt (F21 (g_TCandidates (aL v0)) (g_TWanted (aL v1)) (iA v2))).1).Interval), .str (((gt (F21 (g_TCandidates (aL v0)) (g_TWanted (aL v1)) (iA v2))).1).Name), .bool (((gt (F21 (g_TCandidates (aL v0)) (g_TWanted (aL v1)) (iA v2))).1).Secure)], .int .i64 ((gt (F21 (g_TCandidates (aL v0)) (g_TWanted (aL v1)) (iA v2))).2)])
  | _ => .fail
set_option maxHeartbeats 4000000 in
set_option maxRecDepth 20000 in
theorem ok21 : FnOk Try.prog 21 (pureC body21) := by
  refine pure_fnM body21 (rs := [.cell 6 52, .tmp 7]) Try.func21 (by kernel_rfl) rfl rfl ?_
  intro l ob v hb hob
  unfold body21 at hb
  split at hb
  · rename_i v0 v1 v2
    injection hb with q1 q2; subst q1 q2
    obtain ⟨hk0_0, hk1_0, hk2_0, hob⟩ := hob
    obtain ⟨r, H⟩ := Option.isSome_iff_exists.1 hob
    rw [H, gt_some]
    have hw0 := wA_TCandidates hk0_0
    have hw1 := wA_TWanted hk1_0
    have hw2 := iK_wk hk2_0
    generalize g_TCandidates (aL v0) = p0 at H hw0
    generalize g_TWanted (aL v1) = p1 at H hw1
    generalize iA v2 = p2 at H hw2
    refine ⟨[.agg [.ro 13 p0.List.length false (enR c_TCandidate p0.List)], .agg [.str p1.Name, .bool p1.Secure, .int .i64 p1.Floor, .int .i64 p1.Life], .int .i64 p2], _, (fun E vs F => FR_wk1 hw0.1 F (fun vs F => FR_wk1 hw1.1 F (fun vs F => FR_wk1 hw2.1 F (fun vs F => F)))), rfl, rfl, ?_⟩
    rw [Try.ntmps21]
    simp only [List.length_cons, List.length_nil, Nat.reduceAdd, Nat.reduceSub, List.replicate_succ, List.replicate_zero, List.cons_append, List.nil_append]
    unfold F21 at H
    try dsimp only at H
    refine sq ctNo_ok ?_
    simp only [go_sem, Nat.reduceLeDiff, Nat.reduceLT, Nat.reduceAdd, Nat.reduceMul, Nat.reduceSub, Nat.reduceEqDiff, Nat.reduceBEq, Int.reduceToNat, reduceCtorEq]
    refine seqM ?_
    refine seqM ?_
    obtain ⟨r1, e2, H⟩ := bsi H
    refine rg ct21t0_ok ?_
    simp only [go_sem, Nat.reduceLeDiff, Nat.reduceLT, Nat.reduceAdd, Nat.reduceMul, Nat.reduceSub, Nat.reduceEqDiff, Nat.reduceBEq, Int.reduceToNat, reduceCtorEq, ct21t0_46, body46, e2]
    repeat ((with_reducible refine And.intro ?_ ?_); focus exact an0)
    refine sq ctNo_ok ?_
    simp only [go_sem, Nat.reduceLeDiff, Nat.reduceLT, Nat.reduceAdd, Nat.reduceMul, Nat.reduceSub, Nat.reduceEqDiff, Nat.reduceBEq, Int.reduceToNat, reduceCtorEq]
    refine condM rfl trivial (fun hc => ?_) (fun hc => ?_)
    · have hk3 : (bEq r1 0) = false := by simpa using hc
      replace H := cond_t hc H
      refine sq ctNo_ok ?_
      simp only [go_sem, Nat.reduceLeDiff, Nat.reduceLT, Nat.reduceAdd, Nat.reduceMul, Nat.reduceSub, Nat.reduceEqDiff, Nat.reduceBEq, Int.reduceToNat, reduceCtorEq]
      repeat ((with_reducible refine And.intro ?_ ?_); focus exact an3)
      refine rg ctNo_ok ?_
      simp only [go_sem, Nat.reduceLeDiff, Nat.reduceLT, Nat.reduceAdd, Nat.reduceMul, Nat.reduceSub, Nat.reduceEqDiff, Nat.reduceBEq, Int.reduceToNat, reduceCtorEq]
      obtain rfl := Option.some.inj H
      first | rfl | simp only [Bool.and_false, Bool.false_and, Bool.and_true, Bool.true_and]
    have hk3 : (bEq r1 0) = true := by simpa using hc
    replace H := cond_f hc H
    refine rg ctNo_ok ?_
    simp only [go_sem, Nat.reduceLeDiff, Nat.reduceLT, Nat.reduceAdd, Nat.reduceMul, Nat.reduceSub, Nat.reduceEqDiff, Nat.reduceBEq, Int.reduceToNat, reduceCtorEq]
    refine sq ctNo_ok ?_
    simp only [go_sem, Nat.reduceLeDiff, Nat.reduceLT, Nat.reduceAdd, Nat.reduceMul, Nat.reduceSub, Nat.reduceEqDiff, Nat.reduceBEq, Int.reduceToNat, reduceCtorEq]
    repeat ((with_reducible refine And.intro ?_ ?_); focus exact an3)
    refine sq ctNo_ok ?_
    simp only [go_sem, Nat.reduceLeDiff, Nat.reduceLT, Nat.reduceAdd, Nat.reduceMul, Nat.reduceSub, Nat.reduceEqDiff, Nat.reduceBEq, Int.reduceToNat, reduceCtorEq]
    refine seqM ?_
    refine sq ctNo_ok ?_
    simp only [go_sem, Nat.reduceLeDiff, Nat.reduceLT, Nat.reduceAdd, Nat.reduceMul, Nat.reduceSub, Nat.reduceEqDiff, Nat.reduceBEq, Int.reduceToNat, reduceCtorEq]
    repeat ((with_reducible refine And.intro ?_ ?_); focus exact an0)
    refine blkM ?_
    refine loop_den (fun s : Int × TCandidate × Bool => (.top :: .top :: .int .i64 p2 :: .top :: .ptr 1 0 0 0 :: .top :: .ptr 2 0 0 0 :: .top :: .top :: .ptr 3 0 0 0 :: .fn 47 [.ptr 3 0 0 0, .ptr 2 0 0 0] :: tp 12 (.ro 13 p0.List.length false (enR c_TCandidate p0.List) :: .int .i64 (p0.List.length : Nat) :: .int .i64 s.1 :: tp 47 []))) (fun s => [.dead, .lit 59 [.str p1.Name, .bool p1.Secure, .int .i64 p1.Floor, .int .i64 p1.Life], .lit 52 [.int .u8 s.2.1.Addr.x0, .int .u8 s.2.1.Addr.x1, .int .u8 s.2.1.Addr.x2, .int .u8 s.2.1.Addr.x3, .int .u8 s.2.1.Addr.x4, .int .u8 s.2.1.Addr.x5, .int .i64 s.2.1.Channel, .int .i64 s.2.1.Level, .int .i64 s.2.1.Load, .int .i64 s.2.1.Heard, .int .i64 s.2.1.Interval, .str s.2.1.Name, .bool s.2.1.Secure], .lit 4 [.bool s.2.2]]) (fun e : TCandidate × Bool => (tp 6 (.ptr 2 0 0 0 :: .top :: .top :: .ptr 3 0 0 0 :: tp 63 []))) (fun e => [.dead, .dead, .lit 52 [.int .u8 e.1.Addr.x0, .int .u8 e.1.Addr.x1, .int .u8 e.1.Addr.x2, .int .u8 e.1.Addr.x3, .int .u8 e.1.Addr.x4, .int .u8 e.1.Addr.x5, .int .i64 e.1.Channel, .int .i64 e.1.Level, .int .i64 e.1.Load, .int .i64 e.1.Heard, .int .i64 e.1.Interval, .str e.1.Name, .bool e.1.Secure], .lit 4 [.bool e.2]]) H ?_ (fun s o H hn1_1 hn2_1 => ?_) (fun e H => ?_)
    · refine SubF_of ⟨[some 0, some 1, some 2, some 3], ?_, ?_, by rfl, by rfl⟩
      · simp [CvL, Cv, getM, tp, tp, tpg, t8]
      · exact ⟨CvB_dead, cv, cv, cv, trivial⟩
    · obtain ⟨v1_1, v1_2, v1_3⟩ := s
      unfold F21_L1 at H
      try dsimp only at H ⊢
      try simp only [tp]
      refine sq ctNo_ok ?_
      simp only [go_sem, Nat.reduceLeDiff, Nat.reduceLT, Nat.reduceAdd, Nat.reduceMul, Nat.reduceSub, Nat.reduceEqDiff, Nat.reduceBEq, Int.reduceToNat, reduceCtorEq]
      refine seqM ?_
      refine condM' rfl trivial (fun hc => ?_) (fun hc => ?_)
      · have hk4 : (bLt v1_1 (p0.List.length : Nat)) = false := by simpa using hc
        replace H := cond_f hc H
        refine rg ctNo_ok ?_
        simp only [go_sem, Nat.reduceLeDiff, Nat.reduceLT, Nat.reduceAdd, Nat.reduceMul, Nat.reduceSub, Nat.reduceEqDiff, Nat.reduceBEq, Int.reduceToNat, reduceCtorEq]
        refine ⟨_, (Option.some.inj H).symm, ?_⟩
        refine SubF_of ⟨[some 0, some 1, some 2, some 3], ?_, ?_, by rfl, by rfl⟩
        · simp [CvL, Cv, getM, tp, tp, tpg, t8]
        · exact ⟨CvB_dead, CvB_dead, cv, cv, trivial⟩
      have hk4 : (bLt v1_1 (p0.List.length : Nat)) = true := by simpa using hc
      replace H := cond_t hc H
      refine rg ctNo_ok ?_
      simp only [go_sem, Nat.reduceLeDiff, Nat.reduceLT, Nat.reduceAdd, Nat.reduceMul, Nat.reduceSub, Nat.reduceEqDiff, Nat.reduceBEq, Int.reduceToNat, reduceCtorEq]
      refine seqM ?_
      refine blkM ?_
      refine seqM ?_
      obtain ⟨f5, H⟩ := need_some.1 H
      replace f5 := inb_iff.1 f5
      refine rg ctNo_ok ?_
      simp only [go_sem, Nat.reduceLeDiff, Nat.reduceLT, Nat.reduceAdd, Nat.reduceMul, Nat.reduceSub, Nat.reduceEqDiff, Nat.reduceBEq, Int.reduceToNat, reduceCtorEq, f5]
      repeat ((with_reducible refine And.intro ?_ ?_); focus exact an3)
      refine sq ctNo_ok ?_
      simp only [go_sem, Nat.reduceLeDiff, Nat.reduceLT, Nat.reduceAdd, Nat.reduceMul, Nat.reduceSub, Nat.reduceEqDiff, Nat.reduceBEq, Int.reduceToNat, reduceCtorEq]
      refine seqM ?_
      obtain ⟨f6, H⟩ := need_some.1 H
      replace f6 := g_iff.1 f6
      refine rg ct21t1_ok ?_
      simp only [go_sem, Nat.reduceLeDiff, Nat.reduceLT, Nat.reduceAdd, Nat.reduceMul, Nat.reduceSub, Nat.reduceEqDiff, Nat.reduceBEq, Int.reduceToNat, reduceCtorEq, ct21t1_47, body47_0]
      repeat ((with_reducible refine And.intro ?_ ?_); focus (first | (with_reducible trivial) | omega | exact f6 | (intro g; have q := f6 (by first | exact g | (rw [g]; rfl) | simpa using g); first | exact q | exact ⟨q.1, q.2.1⟩ | exact q.2.2 | omega | exact ⟨g, q⟩ | exact ⟨trivial, q⟩ | exact ⟨g, q.1, q.2.1⟩ | exact ⟨g, q.2.2⟩) | (intro g; (try have q0 := f6 (by first | exact g | (rw [g]; rfl) | simpa using g)); and_intros <;> first | (with_reducible trivial) | assumption | exact nfc | (intro g2; rw [g, g2]; rfl) | (intro g2; assumption) | (simp only [g, Bool.true_and, Bool.and_true, Bool.not_false, Bool.not_true]; assumption) | grind) | (and_intros <;> first | (with_reducible trivial) | omega | assumption | exact nfc | first | exact rfl | exact trivial | exact fitI | exact .inr rfl | exact .inl rfl | exact fun x hx => absurd hx (by omega)) | grind))
      refine condM' rfl trivial (fun hc => ?_) (fun hc => ?_)
      · have hk7 : ((((((sEq ((gd p0.List v1_1.toNat).Name) p1.Name) && (bB ((gd p0.List v1_1.toNat).Secure) p1.Secure)) && (bLe p1.Floor ((gd p0.List v1_1.toNat).Level))) && (bLe 0 (wr .i64 (p2 - ((gd p0.List v1_1.toNat).Heard))))) && (bLe (wr .i64 (p2 - ((gd p0.List v1_1.toNat).Heard))) p1.Life)) && (gt (F47_0 (TCandidate.mk (A6u8.mk (((gd p0.List v1_1.toNat).Addr).x0) (((gd p0.List v1_1.toNat).Addr).x1) (((gd p0.List v1_1.toNat).Addr).x2) (((gd p0.List v1_1.toNat).Addr).x3) (((gd p0.List v1_1.toNat).Addr).x4) (((gd p0.List v1_1.toNat).Addr).x5)) ((gd p0.List v1_1.toNat).Channel) ((gd p0.List v1_1.toNat).Level) ((gd p0.List v1_1.toNat).Load) ((gd p0.List v1_1.toNat).Heard) ((gd p0.List v1_1.toNat).Interval) ((gd p0.List v1_1.toNat).Name) ((gd p0.List v1_1.toNat).Secure)) v1_3 v1_2.Level v1_2.Load))) = false := by first | simpa using hc | simpa only [Bool.not_eq_true', Bool.not_eq_false'] using hc
        replace H := cond_f hc H
        refine rg ctNo_ok ?_
        simp only [go_sem, Nat.reduceLeDiff, Nat.reduceLT, Nat.reduceAdd, Nat.reduceMul, Nat.reduceSub, Nat.reduceEqDiff, Nat.reduceBEq, Int.reduceToNat, reduceCtorEq]
        refine rg ctNo_ok ?_
        simp only [go_sem, Nat.reduceLeDiff, Nat.reduceLT, Nat.reduceAdd, Nat.reduceMul, Nat.reduceSub, Nat.reduceEqDiff, Nat.reduceBEq, Int.reduceToNat, reduceCtorEq]
        refine ⟨_, (Option.some.inj H).symm, ?_⟩
        refine SubF_of ⟨[some 0, some 1, some 2, some 3], ?_, ?_, by rfl, by rfl⟩
        · simp [CvL, Cv, getM, tp, tp, tpg, t8]
        · exact ⟨CvB_dead, cv, cv, cv, trivial⟩
      have hk7 : ((((((sEq ((gd p0.List v1_1.toNat).Name) p1.Name) && (bB ((gd p0.List v1_1.toNat).Secure) p1.Secure)) && (bLe p1.Floor ((gd p0.List v1_1.toNat).Level))) && (bLe 0 (wr .i64 (p2 - ((gd p0.List v1_1.toNat).Heard))))) && (bLe (wr .i64 (p2 - ((gd p0.List v1_1.toNat).Heard))) p1.Life)) && (gt (F47_0 (TCandidate.mk (A6u8.mk (((gd p0.List v1_1.toNat).Addr).x0) (((gd p0.List v1_1.toNat).Addr).x1) (((gd p0.List v1_1.toNat).Addr).x2) (((gd p0.List v1_1.toNat).Addr).x3) (((gd p0.List v1_1.toNat).Addr).x4) (((gd p0.List v1_1.toNat).Addr).x5)) ((gd p0.List v1_1.toNat).Channel) ((gd p0.List v1_1.toNat).Level) ((gd p0.List v1_1.toNat).Load) ((gd p0.List v1_1.toNat).Heard) ((gd p0.List v1_1.toNat).Interval) ((gd p0.List v1_1.toNat).Name) ((gd p0.List v1_1.toNat).Secure)) v1_3 v1_2.Level v1_2.Load))) = true := by first | simpa using hc | simpa only [Bool.not_eq_true', Bool.not_eq_false'] using hc
      replace H := cond_t hc H
      refine rg ctNo_ok ?_
      simp only [go_sem, Nat.reduceLeDiff, Nat.reduceLT, Nat.reduceAdd, Nat.reduceMul, Nat.reduceSub, Nat.reduceEqDiff, Nat.reduceBEq, Int.reduceToNat, reduceCtorEq]
      repeat ((with_reducible refine And.intro ?_ ?_); focus exact an3)
      refine rg ctNo_ok ?_
      simp only [go_sem, Nat.reduceLeDiff, Nat.reduceLT, Nat.reduceAdd, Nat.reduceMul, Nat.reduceSub, Nat.reduceEqDiff, Nat.reduceBEq, Int.reduceToNat, reduceCtorEq]
      refine ⟨_, (Option.some.inj H).symm, ?_⟩
      refine SubF_of ⟨[some 0, some 1, some 2, some 3], ?_, ?_, by rfl, by rfl⟩
      · simp [CvL, Cv, getM, tp, tp, tpg, t8]
      · exact ⟨CvB_dead, cv, cv, cv, trivial⟩
    · obtain ⟨w1_4, w1_5⟩ := e
      try dsimp only at H ⊢
      try simp only [tp]
      try simp only [m_normal, k_normal, b_normal, kL_normal, r_normal]
      refine seqM ?_
      refine sq ctNo_ok ?_
      simp only [go_sem, Nat.reduceLeDiff, Nat.reduceLT, Nat.reduceAdd, Nat.reduceMul, Nat.reduceSub, Nat.reduceEqDiff, Nat.reduceBEq, Int.reduceToNat, reduceCtorEq]
      refine condM rfl trivial (fun hc => ?_) (fun hc => ?_)
      · have hk8 : (w1_5) = false := by simpa using hc
        replace H := cond_t hc H
        refine sq ctNo_ok ?_
        simp only [go_sem, Nat.reduceLeDiff, Nat.reduceLT, Nat.reduceAdd, Nat.reduceMul, Nat.reduceSub, Nat.reduceEqDiff, Nat.reduceBEq, Int.reduceToNat, reduceCtorEq]
        repeat ((with_reducible refine And.intro ?_ ?_); focus exact an3)
        refine rg ctNo_ok ?_
        simp only [go_sem, Nat.reduceLeDiff, Nat.reduceLT, Nat.reduceAdd, Nat.reduceMul, Nat.reduceSub, Nat.reduceEqDiff, Nat.reduceBEq, Int.reduceToNat, reduceCtorEq]
        obtain rfl := Option.some.inj H
        first | rfl | simp only [Bool.and_false, Bool.false_and, Bool.and_true, Bool.true_and]
      have hk8 : (w1_5) = true := by simpa using hc
      replace H := cond_f hc H
      refine rg ctNo_ok ?_
      simp only [go_sem, Nat.reduceLeDiff, Nat.reduceLT, Nat.reduceAdd, Nat.reduceMul, Nat.reduceSub, Nat.reduceEqDiff, Nat.reduceBEq, Int.reduceToNat, reduceCtorEq]
      refine sq ctNo_ok ?_
      simp only [go_sem, Nat.reduceLeDiff, Nat.reduceLT, Nat.reduceAdd, Nat.reduceMul, Nat.reduceSub, Nat.reduceEqDiff, Nat.reduceBEq, Int.reduceToNat, reduceCtorEq]
      repeat ((with_reducible refine And.intro ?_ ?_); focus exact an3)
      refine rg ctNo_ok ?_
      simp only [go_sem, Nat.reduceLeDiff, Nat.reduceLT, Nat.reduceAdd, Nat.reduceMul, Nat.reduceSub, Nat.reduceEqDiff, Nat.reduceBEq, Int.reduceToNat, reduceCtorEq]
      obtain rfl := Option.some.inj H
      first | rfl | simp only [Bool.and_false, Bool.false_and, Bool.and_true, Bool.true_and]
  · cases hb
/-! hotspot/scan.Age$1 -/
noncomputable def F49_0 (p0 : TCandidate) (p1 : Int) (p2 : Int) : Option (Bool) :=
  some (bLt p2 (wr .i64 (p1 - p0.Heard)))
noncomputable def body49_0 : List AV -> AR
  | [v0, v1, v2] => .pure (aK 13 k_TCandidate v0 /\ rK 1 k_i64 v1 /\ rK 1 k_i64 v2 /\ (F49_0 (g_TCandidate (aL v0)) (g_i64 (rG v1)) (g_i64 (rG v2))).isSome = true) (.bool (gt (F49_0 (g_TCandidate (aL v0)) (g_i64 (rG v1)) (g_i64 (rG v2)))))
  | _ => .fail
set_option maxHeartbeats 4000000 in
set_option maxRecDepth 20000 in
theorem ok49_0 : FnOk Try.prog 49 (pureC body49_0) := by
  refine pure_fnM body49_0 (rs := [.tmp 4]) Try.func49 (by kernel_rfl) rfl rfl ?_
  intro l ob v hb hob
  unfold body49_0 at hb
  split at hb
  · rename_i v0 v1 v2
    injection hb with q1 q2; subst q1 q2
    obtain ⟨hk0_0, hk1_0, hk2_0, hob⟩ := hob
    obtain ⟨r, H⟩ := Option.isSome_iff_exists.1 hob
    rw [H, gt_some]
    have hw0 := wA_TCandidate hk0_0
    have hw1 := rK_wk (f := c_i64) (g := g_i64) (fun r h => w_i64 h) hk1_0
    have hw2 := rK_wk (f := c_i64) (g := g_i64) (fun r h => w_i64 h) hk2_0
    generalize g_TCandidate (aL v0) = p0 at H hw0
    generalize g_i64 (rG v1) = p1 at H hw1
    generalize g_i64 (rG v2) = p2 at H hw2
    refine ⟨[.agg [.int .u8 p0.Addr.x0, .int .u8 p0.Addr.x1, .int .u8 p0.Addr.x2, .int .u8 p0.Addr.x3, .int .u8 p0.Addr.x4, .int .u8 p0.Addr.x5, .int .i64 p0.Channel, .int .i64 p0.Level, .int .i64 p0.Load, .int .i64 p0.Heard, .int .i64 p0.Interval, .str p0.Name, .bool p0.Secure], .rptr 1 1 0 0 (enR c_i64 [p1]), .rptr 1 1 0 0 (enR c_i64 [p2])], _, (fun E vs F => FR_wk1 hw0.1 F (fun vs F => FR_wk1 hw1.1 F (fun vs F => FR_wk1 hw2.1 F (fun vs F => F)))), rfl, rfl, ?_⟩
    rw [Try.ntmps49]
    simp only [List.length_cons, List.length_nil, Nat.reduceAdd, Nat.reduceSub, List.replicate_succ, List.replicate_zero, List.cons_append, List.nil_append]
    unfold F49_0 at H
    try dsimp only at H
    refine sq ctNo_ok ?_
    simp only [go_sem, Nat.reduceLeDiff, Nat.reduceLT, Nat.reduceAdd, Nat.reduceMul, Nat.reduceSub, Nat.reduceEqDiff, Nat.reduceBEq, Int.reduceToNat, reduceCtorEq]
    refine sq ctNo_ok ?_
    simp only [go_sem, Nat.reduceLeDiff, Nat.reduceLT, Nat.reduceAdd, Nat.reduceMul, Nat.reduceSub, Nat.reduceEqDiff, Nat.reduceBEq, Int.reduceToNat, reduceCtorEq]
    refine rg ctNo_ok ?_
    simp only [go_sem, Nat.reduceLeDiff, Nat.reduceLT, Nat.reduceAdd, Nat.reduceMul, Nat.reduceSub, Nat.reduceEqDiff, Nat.reduceBEq, Int.reduceToNat, reduceCtorEq]
    obtain rfl := Option.some.inj H
    first | rfl | simp only [Bool.and_false, Bool.false_and, Bool.and_true, Bool.true_and]
  · cases hb
/-! slices.IndexFunc[[]hotspot/api.Candidate,hotspot/api.Candidate] -/
noncomputable def ct57_1t0 : Ct := tab [(49, pureC body49_0)]
theorem ct57_1t0_ok : CtOk Try.prog ct57_1t0 := tab_cons ok49_0 <| tab_nil
theorem ct57_1t0_49 (l : List AV) (h : List ABlk) : ct57_1t0 49 l h = pureC body49_0 l h := rfl
noncomputable def F57_1_L1 (p0 : List TCandidate) (p1 : Int) (p2 : Int) (v1_1 : Int) : Option (Lp (Int) ((Unit) ⊕ (Int))) :=
  bif (bLt v1_1 (p0.length : Nat)) then (need (inb v1_1 p0.length) <| (F49_0 (TCandidate.mk (A6u8.mk (((gd p0 v1_1.toNat).Addr).x0) (((gd p0 v1_1.toNat).Addr).x1) (((gd p0 v1_1.toNat).Addr).x2) (((gd p0 v1_1.toNat).Addr).x3) (((gd p0 v1_1.toNat).Addr).x4) (((gd p0 v1_1.toNat).Addr).x5)) ((gd p0 v1_1.toNat).Channel) ((gd p0 v1_1.toNat).Level) ((gd p0 v1_1.toNat).Load) ((gd p0 v1_1.toNat).Heard) ((gd p0 v1_1.toNat).Interval) ((gd p0 v1_1.toNat).Name) ((gd p0 v1_1.toNat).Secure)) p1 p2).bind fun r3 => bif r3 then (some (.done (.inr v1_1))) else (some (.next (wr .i64 (v1_1 + 1))))) else (some (.done (.inl ())))
noncomputable def F57_1 (p0 : List TCandidate) (p1 : Int) (p2 : Int) : Option (Int) :=
  lp (loopD (fun s => F57_1_L1 p0 p1 p2 s) 0) (fun _ => some (-1)) some
noncomputable def body57_1 : List AV -> AR
  | [v0, .fn 49 [v1, v2]] => .pure (lK k_TCandidate 13 v0 /\ rK 1 k_i64 v1 /\ rK 1 k_i64 v2 /\ (F57_1 (lA g_TCandidate v0) (g_i64 (rG v1)) (g_i64 (rG v2))).isSome = true) (.int .i64 (gt (F57_1 (lA g_TCandidate v0) (g_i64 (rG v1)) (g_i64 (rG v2)))))
  | _ => .fail
set_option maxHeartbeats 4000000 in
set_option maxRecDepth 20000 in
theorem ok57_1 : FnOk Try.prog 57 (pureC body57_1) := by
  refine pure_fnM body57_1 (rs := [.tmp 4]) Try.func57 (by kernel_rfl) rfl rfl ?_
  intro l ob v hb hob
  unfold body57_1 at hb
  split at hb
  · rename_i v0 v1 v2
    injection hb with q1 q2; subst q1 q2
    obtain ⟨hk0_0, hk1_0, hk2_0, hob⟩ := hob
    obtain ⟨r, H⟩ := Option.isSome_iff_exists.1 hob
    rw [H, gt_some]
    have hw0 := lK_wk (fun r h => w_TCandidate h) hk0_0
    have hw1 := rK_wk (f := c_i64) (g := g_i64) (fun r h => w_i64 h) hk1_0
    have hw2 := rK_wk (f := c_i64) (g := g_i64) (fun r h => w_i64 h) hk2_0
    generalize lA g_TCandidate v0 = p0 at H hw0
    generalize g_i64 (rG v1) = p1 at H hw1
    generalize g_i64 (rG v2) = p2 at H hw2
    refine ⟨[.ro 13 p0.length false (enR c_TCandidate p0), .fn 49 [.rptr 1 1 0 0 (enR c_i64 [p1]), .rptr 1 1 0 0 (enR c_i64 [p2])]], _, (fun E vs F => FR_wk1 hw0.1 F (fun vs F => FR_wk1 (fn_wk (LW_cons hw1.1 (LW_cons hw2.1 LW_nil))) F (fun vs F => F))), rfl, rfl, ?_⟩
    rw [Try.ntmps57]
    simp only [List.length_cons, List.length_nil, Nat.reduceAdd, Nat.reduceSub, List.replicate_succ, List.replicate_zero, List.cons_append, List.nil_append]
    unfold F57_1 at H
    try dsimp only at H
    refine sq ctNo_ok ?_
    simp only [go_sem, Nat.reduceLeDiff, Nat.reduceLT, Nat.reduceAdd, Nat.reduceMul, Nat.reduceSub, Nat.reduceEqDiff, Nat.reduceBEq, Int.reduceToNat, reduceCtorEq]
    refine seqM ?_
    refine sq ctNo_ok ?_
    simp only [go_sem, Nat.reduceLeDiff, Nat.reduceLT, Nat.reduceAdd, Nat.reduceMul, Nat.reduceSub, Nat.reduceEqDiff, Nat.reduceBEq, Int.reduceToNat, reduceCtorEq]
    repeat ((with_reducible refine And.intro ?_ ?_); focus exact an0)
    refine blkM ?_
    refine loop_den (fun s : Int => (.ro 13 p0.length false (enR c_TCandidate p0) :: .fn 49 [.rptr 1 1 0 0 (enR c_i64 [p1]), .rptr 1 1 0 0 (enR c_i64 [p2])] :: tp 5 (.int .i64 (p0.length : Nat) :: .int .i64 s :: tp 10 []))) (fun s => []) (fun e : Unit => (tp 19 [])) (fun e => []) H ?_ (fun v1_1 o H hn1_1 hn2_1 => ?_) (fun e H => ?_)
    · refine SubF_of ⟨[], ?_, ?_, by rfl, by rfl⟩
      · simp [CvL, Cv, getM, tp, tp, tpg, t8]
      · trivial
    · unfold F57_1_L1 at H
      try dsimp only at H ⊢
      try simp only [tp]
      refine sq ctNo_ok ?_
      simp only [go_sem, Nat.reduceLeDiff, Nat.reduceLT, Nat.reduceAdd, Nat.reduceMul, Nat.reduceSub, Nat.reduceEqDiff, Nat.reduceBEq, Int.reduceToNat, reduceCtorEq]
      refine seqM ?_
      refine condM' rfl trivial (fun hc => ?_) (fun hc => ?_)
      · have hk1 : (bLt v1_1 (p0.length : Nat)) = false := by simpa using hc
        replace H := cond_f hc H
        refine rg ctNo_ok ?_
        simp only [go_sem, Nat.reduceLeDiff, Nat.reduceLT, Nat.reduceAdd, Nat.reduceMul, Nat.reduceSub, Nat.reduceEqDiff, Nat.reduceBEq, Int.reduceToNat, reduceCtorEq]
        refine ⟨_, (Option.some.inj H).symm, ?_⟩
        refine SubF_of ⟨[], ?_, ?_, by rfl, by rfl⟩
        · simp [CvL, Cv, getM, tp, tp, tpg, t8]
        · trivial
      have hk1 : (bLt v1_1 (p0.length : Nat)) = true := by simpa using hc
      replace H := cond_t hc H
      refine rg ctNo_ok ?_
      simp only [go_sem, Nat.reduceLeDiff, Nat.reduceLT, Nat.reduceAdd, Nat.reduceMul, Nat.reduceSub, Nat.reduceEqDiff, Nat.reduceBEq, Int.reduceToNat, reduceCtorEq]
      refine seqM ?_
      refine blkM ?_
      refine sq ctNo_ok ?_
      simp only [go_sem, Nat.reduceLeDiff, Nat.reduceLT, Nat.reduceAdd, Nat.reduceMul, Nat.reduceSub, Nat.reduceEqDiff, Nat.reduceBEq, Int.reduceToNat, reduceCtorEq]
      refine seqM ?_
      obtain ⟨f2, H⟩ := need_some.1 H
      replace f2 := inb_iff.1 f2
      obtain ⟨r3, e4, H⟩ := bsi H
      refine rg ct57_1t0_ok ?_
      simp only [go_sem, Nat.reduceLeDiff, Nat.reduceLT, Nat.reduceAdd, Nat.reduceMul, Nat.reduceSub, Nat.reduceEqDiff, Nat.reduceBEq, Int.reduceToNat, reduceCtorEq, ct57_1t0_49, body49_0, f2, e4]
      repeat ((with_reducible refine And.intro ?_ ?_); focus exact an0)
      refine condM rfl trivial (fun hc => ?_) (fun hc => ?_)
      · have hk5 : (r3) = true := by simpa using hc
        replace H := cond_t hc H
        refine sq ctNo_ok ?_
        simp only [go_sem, Nat.reduceLeDiff, Nat.reduceLT, Nat.reduceAdd, Nat.reduceMul, Nat.reduceSub, Nat.reduceEqDiff, Nat.reduceBEq, Int.reduceToNat, reduceCtorEq]
        refine rg ctNo_ok ?_
        simp only [go_sem, Nat.reduceLeDiff, Nat.reduceLT, Nat.reduceAdd, Nat.reduceMul, Nat.reduceSub, Nat.reduceEqDiff, Nat.reduceBEq, Int.reduceToNat, reduceCtorEq]
        have H := hn2_1 _ (Option.some.inj H).symm
        obtain rfl := Option.some.inj H
        first | rfl | simp only [Bool.and_false, Bool.false_and, Bool.and_true, Bool.true_and]
      have hk5 : (r3) = false := by simpa using hc
      replace H := cond_f hc H
      refine rg ctNo_ok ?_
      simp only [go_sem, Nat.reduceLeDiff, Nat.reduceLT, Nat.reduceAdd, Nat.reduceMul, Nat.reduceSub, Nat.reduceEqDiff, Nat.reduceBEq, Int.reduceToNat, reduceCtorEq]
      refine rg ctNo_ok ?_
      simp only [go_sem, Nat.reduceLeDiff, Nat.reduceLT, Nat.reduceAdd, Nat.reduceMul, Nat.reduceSub, Nat.reduceEqDiff, Nat.reduceBEq, Int.reduceToNat, reduceCtorEq]
      refine ⟨_, (Option.some.inj H).symm, ?_⟩
      refine SubF_of ⟨[], ?_, ?_, by rfl, by rfl⟩
      · simp [CvL, Cv, getM, tp, tp, tpg, t8]
      · trivial
    · try dsimp only at H ⊢
      try simp only [tp]
      try simp only [m_normal, k_normal, b_normal, kL_normal, r_normal]
      refine sq ctNo_ok ?_
      simp only [go_sem, Nat.reduceLeDiff, Nat.reduceLT, Nat.reduceAdd, Nat.reduceMul, Nat.reduceSub, Nat.reduceEqDiff, Nat.reduceBEq, Int.reduceToNat, reduceCtorEq]
      refine rg ctNo_ok ?_
      simp only [go_sem, Nat.reduceLeDiff, Nat.reduceLT, Nat.reduceAdd, Nat.reduceMul, Nat.reduceSub, Nat.reduceEqDiff, Nat.reduceBEq, Int.reduceToNat, reduceCtorEq]
      obtain rfl := Option.some.inj H
      first | rfl | simp only [Bool.and_false, Bool.false_and, Bool.and_true, Bool.true_and]
  · cases hb
/-! slices.DeleteFunc[[]hotspot/api.Candidate,hotspot/api.Candidate] -/
noncomputable def ct44_1t0 : Ct := tab [(57, pureC body57_1)]
theorem ct44_1t0_ok : CtOk Try.prog ct44_1t0 := tab_cons ok57_1 <| tab_nil
theorem ct44_1t0_57 (l : List AV) (h : List ABlk) : ct44_1t0 57 l h = pureC body57_1 l h := rfl
noncomputable def ct44_1t1 : Ct := tab [(49, pureC body49_0)]
theorem ct44_1t1_ok : CtOk Try.prog ct44_1t1 := tab_cons ok49_0 <| tab_nil
theorem ct44_1t1_49 (l : List AV) (h : List ABlk) : ct44_1t1 49 l h = pureC body49_0 l h := rfl
noncomputable def F44_1_L1 (p1 : Int) (p2 : Int) (v1_1 : List TCandidate) (v1_2 : Int) (v1_3 : Int) : Option (Lp ((List TCandidate) × Int × Int) (((List TCandidate) × Int) ⊕ (List TCandidate))) :=
  bif (bLt v1_3 (v1_1.length : Nat)) then (need (inb v1_3 v1_1.length) <| (F49_0 (TCandidate.mk (A6u8.mk (((gd v1_1 v1_3.toNat).Addr).x0) (((gd v1_1 v1_3.toNat).Addr).x1) (((gd v1_1 v1_3.toNat).Addr).x2) (((gd v1_1 v1_3.toNat).Addr).x3) (((gd v1_1 v1_3.toNat).Addr).x4) (((gd v1_1 v1_3.toNat).Addr).x5)) ((gd v1_1 v1_3.toNat).Channel) ((gd v1_1 v1_3.toNat).Level) ((gd v1_1 v1_3.toNat).Load) ((gd v1_1 v1_3.toNat).Heard) ((gd v1_1 v1_3.toNat).Interval) ((gd v1_1 v1_3.toNat).Name) ((gd v1_1 v1_3.toNat).Secure)) p1 p2).bind fun r6 => bif (!r6) then (need (inb v1_2 v1_1.length) <| some (.next ((v1_1.set v1_2.toNat (TCandidate.mk (A6u8.mk (((gd v1_1 v1_3.toNat).Addr).x0) (((gd v1_1 v1_3.toNat).Addr).x1) (((gd v1_1 v1_3.toNat).Addr).x2) (((gd v1_1 v1_3.toNat).Addr).x3) (((gd v1_1 v1_3.toNat).Addr).x4) (((gd v1_1 v1_3.toNat).Addr).x5)) ((gd v1_1 v1_3.toNat).Channel) ((gd v1_1 v1_3.toNat).Level) ((gd v1_1 v1_3.toNat).Load) ((gd v1_1 v1_3.toNat).Heard) ((gd v1_1 v1_3.toNat).Interval) ((gd v1_1 v1_3.toNat).Name) ((gd v1_1 v1_3.toNat).Secure))), wr .i64 (v1_2 + 1), wr .i64 (v1_3 + 1)))) else (some (.next (v1_1, v1_2, wr .i64 (v1_3 + 1))))) else (some (.done (.inl (v1_1, v1_2))))
noncomputable def F44_1 (p0 : List TCandidate) (p1 : Int) (p2 : Int) : Option (List TCandidate) :=
  (F57_1 p0 p1 p2).bind fun r1 => bif (bEq r1 (-1)) then (some p0) else (lp (loopD (fun s => F44_1_L1 p1 p2 s.1 s.2.1 s.2.2) (p0, r1, wr .i64 (r1 + 1))) (fun e1 => need (slb e1.2 (e1.1.length : Nat) e1.1.length) <| need (slb 0 e1.2 e1.1.length) <| some (List.take e1.2.toNat e1.1)) some)
noncomputable def body44_1 : List AV -> List ABlk -> ED
  | [v0, .fn 49 [v1, v2]], h => .ed [slN v0] (oS 52 13 h v0 /\ lK k_TCandidate 13 (roW h v0) /\ rK 1 k_i64 (roD (deadL h [slN v0]) v1) /\ roDOb (deadL h [slN v0]) v1 /\ rK 1 k_i64 (roD (deadL h [slN v0]) v2) /\ roDOb (deadL h [slN v0]) v2 /\ (F44_1 (lA g_TCandidate (roW h v0)) (g_i64 (rG (roD (deadL h [slN v0]) v1))) (g_i64 (rG (roD (deadL h [slN v0]) v2)))).isSome = true) (.sl 1 13 0 ((gt (F44_1 (lA g_TCandidate (roW h v0)) (g_i64 (rG (roD (deadL h [slN v0]) v1))) (g_i64 (rG (roD (deadL h [slN v0]) v2))))).length) false) [.dead, .row 52 13 ((gt (F44_1 (lA g_TCandidate (roW h v0)) (g_i64 (rG (roD (deadL h [slN v0]) v1))) (g_i64 (rG (roD (deadL h [slN v0]) v2))))).length) (enR c_TCandidate (gt (F44_1 (lA g_TCandidate (roW h v0)) (g_i64 (rG (roD (deadL h [slN v0]) v1))) (g_i64 (rG (roD (deadL h [slN v0]) v2))))))]
  | _, _ => .fail
set_option maxHeartbeats 4000000 in
set_option maxRecDepth 20000 in
theorem ok44_1 : FnOk Try.prog 44 (edC body44_1) := by
  refine edit_fnV body44_1 (rs := [.tmp 4]) Try.func44 (by kernel_rfl) rfl rfl ?_
  intro l h bs ob q0 g0 hb hob
  unfold body44_1 at hb
  split at hb
  · rename_i v0 v1 v2
    injection hb with q1 q2 q3 q4; subst q1 q2 q3 q4
    obtain ⟨hk0_0, hk0_1, hk1_0, hk1_1, hk2_0, hk2_1, hob⟩ := hob
    obtain ⟨r, H⟩ := Option.isSome_iff_exists.1 hob
    rw [H, gt_some]
    obtain ⟨p0, hp0⟩ : ∃ p0, p0 = lA g_TCandidate (roW h v0) := ⟨_, rfl⟩
    rw [← hp0] at H
    obtain ⟨ev0, eb0⟩ := own_row2 (f := c_TCandidate) (g := g_TCandidate) (bs := [slN v0]) (i := 0) (fun hr => w_TCandidate hr) hk0_0 hk0_1 (L := p0) (by rw [hp0]) rfl
    have hw1 := rK_wk (f := c_i64) (g := g_i64) (fun r h => w_i64 h) hk1_0
    obtain ⟨p1, hp_p1⟩ : ∃ p1, p1 = g_i64 (rG (roD (deadL h [slN v0]) v1)) := ⟨_, rfl⟩
    rw [← hp_p1] at H hw1
    have hw2 := rK_wk (f := c_i64) (g := g_i64) (fun r h => w_i64 h) hk2_0
    obtain ⟨p2, hp_p2⟩ : ∃ p2, p2 = g_i64 (rG (roD (deadL h [slN v0]) v2)) := ⟨_, rfl⟩
    rw [← hp_p2] at H hw2
    refine ⟨[.sl 0 13 0 p0.length false, .fn 49 [.rptr 1 1 0 0 (enR c_i64 [p1]), .rptr 1 1 0 0 (enR c_i64 [p2])]], [.row 52 13 p0.length (enR c_TCandidate p0)], rfl, ⟨(EW_own ev0 (by simp only [noro])), ⟨(EW_fn ⟨(EW_view hk1_1 hw1), ⟨(EW_view hk2_1 hw2), trivial⟩⟩), trivial⟩⟩, ⟨eb0, trivial⟩, ⟨noroB_en, trivial⟩, ⟨trivial, ⟨(nfB_en nr_TCandidate), trivial⟩⟩, ⟨trivial, ⟨noroB_en, trivial⟩⟩, (by first | (simp only [noro, noroL, and_self]; done) | (simp only [noro, noroL]; and_intros <;> first | trivial | exact noro_bif (by simp only [noro]) (by simp only [noro]) | (simp only [noro, noroL, and_self]))), ?_⟩
    rw [Try.ntmps44]
    simp only [List.length_cons, List.length_nil, Nat.reduceAdd, Nat.reduceSub, List.replicate_succ, List.replicate_zero, List.cons_append, List.nil_append]
    unfold F44_1 at H
    try dsimp only at H
    refine sq ctNo_ok ?_
    simp only [go_sem, Nat.reduceLeDiff, Nat.reduceLT, Nat.reduceAdd, Nat.reduceMul, Nat.reduceSub, Nat.reduceEqDiff, Nat.reduceBEq, Int.reduceToNat, reduceCtorEq]
    refine seqM ?_
    obtain ⟨r1, e2, H⟩ := bsi H
    refine rg ct44_1t0_ok ?_
    simp only [go_sem, Nat.reduceLeDiff, Nat.reduceLT, Nat.reduceAdd, Nat.reduceMul, Nat.reduceSub, Nat.reduceEqDiff, Nat.reduceBEq, Int.reduceToNat, reduceCtorEq, ct44_1t0_57, body57_1, e2]
    repeat ((with_reducible refine And.intro ?_ ?_); focus exact an0)
    refine seqM ?_
    refine sq ctNo_ok ?_
    simp only [go_sem, Nat.reduceLeDiff, Nat.reduceLT, Nat.reduceAdd, Nat.reduceMul, Nat.reduceSub, Nat.reduceEqDiff, Nat.reduceBEq, Int.reduceToNat, reduceCtorEq]
    refine condM rfl trivial (fun hc => ?_) (fun hc => ?_)
    · have hk3 : (bEq r1 (-1)) = true := by simpa using hc
      replace H := cond_t hc H
      refine sq ctNo_ok ?_
      simp only [go_sem, Nat.reduceLeDiff, Nat.reduceLT, Nat.reduceAdd, Nat.reduceMul, Nat.reduceSub, Nat.reduceEqDiff, Nat.reduceBEq, Int.reduceToNat, reduceCtorEq]
      refine rg ctNo_ok ?_
      simp only [go_sem, Nat.reduceLeDiff, Nat.reduceLT, Nat.reduceAdd, Nat.reduceMul, Nat.reduceSub, Nat.reduceEqDiff, Nat.reduceBEq, Int.reduceToNat, reduceCtorEq]
      obtain rfl := Option.some.inj H
      refine RetE_mk [] [some 0, some 0] ?_ ?_ ?_ ?_ (by rfl) (by rfl)
      · simp only [go_sem, Nat.reduceEqDiff, Nat.reduceBEq, Nat.reduceAdd]
        try exact at0
      · simp only [go_sem, Nat.reduceEqDiff, Nat.reduceBEq, Nat.reduceAdd]
        try exact at0
      · simp only [go_sem, Nat.reduceEqDiff, Nat.reduceBEq, Nat.reduceAdd]
        exact (by first | (simp [Cv, CvL, getM, gt_some]; done) | (simp [Cv, CvL, getM, gt_some]; omega))
      · simp only [go_sem, Nat.reduceEqDiff, Nat.reduceBEq, Nat.reduceAdd, CvH, gt_some, Option.isSome_some, Option.isSome_none]
        first | exact ⟨CvB_dead, CvB_row nr_TCandidate cl (fun _ _ _ _ => rfl)⟩ | trivial
    have hk3 : (bEq r1 (-1)) = false := by simpa using hc
    replace H := cond_f hc H
    refine rg ctNo_ok ?_
    simp only [go_sem, Nat.reduceLeDiff, Nat.reduceLT, Nat.reduceAdd, Nat.reduceMul, Nat.reduceSub, Nat.reduceEqDiff, Nat.reduceBEq, Int.reduceToNat, reduceCtorEq]
    refine seqM ?_
    refine sq ctNo_ok ?_
    simp only [go_sem, Nat.reduceLeDiff, Nat.reduceLT, Nat.reduceAdd, Nat.reduceMul, Nat.reduceSub, Nat.reduceEqDiff, Nat.reduceBEq, Int.reduceToNat, reduceCtorEq]
    refine blkM ?_
    refine loop_den (fun s : (List TCandidate) × Int × Int => (.sl 1 13 0 s.1.length false :: .fn 49 [.rptr 1 1 0 0 (enR c_i64 [p1]), .rptr 1 1 0 0 (enR c_i64 [p2])] :: .top :: .top :: .top :: .int .i64 s.2.1 :: .int .i64 s.2.2 :: tp 35 [])) (fun s => [.dead, .row 52 13 s.1.length (enR c_TCandidate s.1)]) (fun e : (List TCandidate) × Int => (.sl 1 13 0 e.1.length false :: tp 4 (.int .i64 e.2 :: tp 36 []))) (fun e => [.dead, .row 52 13 e.1.length (enR c_TCandidate e.1)]) H ?_ (fun s o H hn1_1 hn2_1 => ?_) (fun e H => ?_)
    · refine SubF_of ⟨[some 0, some 0], ?_, ?_, by rfl, by rfl⟩
      · simp [CvL, Cv, getM, tp, tp, tpg, t8]
      · exact ⟨CvB_dead, CvB_row nr_TCandidate cl (fun _ _ _ _ => rfl), trivial⟩
    · obtain ⟨v1_1, v1_2, v1_3⟩ := s
      unfold F44_1_L1 at H
      try dsimp only at H ⊢
      try simp only [tp]
      refine seqM ?_
      refine sq ctNo_ok ?_
      simp only [go_sem, Nat.reduceLeDiff, Nat.reduceLT, Nat.reduceAdd, Nat.reduceMul, Nat.reduceSub, Nat.reduceEqDiff, Nat.reduceBEq, Int.reduceToNat, reduceCtorEq]
      repeat ((with_reducible refine And.intro ?_ ?_); focus exact an0)
      refine condM' rfl trivial (fun hc => ?_) (fun hc => ?_)
      · have hk4 : (bLt v1_3 (v1_1.length : Nat)) = false := by simpa using hc
        replace H := cond_f hc H
        refine rg ctNo_ok ?_
        simp only [go_sem, Nat.reduceLeDiff, Nat.reduceLT, Nat.reduceAdd, Nat.reduceMul, Nat.reduceSub, Nat.reduceEqDiff, Nat.reduceBEq, Int.reduceToNat, reduceCtorEq]
        refine ⟨_, (Option.some.inj H).symm, ?_⟩
        refine SubF_of ⟨[some 0, some 1], ?_, ?_, by rfl, by rfl⟩
        · simp [CvL, Cv, getM, tp, tp, tpg, t8]
        · exact ⟨CvB_dead, CvB_row nr_TCandidate cl (fun _ _ _ _ => rfl), trivial⟩
      have hk4 : (bLt v1_3 (v1_1.length : Nat)) = true := by simpa using hc
      replace H := cond_t hc H
      refine rg ctNo_ok ?_
      simp only [go_sem, Nat.reduceLeDiff, Nat.reduceLT, Nat.reduceAdd, Nat.reduceMul, Nat.reduceSub, Nat.reduceEqDiff, Nat.reduceBEq, Int.reduceToNat, reduceCtorEq]
      refine seqM ?_
      refine blkM ?_
      refine seqM ?_
      obtain ⟨f5, H⟩ := need_some.1 H
      replace f5 := inb_iff.1 f5
      refine rg ctNo_ok ?_
      simp only [go_sem, Nat.reduceLeDiff, Nat.reduceLT, Nat.reduceAdd, Nat.reduceMul, Nat.reduceSub, Nat.reduceEqDiff, Nat.reduceBEq, Int.reduceToNat, reduceCtorEq, f5]
      repeat ((with_reducible refine And.intro ?_ ?_); focus exact an3)
      refine seqM ?_
      obtain ⟨r6, e7, H⟩ := bsi H
      refine rg ct44_1t1_ok ?_
      simp only [go_sem, Nat.reduceLeDiff, Nat.reduceLT, Nat.reduceAdd, Nat.reduceMul, Nat.reduceSub, Nat.reduceEqDiff, Nat.reduceBEq, Int.reduceToNat, reduceCtorEq, ct44_1t1_49, body49_0, e7]
      repeat ((with_reducible refine And.intro ?_ ?_); focus exact an0)
      refine condM' rfl trivial (fun hc => ?_) (fun hc => ?_)
      · have hk8 : (r6) = true := by simpa using hc
        replace H := cond_f hc H
        refine rg ctNo_ok ?_
        simp only [go_sem, Nat.reduceLeDiff, Nat.reduceLT, Nat.reduceAdd, Nat.reduceMul, Nat.reduceSub, Nat.reduceEqDiff, Nat.reduceBEq, Int.reduceToNat, reduceCtorEq]
        refine rg ctNo_ok ?_
        simp only [go_sem, Nat.reduceLeDiff, Nat.reduceLT, Nat.reduceAdd, Nat.reduceMul, Nat.reduceSub, Nat.reduceEqDiff, Nat.reduceBEq, Int.reduceToNat, reduceCtorEq]
        refine ⟨_, (Option.some.inj H).symm, ?_⟩
        refine SubF_of ⟨[some 0, some 1], ?_, ?_, by rfl, by rfl⟩
        · simp [CvL, Cv, getM, tp, tp, tpg, t8]
        · exact ⟨CvB_dead, CvB_row nr_TCandidate cl (fun _ _ _ _ => rfl), trivial⟩
      have hk8 : (r6) = false := by simpa using hc
      replace H := cond_t hc H
      refine seqM ?_
      obtain ⟨f9, H⟩ := need_some.1 H
      replace f9 := inb_iff.1 f9
      refine rg ctNo_ok ?_
      simp only [go_sem, Nat.reduceLeDiff, Nat.reduceLT, Nat.reduceAdd, Nat.reduceMul, Nat.reduceSub, Nat.reduceEqDiff, Nat.reduceBEq, Int.reduceToNat, reduceCtorEq, f9]
      repeat ((with_reducible refine And.intro ?_ ?_); focus exact an3)
      refine rg ctNo_ok ?_
      simp only [go_sem, Nat.reduceLeDiff, Nat.reduceLT, Nat.reduceAdd, Nat.reduceMul, Nat.reduceSub, Nat.reduceEqDiff, Nat.reduceBEq, Int.reduceToNat, reduceCtorEq]
      refine rg ctNo_ok ?_
      simp only [go_sem, Nat.reduceLeDiff, Nat.reduceLT, Nat.reduceAdd, Nat.reduceMul, Nat.reduceSub, Nat.reduceEqDiff, Nat.reduceBEq, Int.reduceToNat, reduceCtorEq]
      refine ⟨_, (Option.some.inj H).symm, ?_⟩
      refine SubF_of ⟨[some 0, some 1], ?_, ?_, by rfl, by rfl⟩
      · simp [CvL, Cv, getM, tp, tp, tpg, t8]
      · exact ⟨CvB_dead, CvB_row nr_TCandidate cl (upc_row (f := c_TCandidate) v1_1 v1_2.toNat 0 (TCandidate.mk (A6u8.mk (((gd v1_1 v1_3.toNat).Addr).x0) (((gd v1_1 v1_3.toNat).Addr).x1) (((gd v1_1 v1_3.toNat).Addr).x2) (((gd v1_1 v1_3.toNat).Addr).x3) (((gd v1_1 v1_3.toNat).Addr).x4) (((gd v1_1 v1_3.toNat).Addr).x5)) ((gd v1_1 v1_3.toNat).Channel) ((gd v1_1 v1_3.toNat).Level) ((gd v1_1 v1_3.toNat).Load) ((gd v1_1 v1_3.toNat).Heard) ((gd v1_1 v1_3.toNat).Interval) ((gd v1_1 v1_3.toNat).Name) ((gd v1_1 v1_3.toNat).Secure)) (fun _ _ _ _ => rfl) (fun y hy => match y, hy with | 0, _ => rfl | 1, _ => rfl | 2, _ => rfl | 3, _ => rfl | 4, _ => rfl | 5, _ => rfl | 6, _ => rfl | 7, _ => rfl | 8, _ => rfl | 9, _ => rfl | 10, _ => rfl | 11, _ => rfl | 12, _ => rfl | (y+13), h => absurd h nlt)), trivial⟩
    · obtain ⟨w1_4, w1_5⟩ := e
      try dsimp only at H ⊢
      try simp only [tp]
      try simp only [m_normal, k_normal, b_normal, kL_normal, r_normal]
      refine seqM ?_
      obtain ⟨f10, H⟩ := need_some.1 H
      replace f10 := slb_iff.1 f10
      refine rg ctNo_ok ?_
      simp only [go_sem, Nat.reduceLeDiff, Nat.reduceLT, Nat.reduceAdd, Nat.reduceMul, Nat.reduceSub, Nat.reduceEqDiff, Nat.reduceBEq, Int.reduceToNat, reduceCtorEq, f10]
      repeat ((with_reducible refine And.intro ?_ ?_); focus exact an2)
      refine seqM ?_
      obtain ⟨f11, H⟩ := need_some.1 H
      replace f11 := slb_iff.1 f11
      refine rg ctNo_ok ?_
      simp only [go_sem, Nat.reduceLeDiff, Nat.reduceLT, Nat.reduceAdd, Nat.reduceMul, Nat.reduceSub, Nat.reduceEqDiff, Nat.reduceBEq, Int.reduceToNat, reduceCtorEq, f11]
      repeat ((with_reducible refine And.intro ?_ ?_); focus exact an3)
      refine rg ctNo_ok ?_
      simp only [go_sem, Nat.reduceLeDiff, Nat.reduceLT, Nat.reduceAdd, Nat.reduceMul, Nat.reduceSub, Nat.reduceEqDiff, Nat.reduceBEq, Int.reduceToNat, reduceCtorEq]
      obtain rfl := Option.some.inj H
      refine RetE_mk [] [some 0, some 1] ?_ ?_ ?_ ?_ (by rfl) (by rfl)
      · simp only [go_sem, Nat.reduceEqDiff, Nat.reduceBEq, Nat.reduceAdd]
        try exact at0
      · simp only [go_sem, Nat.reduceEqDiff, Nat.reduceBEq, Nat.reduceAdd]
        try exact at0
      · simp only [go_sem, Nat.reduceEqDiff, Nat.reduceBEq, Nat.reduceAdd]
        exact (by first | (simp [Cv, CvL, getM, gt_some, (show (List.take w1_5.toNat w1_4).length = w1_5.toNat from take_len (n := w1_4.length) cl (by omega))]; done) | (simp [Cv, CvL, getM, gt_some, (show (List.take w1_5.toNat w1_4).length = w1_5.toNat from take_len (n := w1_4.length) cl (by omega))]; omega))
      · simp only [go_sem, Nat.reduceEqDiff, Nat.reduceBEq, Nat.reduceAdd, CvH, gt_some, Option.isSome_some, Option.isSome_none]
        first | exact ⟨CvB_dead, (CvB_pre nr_TCandidate (by rw [show (List.take w1_5.toNat w1_4).length = w1_5.toNat from take_len (n := w1_4.length) cl (by omega)]; omega) (clr_row (fun _ _ _ _ => rfl)))⟩ | trivial
  · cases hb
/-! hotspot/scan.Age -/
noncomputable def ct23t0 : Ct := tab [(46, pureC body46)]
theorem ct23t0_ok : CtOk Try.prog ct23t0 := tab_cons ok46 <| tab_nil
theorem ct23t0_46 (l : List AV) (h : List ABlk) : ct23t0 46 l h = pureC body46 l h := rfl
noncomputable def ct23t1 : Ct := tab [(29, pureC body29)]
theorem ct23t1_ok : CtOk Try.prog ct23t1 := tab_cons ok29 <| tab_nil
theorem ct23t1_29 (l : List AV) (h : List ABlk) : ct23t1 29 l h = pureC body29 l h := rfl
noncomputable def ct23t2 : Ct := tab [(36, edC body36), (44, edC body44_1)]
theorem ct23t2_ok : CtOk Try.prog ct23t2 := tab_cons ok36 <| tab_cons ok44_1 <| tab_nil
theorem ct23t2_36 (l : List AV) (h : List ABlk) : ct23t2 36 l h = edC body36 l h := rfl
theorem ct23t2_44 (l : List AV) (h : List ABlk) : ct23t2 44 l h = edC body44_1 l h := rfl
noncomputable def F23 (p0 : TCandidates) (p1 : Int) (p2 : Int) : Option (TCandidates × Int) :=
  (F46 p0 p1).bind fun r1 => bif (!bEq r1 0) then (some ((TCandidates.mk []), r1)) else ((F29 p2 0 1099511627776).bind fun r4 => bif (!r4) then (some ((TCandidates.mk []), 2)) else ((F36 p0.List).bind fun r7 => (F44_1 r7 p1 p2).bind fun r9 => some ((TCandidates.mk r9), 0)))
noncomputable def body23 : List AV -> List ABlk -> ED
  | [v0, v1, v2], h => .ed [] (aK 1 k_TCandidates (roD (deadL h []) v0) /\ roDOb (deadL h []) v0 /\ iK .i64 (roD (deadL h []) v1) /\ roDOb (deadL h []) v1 /\ iK .i64 (roD (deadL h []) v2) /\ roDOb (deadL h []) v2 /\ (F23 (g_TCandidates (aL (roD (deadL h []) v0))) (iA (roD (deadL h []) v1)) (iA (roD (deadL h []) v2))).isSome = true) (.tup [.agg [.sl 0 13 0 ((((gt (F23 (g_TCandidates (aL (roD (deadL h []) v0))) (iA (roD (deadL h []) v1)) (iA (roD (deadL h []) v2)))).1).List).length) false], .int .i64 ((gt (F23 (g_TCandidates (aL (roD (deadL h []) v0))) (iA (roD (deadL h []) v1)) (iA (roD (deadL h []) v2)))).2)]) [.row 52 13 ((((gt (F23 (g_TCandidates (aL (roD (deadL h []) v0))) (iA (roD (deadL h []) v1)) (iA (roD (deadL h []) v2)))).1).List).length) (enR c_TCandidate (((gt (F23 (g_TCandidates (aL (roD (deadL h []) v0))) (iA (roD (deadL h []) v1)) (iA (roD (deadL h []) v2)))).1).List))]
  | _, _ => .fail
set_option maxHeartbeats 4000000 in
set_option maxRecDepth 20000 in
theorem ok23 : FnOk Try.prog 23 (edC body23) := by
  refine edit_fnV body23 (rs := [.cell 6 41, .tmp 7]) Try.func23 (by kernel_rfl) rfl rfl ?_
  intro l h bs ob q0 g0 hb hob
  unfold body23 at hb
  split at hb
  · rename_i v0 v1 v2
    injection hb with q1 q2 q3 q4; subst q1 q2 q3 q4
    obtain ⟨hk0_0, hk0_1, hk1_0, hk1_1, hk2_0, hk2_1, hob⟩ := hob
    obtain ⟨r, H⟩ := Option.isSome_iff_exists.1 hob
    rw [H, gt_some]
    have hw0 := wA_TCandidates hk0_0
    obtain ⟨p0, hp_p0⟩ : ∃ p0, p0 = g_TCandidates (aL (roD (deadL h []) v0)) := ⟨_, rfl⟩
    rw [← hp_p0] at H hw0
    have hw1 := iK_wk hk1_0
    obtain ⟨p1, hp_p1⟩ : ∃ p1, p1 = iA (roD (deadL h []) v1) := ⟨_, rfl⟩
    rw [← hp_p1] at H hw1
    have hw2 := iK_wk hk2_0
    obtain ⟨p2, hp_p2⟩ : ∃ p2, p2 = iA (roD (deadL h []) v2) := ⟨_, rfl⟩
    rw [← hp_p2] at H hw2
    refine ⟨[.agg [.ro 13 p0.List.length false (enR c_TCandidate p0.List)], .int .i64 p1, .int .i64 p2], [], rfl, ⟨(EW_view hk0_1 hw0), ⟨(EW_view hk1_1 hw1), ⟨(EW_view hk2_1 hw2), trivial⟩⟩⟩, trivial, trivial, ⟨(nfB_en nr_TCandidate), trivial⟩, ⟨noroB_en, trivial⟩, (by first | (simp only [noro, noroL, and_self]; done) | (simp only [noro, noroL]; and_intros <;> first | trivial | exact noro_bif (by simp only [noro]) (by simp only [noro]) | (simp only [noro, noroL, and_self]))), ?_⟩
    rw [Try.ntmps23]
    simp only [List.length_cons, List.length_nil, Nat.reduceAdd, Nat.reduceSub, List.replicate_succ, List.replicate_zero, List.cons_append, List.nil_append]
    unfold F23 at H
    try dsimp only at H
    refine sq ctNo_ok ?_
    simp only [go_sem, Nat.reduceLeDiff, Nat.reduceLT, Nat.reduceAdd, Nat.reduceMul, Nat.reduceSub, Nat.reduceEqDiff, Nat.reduceBEq, Int.reduceToNat, reduceCtorEq]
    refine seqM ?_
    refine seqM ?_
    obtain ⟨r1, e2, H⟩ := bsi H
    refine rg ct23t0_ok ?_
    simp only [go_sem, Nat.reduceLeDiff, Nat.reduceLT, Nat.reduceAdd, Nat.reduceMul, Nat.reduceSub, Nat.reduceEqDiff, Nat.reduceBEq, Int.reduceToNat, reduceCtorEq, ct23t0_46, body46, e2]
    repeat ((with_reducible refine And.intro ?_ ?_); focus exact an0)
    refine sq ctNo_ok ?_
    simp only [go_sem, Nat.reduceLeDiff, Nat.reduceLT, Nat.reduceAdd, Nat.reduceMul, Nat.reduceSub, Nat.reduceEqDiff, Nat.reduceBEq, Int.reduceToNat, reduceCtorEq]
    refine condM rfl trivial (fun hc => ?_) (fun hc => ?_)
    · have hk3 : (bEq r1 0) = false := by simpa using hc
      replace H := cond_t hc H
      refine sq ctNo_ok ?_
      simp only [go_sem, Nat.reduceLeDiff, Nat.reduceLT, Nat.reduceAdd, Nat.reduceMul, Nat.reduceSub, Nat.reduceEqDiff, Nat.reduceBEq, Int.reduceToNat, reduceCtorEq]
      repeat ((with_reducible refine And.intro ?_ ?_); focus exact an3)
      refine rg ctNo_ok ?_
      simp only [go_sem, Nat.reduceLeDiff, Nat.reduceLT, Nat.reduceAdd, Nat.reduceMul, Nat.reduceSub, Nat.reduceEqDiff, Nat.reduceBEq, Int.reduceToNat, reduceCtorEq]
      obtain rfl := Option.some.inj H
      refine RetE_mk [] [none] ?_ ?_ ?_ ?_ (by rfl) (by rfl)
      · simp only [go_sem, Nat.reduceEqDiff, Nat.reduceBEq, Nat.reduceAdd]
        try exact at0
      · simp only [go_sem, Nat.reduceEqDiff, Nat.reduceBEq, Nat.reduceAdd]
        try exact at0
      · simp only [go_sem, Nat.reduceEqDiff, Nat.reduceBEq, Nat.reduceAdd]
        exact Cv_tup (CvL_cons (by first | (simp [Cv, CvL, getM, gt_some]; done) | (simp [Cv, CvL, getM, gt_some]; omega)) (CvL_cons (by simp [Cv, CvL, getM, gt_some]) CvL_nil))
      · simp only [go_sem, Nat.reduceEqDiff, Nat.reduceBEq, Nat.reduceAdd, CvH, gt_some, Option.isSome_some, Option.isSome_none]
        exact CvB_none
    have hk3 : (bEq r1 0) = true := by simpa using hc
    replace H := cond_f hc H
    refine rg ctNo_ok ?_
    simp only [go_sem, Nat.reduceLeDiff, Nat.reduceLT, Nat.reduceAdd, Nat.reduceMul, Nat.reduceSub, Nat.reduceEqDiff, Nat.reduceBEq, Int.reduceToNat, reduceCtorEq]
    refine seqM ?_
    refine seqM ?_
    obtain ⟨r4, e5, H⟩ := bsi H
    refine rg ct23t1_ok ?_
    simp only [go_sem, Nat.reduceLeDiff, Nat.reduceLT, Nat.reduceAdd, Nat.reduceMul, Nat.reduceSub, Nat.reduceEqDiff, Nat.reduceBEq, Int.reduceToNat, reduceCtorEq, ct23t1_29, body29, e5]
    repeat ((with_reducible refine And.intro ?_ ?_); focus exact an0)
    refine condM rfl trivial (fun hc => ?_) (fun hc => ?_)
    · have hk6 : (r4) = false := by simpa using hc
      replace H := cond_t hc H
      refine sq ctNo_ok ?_
      simp only [go_sem, Nat.reduceLeDiff, Nat.reduceLT, Nat.reduceAdd, Nat.reduceMul, Nat.reduceSub, Nat.reduceEqDiff, Nat.reduceBEq, Int.reduceToNat, reduceCtorEq]
      repeat ((with_reducible refine And.intro ?_ ?_); focus exact an3)
      refine rg ctNo_ok ?_
      simp only [go_sem, Nat.reduceLeDiff, Nat.reduceLT, Nat.reduceAdd, Nat.reduceMul, Nat.reduceSub, Nat.reduceEqDiff, Nat.reduceBEq, Int.reduceToNat, reduceCtorEq]
      obtain rfl := Option.some.inj H
      refine RetE_mk [] [none] ?_ ?_ ?_ ?_ (by rfl) (by rfl)
      · simp only [go_sem, Nat.reduceEqDiff, Nat.reduceBEq, Nat.reduceAdd]
        try exact at0
      · simp only [go_sem, Nat.reduceEqDiff, Nat.reduceBEq, Nat.reduceAdd]
        try exact at0
      · simp only [go_sem, Nat.reduceEqDiff, Nat.reduceBEq, Nat.reduceAdd]
        exact Cv_tup (CvL_cons (by first | (simp [Cv, CvL, getM, gt_some]; done) | (simp [Cv, CvL, getM, gt_some]; omega)) (CvL_cons (by simp [Cv, CvL, getM, gt_some]) CvL_nil))
      · simp only [go_sem, Nat.reduceEqDiff, Nat.reduceBEq, Nat.reduceAdd, CvH, gt_some, Option.isSome_some, Option.isSome_none]
        exact CvB_none
    have hk6 : (r4) = true := by simpa using hc
    replace H := cond_f hc H
    refine rg ctNo_ok ?_
    simp only [go_sem, Nat.reduceLeDiff, Nat.reduceLT, Nat.reduceAdd, Nat.reduceMul, Nat.reduceSub, Nat.reduceEqDiff, Nat.reduceBEq, Int.reduceToNat, reduceCtorEq]
    refine sq ctNo_ok ?_
    simp only [go_sem, Nat.reduceLeDiff, Nat.reduceLT, Nat.reduceAdd, Nat.reduceMul, Nat.reduceSub, Nat.reduceEqDiff, Nat.reduceBEq, Int.reduceToNat, reduceCtorEq]
    refine seqM ?_
    obtain ⟨r7, e8, H⟩ := bsi H
    obtain ⟨r9, e10, H⟩ := bsi H
    refine rg ct23t2_ok ?_
    simp only [go_sem, Nat.reduceLeDiff, Nat.reduceLT, Nat.reduceAdd, Nat.reduceMul, Nat.reduceSub, Nat.reduceEqDiff, Nat.reduceBEq, Int.reduceToNat, reduceCtorEq, ct23t2_36, body36, ct23t2_44, body44_1, e8, e10]
    repeat ((with_reducible refine And.intro ?_ ?_); focus exact an0)
    refine rg ctNo_ok ?_
    simp only [go_sem, Nat.reduceLeDiff, Nat.reduceLT, Nat.reduceAdd, Nat.reduceMul, Nat.reduceSub, Nat.reduceEqDiff, Nat.reduceBEq, Int.reduceToNat, reduceCtorEq]
    obtain rfl := Option.some.inj H
    refine RetE_mk [] [some 5] ?_ ?_ ?_ ?_ (by rfl) (by rfl)
    · simp only [go_sem, Nat.reduceEqDiff, Nat.reduceBEq, Nat.reduceAdd]
      try exact at0
    · simp only [go_sem, Nat.reduceEqDiff, Nat.reduceBEq, Nat.reduceAdd]
      try exact at0
    · simp only [go_sem, Nat.reduceEqDiff, Nat.reduceBEq, Nat.reduceAdd]
      exact Cv_tup (CvL_cons (by first | (simp [Cv, CvL, getM, gt_some]; done) | (simp [Cv, CvL, getM, gt_some]; omega)) (CvL_cons (by simp [Cv, CvL, getM, gt_some]) CvL_nil))
    · simp only [go_sem, Nat.reduceEqDiff, Nat.reduceBEq, Nat.reduceAdd, CvH, gt_some, Option.isSome_some, Option.isSome_none]
      exact CvB_row nr_TCandidate cl (fun _ _ _ _ => rfl)
  · cases hb
/-! hotspot/scan.Answers -/
noncomputable def ct14t0 : Ct := tab [(32, genC body32)]
theorem ct14t0_ok : CtOk Try.prog ct14t0 := tab_cons ok32 <| tab_nil
theorem ct14t0_32 (l : List AV) (h : List ABlk) : ct14t0 32 l h = genC body32 l h := rfl
noncomputable def F14 (p0 : List TElement) (p1 : ByteArray) : Option (Bool) :=
  (F32 p0 0).bind fun r1 => need (bif (!(bEq (r1.1.length : Nat) 0)) then u8b r1.1.length (enR c_u8 r1.1) else true) <| some ((bEq (r1.1.length : Nat) 0) || (sEq (bytesC r1.1.length (enR c_u8 r1.1)) p1))
noncomputable def body14 : List AV -> AR
  | [v0, v1] => .pure (lK k_TElement 4 v0 /\ sK v1 /\ (F14 (lA g_TElement v0) (sA v1)).isSome = true) (.bool (gt (F14 (lA g_TElement v0) (sA v1))))
  | _ => .fail
set_option maxHeartbeats 4000000 in
set_option maxRecDepth 20000 in
theorem ok14 : FnOk Try.prog 14 (pureC body14) := by
  refine pure_fnM body14 (rs := [.tmp 4]) Try.func14 (by kernel_rfl) rfl rfl ?_
  intro l ob v hb hob
  unfold body14 at hb
  split at hb
  · rename_i v0 v1
    injection hb with q1 q2; subst q1 q2
    obtain ⟨hk0_0, hk1_0, hob⟩ := hob
    obtain ⟨r, H⟩ := Option.isSome_iff_exists.1 hob
    rw [H, gt_some]
    have hw0 := lK_wk (fun r h => w_TElement h) hk0_0
    have hw1 := sK_wk hk1_0
    generalize lA g_TElement v0 = p0 at H hw0
    generalize sA v1 = p1 at H hw1
    refine ⟨[.ro 4 p0.length false (enR c_TElement p0), .str p1], _, (fun E vs F => FR_wk1 hw0.1 F (fun vs F => FR_wk1 hw1.1 F (fun vs F => F))), rfl, rfl, ?_⟩
    rw [Try.ntmps14]
    simp only [List.length_cons, List.length_nil, Nat.reduceAdd, Nat.reduceSub, List.replicate_succ, List.replicate_zero, List.cons_append, List.nil_append]
    unfold F14 at H
    try dsimp only at H
    refine sq ctNo_ok ?_
    simp only [go_sem, Nat.reduceLeDiff, Nat.reduceLT, Nat.reduceAdd, Nat.reduceMul, Nat.reduceSub, Nat.reduceEqDiff, Nat.reduceBEq, Int.reduceToNat, reduceCtorEq]
    refine seqM ?_
    obtain ⟨r1, e2, H⟩ := bsi H
    refine rg ct14t0_ok ?_
    simp only [go_sem, Nat.reduceLeDiff, Nat.reduceLT, Nat.reduceAdd, Nat.reduceMul, Nat.reduceSub, Nat.reduceEqDiff, Nat.reduceBEq, Int.reduceToNat, reduceCtorEq, ct14t0_32, body32, e2]
    repeat ((with_reducible refine And.intro ?_ ?_); focus exact an0)
    refine seqM ?_
    obtain ⟨f3, H⟩ := need_some.1 H
    replace f3 := g_iff.1 f3
    replace f3 := fun g => u8b_iff.1 (f3 g)
    refine rg ctNo_ok ?_
    simp only [go_sem, Nat.reduceLeDiff, Nat.reduceLT, Nat.reduceAdd, Nat.reduceMul, Nat.reduceSub, Nat.reduceEqDiff, Nat.reduceBEq, Int.reduceToNat, reduceCtorEq]
    repeat ((with_reducible refine And.intro ?_ ?_); focus (first | (with_reducible trivial) | omega | exact f3 | (intro g; have q := f3 (by first | exact g | (rw [g]; rfl) | simpa using g); first | exact q | exact ⟨q.1, q.2.1⟩ | exact q.2.2 | omega | exact ⟨g, q⟩ | exact ⟨trivial, q⟩ | exact ⟨g, q.1, q.2.1⟩ | exact ⟨g, q.2.2⟩) | (intro g; (try have q0 := f3 (by first | exact g | (rw [g]; rfl) | simpa using g)); and_intros <;> first | (with_reducible trivial) | assumption | exact nfc | (intro g2; rw [g, g2]; rfl) | (intro g2; assumption) | (simp only [g, Bool.true_and, Bool.and_true, Bool.not_false, Bool.not_true]; assumption) | grind) | (and_intros <;> first | (with_reducible trivial) | omega | assumption | exact nfc | first | exact rfl | exact trivial | exact fitI | exact .inr rfl | exact .inl rfl | exact fun x hx => absurd hx (by omega) | (intro x hx; (repeat (first | (and_intros <;> (first | exact rfl | exact trivial | exact fitI | exact .inr rfl | exact .inl rfl | exact fun x hx => absurd hx (by omega))) | (exfalso; omega) | (rcases x with _ | x))); done)) | grind))
    refine rg ctNo_ok ?_
    simp only [go_sem, Nat.reduceLeDiff, Nat.reduceLT, Nat.reduceAdd, Nat.reduceMul, Nat.reduceSub, Nat.reduceEqDiff, Nat.reduceBEq, Int.reduceToNat, reduceCtorEq]
    obtain rfl := Option.some.inj H
    first | rfl | simp only [Bool.and_false, Bool.false_and, Bool.and_true, Bool.true_and]
  · cases hb
/-! hotspot/hotspotref28.SameVisits -/
noncomputable def F13_L1 (p0 : List TVisit) (p1 : List TVisit) (v1_1 : Int) : Option (Lp (Int) ((Unit) ⊕ (Bool))) :=
  bif (bLt v1_1 (p0.length : Nat)) then (need (inb v1_1 p0.length) <| need (inb v1_1 p1.length) <| bif (!(bEq ((gd p0 v1_1.toNat).Channel) ((gd p1 v1_1.toNat).Channel) && (bEq ((gd p0 v1_1.toNat).From) ((gd p1 v1_1.toNat).From) && (bEq ((gd p0 v1_1.toNat).To) ((gd p1 v1_1.toNat).To) && (bB ((gd p0 v1_1.toNat).Probe) ((gd p1 v1_1.toNat).Probe)))))) then (some (.done (.inr false))) else (some (.next (wr .i64 (v1_1 + 1))))) else (some (.done (.inl ())))
noncomputable def F13 (p0 : List TVisit) (p1 : List TVisit) : Option (Bool) :=
  bif (!bEq (p0.length : Nat) (p1.length : Nat)) then (some false) else (lp (loopD (fun s => F13_L1 p0 p1 s) 0) (fun _ => some true) some)
noncomputable def body13 : List AV -> AR
  | [v0, v1] => .pure (lK k_TVisit 4 v0 /\ lK k_TVisit 4 v1 /\ (F13 (lA g_TVisit v0) (lA g_TVisit v1)).isSome = true) (.bool (gt (F13 (lA g_TVisit v0) (lA g_TVisit v1))))
  | _ => .fail
set_option maxHeartbeats 4000000 in
set_option maxRecDepth 20000 in
theorem ok13 : FnOk Try.prog 13 (pureC body13) := by
  refine pure_fnM body13 (rs := [.tmp 4]) Try.func13 (by kernel_rfl) rfl rfl ?_
  intro l ob v hb hob
  unfold body13 at hb
  split at hb
  · rename_i v0 v1
    injection hb with q1 q2; subst q1 q2
    obtain ⟨hk0_0, hk1_0, hob⟩ := hob
    obtain ⟨r, H⟩ := Option.isSome_iff_exists.1 hob
    rw [H, gt_some]
    have hw0 := lK_wk (fun r h => w_TVisit h) hk0_0
    have hw1 := lK_wk (fun r h => w_TVisit h) hk1_0
    generalize lA g_TVisit v0 = p0 at H hw0
    generalize lA g_TVisit v1 = p1 at H hw1
    refine ⟨[.ro 4 p0.length false (enR c_TVisit p0), .ro 4 p1.length false (enR c_TVisit p1)], _, (fun E vs F => FR_wk1 hw0.1 F (fun vs F => FR_wk1 hw1.1 F (fun vs F => F))), rfl, rfl, ?_⟩
    rw [Try.ntmps13]
    simp only [List.length_cons, List.length_nil, Nat.reduceAdd, Nat.reduceSub, List.replicate_succ, List.replicate_zero, List.cons_append, List.nil_append]
    unfold F13 at H
    try dsimp only at H
    refine sq ctNo_ok ?_
    simp only [go_sem, Nat.reduceLeDiff, Nat.reduceLT, Nat.reduceAdd, Nat.reduceMul, Nat.reduceSub, Nat.reduceEqDiff, Nat.reduceBEq, Int.reduceToNat, reduceCtorEq]
    refine seqM ?_
    refine sq ctNo_ok ?_
    simp only [go_sem, Nat.reduceLeDiff, Nat.reduceLT, Nat.reduceAdd, Nat.reduceMul, Nat.reduceSub, Nat.reduceEqDiff, Nat.reduceBEq, Int.reduceToNat, reduceCtorEq]
    repeat ((with_reducible refine And.intro ?_ ?_); focus exact an0)
    refine condM rfl trivial (fun hc => ?_) (fun hc => ?_)
    · have hk1 : (bEq (p0.length : Nat) (p1.length : Nat)) = false := by simpa using hc
      replace H := cond_t hc H
      refine sq ctNo_ok ?_
      simp only [go_sem, Nat.reduceLeDiff, Nat.reduceLT, Nat.reduceAdd, Nat.reduceMul, Nat.reduceSub, Nat.reduceEqDiff, Nat.reduceBEq, Int.reduceToNat, reduceCtorEq]
      refine rg ctNo_ok ?_
      simp only [go_sem, Nat.reduceLeDiff, Nat.reduceLT, Nat.reduceAdd, Nat.reduceMul, Nat.reduceSub, Nat.reduceEqDiff, Nat.reduceBEq, Int.reduceToNat, reduceCtorEq]
      obtain rfl := Option.some.inj H
      first | rfl | simp only [Bool.and_false, Bool.false_and, Bool.and_true, Bool.true_and]
    have hk1 : (bEq (p0.length : Nat) (p1.length : Nat)) = true := by simpa using hc
    replace H := cond_f hc H
    refine rg ctNo_ok ?_
    simp only [go_sem, Nat.reduceLeDiff, Nat.reduceLT, Nat.reduceAdd, Nat.reduceMul, Nat.reduceSub, Nat.reduceEqDiff, Nat.reduceBEq, Int.reduceToNat, reduceCtorEq]
    refine seqM ?_
    refine sq ctNo_ok ?_
    simp only [go_sem, Nat.reduceLeDiff, Nat.reduceLT, Nat.reduceAdd, Nat.reduceMul, Nat.reduceSub, Nat.reduceEqDiff, Nat.reduceBEq, Int.reduceToNat, reduceCtorEq]
    refine blkM ?_
    refine loop_den (fun s : Int => (.ro 4 p0.length false (enR c_TVisit p0) :: .ro 4 p1.length false (enR c_TVisit p1) :: .top :: .top :: .top :: .int .i64 s :: tp 20 [])) (fun s => []) (fun e : Unit => (tp 26 [])) (fun e => []) H ?_ (fun v1_1 o H hn1_1 hn2_1 => ?_) (fun e H => ?_)
    · refine SubF_of ⟨[], ?_, ?_, by rfl, by rfl⟩
      · simp [CvL, Cv, getM, tp, tp, tpg, t8]
      · trivial
    · unfold F13_L1 at H
      try dsimp only at H ⊢
      try simp only [tp]
      refine seqM ?_
      refine sq ctNo_ok ?_
      simp only [go_sem, Nat.reduceLeDiff, Nat.reduceLT, Nat.reduceAdd, Nat.reduceMul, Nat.reduceSub, Nat.reduceEqDiff, Nat.reduceBEq, Int.reduceToNat, reduceCtorEq]
      repeat ((with_reducible refine And.intro ?_ ?_); focus exact an0)
      refine condM' rfl trivial (fun hc => ?_) (fun hc => ?_)
      · have hk2 : (bLt v1_1 (p0.length : Nat)) = false := by simpa using hc
        replace H := cond_f hc H
        refine rg ctNo_ok ?_
        simp only [go_sem, Nat.reduceLeDiff, Nat.reduceLT, Nat.reduceAdd, Nat.reduceMul, Nat.reduceSub, Nat.reduceEqDiff, Nat.reduceBEq, Int.reduceToNat, reduceCtorEq]
        refine ⟨_, (Option.some.inj H).symm, ?_⟩
        refine SubF_of ⟨[], ?_, ?_, by rfl, by rfl⟩
        · simp [CvL, Cv, getM, tp, tp, tpg, t8]
        · trivial
      have hk2 : (bLt v1_1 (p0.length : Nat)) = true := by simpa using hc
      replace H := cond_t hc H
      refine rg ctNo_ok ?_
      simp only [go_sem, Nat.reduceLeDiff, Nat.reduceLT, Nat.reduceAdd, Nat.reduceMul, Nat.reduceSub, Nat.reduceEqDiff, Nat.reduceBEq, Int.reduceToNat, reduceCtorEq]
      refine seqM ?_
      refine blkM ?_
      refine seqM ?_
      obtain ⟨f3, H⟩ := need_some.1 H
      replace f3 := inb_iff.1 f3
      obtain ⟨f4, H⟩ := need_some.1 H
      replace f4 := inb_iff.1 f4
      refine draw_quiet shT_ok ctNo_ok (by kernel_rfl) (by kernel_rfl) ?_
      simp only [go_sem, Nat.reduceLeDiff, Nat.reduceLT, Nat.reduceAdd, Nat.reduceMul, Nat.reduceSub, Nat.reduceEqDiff, Nat.reduceBEq, Int.reduceToNat, reduceCtorEq, f3, f4]
      repeat ((with_reducible refine And.intro ?_ ?_); focus exact an3)
      refine condM rfl trivial (fun hc => ?_) (fun hc => ?_)
      · have hk5 : (bEq ((gd p0 v1_1.toNat).Channel) ((gd p1 v1_1.toNat).Channel) && (bEq ((gd p0 v1_1.toNat).From) ((gd p1 v1_1.toNat).From) && (bEq ((gd p0 v1_1.toNat).To) ((gd p1 v1_1.toNat).To) && (bB ((gd p0 v1_1.toNat).Probe) ((gd p1 v1_1.toNat).Probe))))) = false := by first | simpa using hc | simpa only [Bool.not_eq_true', Bool.not_eq_false'] using hc
        replace H := cond_t hc H
        refine sq ctNo_ok ?_
        simp only [go_sem, Nat.reduceLeDiff, Nat.reduceLT, Nat.reduceAdd, Nat.reduceMul, Nat.reduceSub, Nat.reduceEqDiff, Nat.reduceBEq, Int.reduceToNat, reduceCtorEq]
        refine rg ctNo_ok ?_
        simp only [go_sem, Nat.reduceLeDiff, Nat.reduceLT, Nat.reduceAdd, Nat.reduceMul, Nat.reduceSub, Nat.reduceEqDiff, Nat.reduceBEq, Int.reduceToNat, reduceCtorEq]
        have H := hn2_1 _ (Option.some.inj H).symm
        obtain rfl := Option.some.inj H
        first | rfl | simp only [Bool.and_false, Bool.false_and, Bool.and_true, Bool.true_and]
      have hk5 : (bEq ((gd p0 v1_1.toNat).Channel) ((gd p1 v1_1.toNat).Channel) && (bEq ((gd p0 v1_1.toNat).From) ((gd p1 v1_1.toNat).From) && (bEq ((gd p0 v1_1.toNat).To) ((gd p1 v1_1.toNat).To) && (bB ((gd p0 v1_1.toNat).Probe) ((gd p1 v1_1.toNat).Probe))))) = true := by first | simpa using hc | simpa only [Bool.not_eq_true', Bool.not_eq_false'] using hc
      replace H := cond_f hc H
      refine rg ctNo_ok ?_
      simp only [go_sem, Nat.reduceLeDiff, Nat.reduceLT, Nat.reduceAdd, Nat.reduceMul, Nat.reduceSub, Nat.reduceEqDiff, Nat.reduceBEq, Int.reduceToNat, reduceCtorEq]
      refine rg ctNo_ok ?_
      simp only [go_sem, Nat.reduceLeDiff, Nat.reduceLT, Nat.reduceAdd, Nat.reduceMul, Nat.reduceSub, Nat.reduceEqDiff, Nat.reduceBEq, Int.reduceToNat, reduceCtorEq]
      refine ⟨_, (Option.some.inj H).symm, ?_⟩
      refine SubF_of ⟨[], ?_, ?_, by rfl, by rfl⟩
      · simp [CvL, Cv, getM, tp, tp, tpg, t8]
      · trivial
    · try dsimp only at H ⊢
      try simp only [tp]
      try simp only [m_normal, k_normal, b_normal, kL_normal, r_normal]
      refine sq ctNo_ok ?_
      simp only [go_sem, Nat.reduceLeDiff, Nat.reduceLT, Nat.reduceAdd, Nat.reduceMul, Nat.reduceSub, Nat.reduceEqDiff, Nat.reduceBEq, Int.reduceToNat, reduceCtorEq]
      refine rg ctNo_ok ?_
      simp only [go_sem, Nat.reduceLeDiff, Nat.reduceLT, Nat.reduceAdd, Nat.reduceMul, Nat.reduceSub, Nat.reduceEqDiff, Nat.reduceBEq, Int.reduceToNat, reduceCtorEq]
      obtain rfl := Option.some.inj H
      first | rfl | simp only [Bool.and_false, Bool.false_and, Bool.and_true, Bool.true_and]
  · cases hb
/-! hotspot/hotspotlaw28.alive -/
noncomputable def ct16t0 : Ct := tab [(10, edC body10)]
theorem ct16t0_ok : CtOk Try.prog ct16t0 := tab_cons ok10 <| tab_nil
theorem ct16t0_10 (l : List AV) (h : List ABlk) : ct16t0 10 l h = edC body10 l h := rfl
noncomputable def ct16t1 : Ct := tab [(26, edC body26)]
theorem ct16t1_ok : CtOk Try.prog ct16t1 := tab_cons ok26 <| tab_nil
theorem ct16t1_26 (l : List AV) (h : List ABlk) : ct16t1 26 l h = edC body26 l h := rfl
noncomputable def ct16t2 : Ct := tab [(21, pureC body21)]
theorem ct16t2_ok : CtOk Try.prog ct16t2 := tab_cons ok21 <| tab_nil
theorem ct16t2_21 (l : List AV) (h : List ABlk) : ct16t2 21 l h = pureC body21 l h := rfl
noncomputable def ct16t3 : Ct := tab [(13, pureC body13)]
theorem ct16t3_ok : CtOk Try.prog ct16t3 := tab_cons ok13 <| tab_nil
theorem ct16t3_13 (l : List AV) (h : List ABlk) : ct16t3 13 l h = pureC body13 l h := rfl
noncomputable def F16 : Option (Bool) :=
  (F10 [1, 6] 100 50 true).bind fun r1 => (F26).bind fun r3 => (F21 (TCandidates.mk r3.1.List) (TWanted.mk (ByteArray.mk #[110, 101, 116]) true (-600) 5000) 2000).bind fun r5 => bif (bEq r1.2 0) then ((F13 r1.1 [(TVisit.mk 1 100 150 true), (TVisit.mk 6 150 200 true)]).bind fun r7 => some ((((r7 && (bEq r3.2 0)) && (bEq (r3.1.List.length : Nat) 2)) && (bEq r5.2 0)) && (bEq r5.1.Addr.x0 2 && (bEq r5.1.Addr.x1 0 && (bEq r5.1.Addr.x2 0 && (bEq r5.1.Addr.x3 0 && (bEq r5.1.Addr.x4 0 && (bEq r5.1.Addr.x5 0 && (bEq r5.1.Channel 1 && (bEq r5.1.Level (-500) && (bEq r5.1.Load 0 && (bEq r5.1.Heard 2000 && (bEq r5.1.Interval 100 && (sEq r5.1.Name (ByteArray.mk #[110, 101, 116]) && (bB r5.1.Secure true))))))))))))))) else (some false)
noncomputable def body16 : List AV -> AR
  | [] => .pure ((F16).isSome = true) (.bool (gt F16))
  | _ => .fail
set_option maxHeartbeats 4000000 in
set_option maxRecDepth 20000 in
theorem ok16 : FnOk Try.prog 16 (pureC body16) := by
  refine pure_fnM body16 (rs := [.tmp 0]) Try.func16 (by kernel_rfl) rfl rfl ?_
  intro l ob v hb hob
  unfold body16 at hb
  split at hb
  · injection hb with q1 q2; subst q1 q2
    obtain ⟨r, H⟩ := Option.isSome_iff_exists.1 hob
    rw [H, gt_some]
    refine ⟨[], _, (fun E vs F => F), rfl, rfl, ?_⟩
    rw [Try.ntmps16]
    simp only [List.length_cons, List.length_nil, Nat.reduceAdd, Nat.reduceSub, List.replicate_succ, List.replicate_zero, List.cons_append, List.nil_append]
    unfold F16 at H
    try dsimp only at H
    refine sq ctNo_ok ?_
    simp only [go_sem, Nat.reduceLeDiff, Nat.reduceLT, Nat.reduceAdd, Nat.reduceMul, Nat.reduceSub, Nat.reduceEqDiff, Nat.reduceBEq, Int.reduceToNat, reduceCtorEq]
    refine seqM ?_
    obtain ⟨r1, e2, H⟩ := bsi H
    refine rg ct16t0_ok ?_
    simp only [go_sem, Nat.reduceLeDiff, Nat.reduceLT, Nat.reduceAdd, Nat.reduceMul, Nat.reduceSub, Nat.reduceEqDiff, Nat.reduceBEq, Int.reduceToNat, reduceCtorEq, ct16t0_10, body10, e2]
    repeat ((with_reducible refine And.intro ?_ ?_); focus exact an2)
    refine seqM ?_
    obtain ⟨r3, e4, H⟩ := bsi H
    refine rg ct16t1_ok ?_
    simp only [go_sem, Nat.reduceLeDiff, Nat.reduceLT, Nat.reduceAdd, Nat.reduceMul, Nat.reduceSub, Nat.reduceEqDiff, Nat.reduceBEq, Int.reduceToNat, reduceCtorEq, ct16t1_26, body26, e4]
    repeat ((with_reducible refine And.intro ?_ ?_); focus exact an2)
    refine seqM ?_
    obtain ⟨r5, e6, H⟩ := bsi H
    refine rg ct16t2_ok ?_
    simp only [go_sem, Nat.reduceLeDiff, Nat.reduceLT, Nat.reduceAdd, Nat.reduceMul, Nat.reduceSub, Nat.reduceEqDiff, Nat.reduceBEq, Int.reduceToNat, reduceCtorEq, ct16t2_21, body21, e6]
    repeat ((with_reducible refine And.intro ?_ ?_); focus exact an2)
    refine sq ctNo_ok ?_
    simp only [go_sem, Nat.reduceLeDiff, Nat.reduceLT, Nat.reduceAdd, Nat.reduceMul, Nat.reduceSub, Nat.reduceEqDiff, Nat.reduceBEq, Int.reduceToNat, reduceCtorEq]
    repeat ((with_reducible refine And.intro ?_ ?_); focus exact an3)
    refine seqM ?_
    refine bif_split (c := (bEq r1.2 0)) (fun hg7 => ?_) (fun hg7 => ?_)
    · replace H := cond_t hg7 H
      obtain ⟨r7, e8, H⟩ := bsi H
      refine rg ct16t3_ok ?_
      simp only [go_sem, Nat.reduceLeDiff, Nat.reduceLT, Nat.reduceAdd, Nat.reduceMul, Nat.reduceSub, Nat.reduceEqDiff, Nat.reduceBEq, Int.reduceToNat, reduceCtorEq, ct16t3_13, body13, hg7, e8]
      repeat ((with_reducible refine And.intro ?_ ?_); focus exact an1)
      refine rg ctNo_ok ?_
      simp only [go_sem, Nat.reduceLeDiff, Nat.reduceLT, Nat.reduceAdd, Nat.reduceMul, Nat.reduceSub, Nat.reduceEqDiff, Nat.reduceBEq, Int.reduceToNat, reduceCtorEq]
      obtain rfl := Option.some.inj H
      first | rfl | simp only [Bool.and_false, Bool.false_and, Bool.and_true, Bool.true_and]
    replace H := cond_f hg7 H
    refine rg ct16t3_ok ?_
    simp only [go_sem, Nat.reduceLeDiff, Nat.reduceLT, Nat.reduceAdd, Nat.reduceMul, Nat.reduceSub, Nat.reduceEqDiff, Nat.reduceBEq, Int.reduceToNat, reduceCtorEq, ct16t3_13, body13, hg7]
    repeat ((with_reducible refine And.intro ?_ ?_); focus exact an1)
    refine rg ctNo_ok ?_
    simp only [go_sem, Nat.reduceLeDiff, Nat.reduceLT, Nat.reduceAdd, Nat.reduceMul, Nat.reduceSub, Nat.reduceEqDiff, Nat.reduceBEq, Int.reduceToNat, reduceCtorEq]
    obtain rfl := Option.some.inj H
    first | rfl | simp only [Bool.and_false, Bool.false_and, Bool.and_true, Bool.true_and]
  · cases hb
end Go.Proofs.Ytpnhehcncljhpaa
