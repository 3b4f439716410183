/-
  What TriggerNames reaches.
-/
import Derived.Test.YtnclkplbeenmdaaY10p2
namespace Go.Proofs.Ytnclkplbeenmdaa
open Go.Am
set_option linter.unusedVariables false
set_option linter.unusedSimpArgs false
/-! hotspot/buffer.Wake -/
noncomputable def ct41t0 : Ct := tab [(34, pureC body34)]
theorem ct41t0_ok : CtOk Try.prog ct41t0 := tab_cons ok34 <| tab_nil
theorem ct41t0_34 (l : List AV) (h : List ABlk) : ct41t0 34 l h = pureC body34 l h := rfl
noncomputable def ct41t1 : Ct := tab [(78, pureC body78)]
theorem ct41t1_ok : CtOk Try.prog ct41t1 := tab_cons ok78 <| tab_nil
theorem ct41t1_78 (l : List AV) (h : List ABlk) : ct41t1 78 l h = pureC body78 l h := rfl
noncomputable def ct41t2 : Ct := tab [(79, genC body79)]
theorem ct41t2_ok : CtOk Try.prog ct41t2 := tab_cons ok79 <| tab_nil
theorem ct41t2_79 (l : List AV) (h : List ABlk) : ct41t2 79 l h = genC body79 l h := rfl
noncomputable def ct41t3 : Ct := tab [(65, edC body65_0), (66, genC body66)]
theorem ct41t3_ok : CtOk Try.prog ct41t3 := tab_cons ok65_0 <| tab_cons ok66 <| tab_nil
theorem ct41t3_65 (l : List AV) (h : List ABlk) : ct41t3 65 l h = edC body65_0 l h := rfl
theorem ct41t3_66 (l : List AV) (h : List ABlk) : ct41t3 66 l h = genC body66 l h := rfl
noncomputable def ct41t4 : Ct := tab [(61, pureC body61)]
theorem ct41t4_ok : CtOk Try.prog ct41t4 := tab_cons ok61 <| tab_nil
theorem ct41t4_61 (l : List AV) (h : List ABlk) : ct41t4 61 l h = pureC body61 l h := rfl
noncomputable def ct41t5 : Ct := tab [(66, genC body66)]
theorem ct41t5_ok : CtOk Try.prog ct41t5 := tab_cons ok66 <| tab_nil
theorem ct41t5_66 (l : List AV) (h : List ABlk) : ct41t5 66 l h = genC body66 l h := rfl
noncomputable def ct41t6 : Ct := tab [(65, edC body65_0)]
theorem ct41t6_ok : CtOk Try.prog ct41t6 := tab_cons ok65_0 <| tab_nil
theorem ct41t6_65 (l : List AV) (h : List ABlk) : ct41t6 65 l h = edC body65_0 l h := rfl
noncomputable def ct41t7 : Ct := tab [(65, genC body65_1)]
theorem ct41t7_ok : CtOk Try.prog ct41t7 := tab_cons ok65_1 <| tab_nil
theorem ct41t7_65 (l : List AV) (h : List ABlk) : ct41t7 65 l h = genC body65_1 l h := rfl
noncomputable def F41 (p0 : TBuffer) (p1 : Int) : Option ((List TFrame) × TBuffer × Int) :=
  (F34 p0).bind fun r1 => bif (!bEq r1 0) then (some ([], (TBuffer.mk 0 0 [] []), r1)) else (bif ((bLt p1 1) || (bLt 255 p1)) then (some ([], (TBuffer.mk 0 0 [] []), 2)) else ((F78 p0 p1).bind fun r5 => bif (!r5.2) then (some ([], (TBuffer.mk 0 0 [] []), 6)) else ((F79 p0).bind fun r8 => need (inb r5.1 r8.List.length) <| (F66 ((gd r8.List r5.1.toNat).Held)).bind fun r11 => (F65_0 r11).bind fun r13 => (some ((r8.List.set r5.1.toNat (TSleeper.mk ((gd r8.List r5.1.toNat).Aid) false ((gd r8.List r5.1.toNat).Held))).set r5.1.toNat (TSleeper.mk ((gd (r8.List.set r5.1.toNat (TSleeper.mk ((gd r8.List r5.1.toNat).Aid) false ((gd r8.List r5.1.toNat).Held))) r5.1.toNat).Aid) ((gd (r8.List.set r5.1.toNat (TSleeper.mk ((gd r8.List r5.1.toNat).Aid) false ((gd r8.List r5.1.toNat).Held))) r5.1.toNat).Asleep) []))).bind fun w15 => (F61 (TBuffer.mk r8.Limit r8.Stay w15 r8.Group)).bind fun r17 => bif (!r17) then ((F66 r8.Group).bind fun r20 => (F65_0 r20).bind fun r22 => need (capb 104 (r13.length + r22.length)) <| some ((r13 ++ r22), (TBuffer.mk r8.Limit r8.Stay w15 []), 0)) else ((F65_1).bind fun r25 => need (capb 104 (r13.length + r25.length)) <| some ((r13 ++ r25), (TBuffer.mk r8.Limit r8.Stay w15 r8.Group), 0)))))
noncomputable def body41 : List AV -> Nat -> AR
  | [v0, v1], _ => .pure (aK 4 k_TBuffer v0 /\ iK .i64 v1 /\ (F41 (g_TBuffer (aL v0)) (iA v1)).isSome = true) (.tup [.ro 41 (((gt (F41 (g_TBuffer (aL v0)) (iA v1))).1).length) false (enR c_TFrame ((gt (F41 (g_TBuffer (aL v0)) (iA v1))).1)), .agg [.int .i64 (((gt (F41 (g_TBuffer (aL v0)) (iA v1))).2.1).Limit), .int .i64 (((gt (F41 (g_TBuffer (aL v0)) (iA v1))).2.1).Stay), .ro 3 ((((gt (F41 (g_TBuffer (aL v0)) (iA v1))).2.1).List).length) false (enR c_TSleeper (((gt (F41 (g_TBuffer (aL v0)) (iA v1))).2.1).List)), .ro 43 ((((gt (F41 (g_TBuffer (aL v0)) (iA v1))).2.1).Group).length) false (enR c_TStored (((gt (F41 (g_TBuffer (aL v0)) (iA v1))).2.1).Group))], .int .i64 ((gt (F41 (g_TBuffer (aL v0)) (iA v1))).2.2)])
  | _, _ => .fail
set_option maxHeartbeats 4000000 in
set_option maxRecDepth 20000 in
theorem ok41 : FnOk Try.prog 41 (genC body41) := by
  refine gen_fn body41 (rs := [.tmp 4, .cell 5 52, .tmp 6]) Try.func41 (by kernel_rfl) rfl rfl ?_
  intro l s ob v ns hb hob
  rcases hb with ⟨hb, rfl⟩ | hb
  · unfold body41 at hb
    split at hb
    · rename_i v0 v1
      injection hb with q1 q2; subst q1 q2
      obtain ⟨hk0_0, hk1_0, hob⟩ := hob
      obtain ⟨r, H⟩ := Option.isSome_iff_exists.1 hob
      rw [H, gt_some]
      have hw0 := wA_TBuffer hk0_0
      have hw1 := iK_wk hk1_0
      generalize g_TBuffer (aL v0) = p0 at H hw0
      generalize iA v1 = p1 at H hw1
      refine ⟨[.agg [.int .i64 p0.Limit, .int .i64 p0.Stay, .ro 3 p0.List.length false (enR c_TSleeper p0.List), .ro 43 p0.Group.length false (enR c_TStored p0.Group)], .int .i64 p1], .tup [.ro 41 r.1.length false (enR c_TFrame r.1), .agg [.int .i64 r.2.1.Limit, .int .i64 r.2.1.Stay, .ro 3 r.2.1.List.length false (enR c_TSleeper r.2.1.List), .ro 43 r.2.1.Group.length false (enR c_TStored r.2.1.Group)], .int .i64 r.2.2], [], (fun E vs F => FR_wk1 hw0.1 F (fun vs F => FR_wk1 hw1.1 F (fun vs F => F))), by simp only [ren, renL], trivial, ?_⟩
      rw [Try.ntmps41]
      simp only [List.length_cons, List.length_nil, Nat.reduceAdd, Nat.reduceSub, List.replicate_succ, List.replicate_zero, List.cons_append, List.nil_append]
      unfold F41 at H
      try dsimp only at H
      refine sq ctNo_ok ?_
      simp only [go_sem, Nat.reduceLeDiff, Nat.reduceLT, Nat.reduceAdd, Nat.reduceMul, Nat.reduceSub, Nat.reduceEqDiff, Nat.reduceBEq, Int.reduceToNat, reduceCtorEq]
      refine seqM ?_
      refine regO ?_
      refine cutO shT_ok ctNo_ok 2 ?_
      simp only [kO_normal, List.take_succ_cons, List.take_zero, List.drop_succ_cons, List.drop_zero, go_sem, Nat.reduceLeDiff, Nat.reduceLT, Nat.reduceAdd, Nat.reduceMul, Nat.reduceSub, Nat.reduceEqDiff, Nat.reduceBEq, Int.reduceToNat, reduceCtorEq]
      repeat ((with_reducible refine And.intro ?_ ?_); focus exact an0)
      refine inlO (rs := [.tmp 4, .tmp 5, .tmp 6]) Try.func64 (by kernel_rfl) rfl rfl Try.ntmps64 (caps := []) (tc := [.agg [.int .i64 p0.Limit, .int .i64 p0.Stay, .ro 3 p0.List.length false (enR c_TSleeper p0.List), .ro 43 p0.Group.length false (enR c_TStored p0.Group)], .int .i64 p1]) rfl (by simp only [go_sem, Nat.reduceLeDiff, Nat.reduceLT, Nat.reduceAdd, Nat.reduceMul, Nat.reduceSub, Nat.reduceEqDiff, Nat.reduceBEq, Int.reduceToNat, reduceCtorEq]) rfl ?_
      simp only [List.length_cons, List.length_nil, Nat.reduceAdd, Nat.reduceSub, List.replicate_succ, List.replicate_zero, List.cons_append, List.nil_append]
      refine sq ctNo_ok ?_
      simp only [go_sem, Nat.reduceLeDiff, Nat.reduceLT, Nat.reduceAdd, Nat.reduceMul, Nat.reduceSub, Nat.reduceEqDiff, Nat.reduceBEq, Int.reduceToNat, reduceCtorEq]
      refine seqM ?_
      refine seqM ?_
      obtain ⟨r1, e2, H⟩ := bsi H
      refine rg ct41t0_ok ?_
      simp only [go_sem, Nat.reduceLeDiff, Nat.reduceLT, Nat.reduceAdd, Nat.reduceMul, Nat.reduceSub, Nat.reduceEqDiff, Nat.reduceBEq, Int.reduceToNat, reduceCtorEq, ct41t0_34, body34, e2]
      repeat ((with_reducible refine And.intro ?_ ?_); focus exact an0)
      refine sq ctNo_ok ?_
      simp only [go_sem, Nat.reduceLeDiff, Nat.reduceLT, Nat.reduceAdd, Nat.reduceMul, Nat.reduceSub, Nat.reduceEqDiff, Nat.reduceBEq, Int.reduceToNat, reduceCtorEq]
      refine condM rfl trivial (fun hc => ?_) (fun hc => ?_)
      · have hk3 : (bEq r1 0) = false := by simpa using hc
        replace H := cond_t hc H
        refine sq ctNo_ok ?_
        simp only [go_sem, Nat.reduceLeDiff, Nat.reduceLT, Nat.reduceAdd, Nat.reduceMul, Nat.reduceSub, Nat.reduceEqDiff, Nat.reduceBEq, Int.reduceToNat, reduceCtorEq]
        refine rg ctNo_ok ?_
        simp only [go_sem, Nat.reduceLeDiff, Nat.reduceLT, Nat.reduceAdd, Nat.reduceMul, Nat.reduceSub, Nat.reduceEqDiff, Nat.reduceBEq, Int.reduceToNat, reduceCtorEq]
        refine cutO shT_ok ctNo_ok 7 ?_
        simp only [kO_normal, List.take_succ_cons, List.take_zero, List.drop_succ_cons, List.drop_zero, go_sem, Nat.reduceLeDiff, Nat.reduceLT, Nat.reduceAdd, Nat.reduceMul, Nat.reduceSub, Nat.reduceEqDiff, Nat.reduceBEq, Int.reduceToNat, reduceCtorEq]
        repeat ((with_reducible refine And.intro ?_ ?_); focus exact an0)
        refine endO ?_
        refine seqM ?_
        refine sq ctNo_ok ?_
        simp only [go_sem, Nat.reduceLeDiff, Nat.reduceLT, Nat.reduceAdd, Nat.reduceMul, Nat.reduceSub, Nat.reduceEqDiff, Nat.reduceBEq, Int.reduceToNat, reduceCtorEq]
        refine condM rfl trivial (fun hc => ?_) (fun hc => ?_)
        rotate_left
        · simp [hk3] at hc
        refine sq ctNo_ok ?_
        simp only [go_sem, Nat.reduceLeDiff, Nat.reduceLT, Nat.reduceAdd, Nat.reduceMul, Nat.reduceSub, Nat.reduceEqDiff, Nat.reduceBEq, Int.reduceToNat, reduceCtorEq]
        repeat ((with_reducible refine And.intro ?_ ?_); focus exact an5)
        refine rg ctNo_ok ?_
        simp only [go_sem, Nat.reduceLeDiff, Nat.reduceLT, Nat.reduceAdd, Nat.reduceMul, Nat.reduceSub, Nat.reduceEqDiff, Nat.reduceBEq, Int.reduceToNat, reduceCtorEq]
        obtain rfl := Option.some.inj H
        refine ⟨[0, 1, 2], ?_, ?_, [], ?_, ?_, rfl⟩
        · simp only [go_sem, Nat.reduceEqDiff, Nat.reduceBEq, Nat.reduceAdd]
          try exact at0
        · simp only [go_sem, Nat.reduceEqDiff, Nat.reduceBEq, Nat.reduceAdd]
          try exact at0
        · simp only [go_sem, Nat.reduceEqDiff, Nat.reduceBEq, Nat.reduceAdd]
          exact Cv_tup (CvL_cons (Cv_ronil (α := TFrame)) (CvL_cons (Cv_agg (CvL_cons Cv_int (CvL_cons Cv_int (CvL_cons (Cv_ronil (α := TSleeper)) (CvL_cons (Cv_ronil (α := TStored)) CvL_nil))))) (CvL_cons Cv_int CvL_nil)))
        · simp only [go_sem, Nat.reduceEqDiff, Nat.reduceBEq, Nat.reduceAdd, CvH]
      have hk3 : (bEq r1 0) = true := by simpa using hc
      replace H := cond_f hc H
      refine rg ctNo_ok ?_
      simp only [go_sem, Nat.reduceLeDiff, Nat.reduceLT, Nat.reduceAdd, Nat.reduceMul, Nat.reduceSub, Nat.reduceEqDiff, Nat.reduceBEq, Int.reduceToNat, reduceCtorEq]
      refine seqM ?_
      refine sq ctNo_ok ?_
      simp only [go_sem, Nat.reduceLeDiff, Nat.reduceLT, Nat.reduceAdd, Nat.reduceMul, Nat.reduceSub, Nat.reduceEqDiff, Nat.reduceBEq, Int.reduceToNat, reduceCtorEq]
      repeat ((with_reducible refine And.intro ?_ ?_); focus exact an5)
      refine condM rfl trivial (fun hc => ?_) (fun hc => ?_)
      · have hk4 : ((bLt p1 1) || (bLt 255 p1)) = true := by simpa using hc
        replace H := cond_t hc H
        refine sq ctNo_ok ?_
        simp only [go_sem, Nat.reduceLeDiff, Nat.reduceLT, Nat.reduceAdd, Nat.reduceMul, Nat.reduceSub, Nat.reduceEqDiff, Nat.reduceBEq, Int.reduceToNat, reduceCtorEq]
        refine rg ctNo_ok ?_
        simp only [go_sem, Nat.reduceLeDiff, Nat.reduceLT, Nat.reduceAdd, Nat.reduceMul, Nat.reduceSub, Nat.reduceEqDiff, Nat.reduceBEq, Int.reduceToNat, reduceCtorEq]
        refine cutO shT_ok ctNo_ok 7 ?_
        simp only [kO_normal, List.take_succ_cons, List.take_zero, List.drop_succ_cons, List.drop_zero, go_sem, Nat.reduceLeDiff, Nat.reduceLT, Nat.reduceAdd, Nat.reduceMul, Nat.reduceSub, Nat.reduceEqDiff, Nat.reduceBEq, Int.reduceToNat, reduceCtorEq]
        repeat ((with_reducible refine And.intro ?_ ?_); focus exact an0)
        refine endO ?_
        refine seqM ?_
        refine sq ctNo_ok ?_
        simp only [go_sem, Nat.reduceLeDiff, Nat.reduceLT, Nat.reduceAdd, Nat.reduceMul, Nat.reduceSub, Nat.reduceEqDiff, Nat.reduceBEq, Int.reduceToNat, reduceCtorEq, (by decide : bEq (2) (0) = false)]
        refine condM rfl trivial (fun hc => ?_) (fun hc => ?_)
        rotate_left
        · cases hc
        refine sq ctNo_ok ?_
        simp only [go_sem, Nat.reduceLeDiff, Nat.reduceLT, Nat.reduceAdd, Nat.reduceMul, Nat.reduceSub, Nat.reduceEqDiff, Nat.reduceBEq, Int.reduceToNat, reduceCtorEq]
        repeat ((with_reducible refine And.intro ?_ ?_); focus exact an5)
        refine rg ctNo_ok ?_
        simp only [go_sem, Nat.reduceLeDiff, Nat.reduceLT, Nat.reduceAdd, Nat.reduceMul, Nat.reduceSub, Nat.reduceEqDiff, Nat.reduceBEq, Int.reduceToNat, reduceCtorEq]
        obtain rfl := Option.some.inj H
        refine ⟨[0, 1, 2], ?_, ?_, [], ?_, ?_, rfl⟩
        · simp only [go_sem, Nat.reduceEqDiff, Nat.reduceBEq, Nat.reduceAdd]
          try exact at0
        · simp only [go_sem, Nat.reduceEqDiff, Nat.reduceBEq, Nat.reduceAdd]
          try exact at0
        · simp only [go_sem, Nat.reduceEqDiff, Nat.reduceBEq, Nat.reduceAdd]
          exact Cv_tup (CvL_cons (Cv_ronil (α := TFrame)) (CvL_cons (Cv_agg (CvL_cons Cv_int (CvL_cons Cv_int (CvL_cons (Cv_ronil (α := TSleeper)) (CvL_cons (Cv_ronil (α := TStored)) CvL_nil))))) (CvL_cons Cv_int CvL_nil)))
        · simp only [go_sem, Nat.reduceEqDiff, Nat.reduceBEq, Nat.reduceAdd, CvH]
      have hk4 : ((bLt p1 1) || (bLt 255 p1)) = false := by simpa using hc
      replace H := cond_f hc H
      refine rg ctNo_ok ?_
      simp only [go_sem, Nat.reduceLeDiff, Nat.reduceLT, Nat.reduceAdd, Nat.reduceMul, Nat.reduceSub, Nat.reduceEqDiff, Nat.reduceBEq, Int.reduceToNat, reduceCtorEq]
      refine seqM ?_
      obtain ⟨r5, e6, H⟩ := bsi H
      refine rg ct41t1_ok ?_
      simp only [go_sem, Nat.reduceLeDiff, Nat.reduceLT, Nat.reduceAdd, Nat.reduceMul, Nat.reduceSub, Nat.reduceEqDiff, Nat.reduceBEq, Int.reduceToNat, reduceCtorEq, ct41t1_78, body78, e6]
      repeat ((with_reducible refine And.intro ?_ ?_); focus exact an0)
      refine seqM ?_
      refine sq ctNo_ok ?_
      simp only [go_sem, Nat.reduceLeDiff, Nat.reduceLT, Nat.reduceAdd, Nat.reduceMul, Nat.reduceSub, Nat.reduceEqDiff, Nat.reduceBEq, Int.reduceToNat, reduceCtorEq]
      refine condM rfl trivial (fun hc => ?_) (fun hc => ?_)
      · have hk7 : (r5.2) = false := by simpa using hc
        replace H := cond_t hc H
        refine sq ctNo_ok ?_
        simp only [go_sem, Nat.reduceLeDiff, Nat.reduceLT, Nat.reduceAdd, Nat.reduceMul, Nat.reduceSub, Nat.reduceEqDiff, Nat.reduceBEq, Int.reduceToNat, reduceCtorEq]
        refine rg ctNo_ok ?_
        simp only [go_sem, Nat.reduceLeDiff, Nat.reduceLT, Nat.reduceAdd, Nat.reduceMul, Nat.reduceSub, Nat.reduceEqDiff, Nat.reduceBEq, Int.reduceToNat, reduceCtorEq]
        refine cutO shT_ok ctNo_ok 7 ?_
        simp only [kO_normal, List.take_succ_cons, List.take_zero, List.drop_succ_cons, List.drop_zero, go_sem, Nat.reduceLeDiff, Nat.reduceLT, Nat.reduceAdd, Nat.reduceMul, Nat.reduceSub, Nat.reduceEqDiff, Nat.reduceBEq, Int.reduceToNat, reduceCtorEq]
        repeat ((with_reducible refine And.intro ?_ ?_); focus exact an0)
        refine endO ?_
        refine seqM ?_
        refine sq ctNo_ok ?_
        simp only [go_sem, Nat.reduceLeDiff, Nat.reduceLT, Nat.reduceAdd, Nat.reduceMul, Nat.reduceSub, Nat.reduceEqDiff, Nat.reduceBEq, Int.reduceToNat, reduceCtorEq, (by decide : bEq (6) (0) = false)]
        refine condM rfl trivial (fun hc => ?_) (fun hc => ?_)
        rotate_left
        · cases hc
        refine sq ctNo_ok ?_
        simp only [go_sem, Nat.reduceLeDiff, Nat.reduceLT, Nat.reduceAdd, Nat.reduceMul, Nat.reduceSub, Nat.reduceEqDiff, Nat.reduceBEq, Int.reduceToNat, reduceCtorEq]
        repeat ((with_reducible refine And.intro ?_ ?_); focus exact an5)
        refine rg ctNo_ok ?_
        simp only [go_sem, Nat.reduceLeDiff, Nat.reduceLT, Nat.reduceAdd, Nat.reduceMul, Nat.reduceSub, Nat.reduceEqDiff, Nat.reduceBEq, Int.reduceToNat, reduceCtorEq]
        obtain rfl := Option.some.inj H
        refine ⟨[0, 1, 2], ?_, ?_, [], ?_, ?_, rfl⟩
        · simp only [go_sem, Nat.reduceEqDiff, Nat.reduceBEq, Nat.reduceAdd]
          try exact at0
        · simp only [go_sem, Nat.reduceEqDiff, Nat.reduceBEq, Nat.reduceAdd]
          try exact at0
        · simp only [go_sem, Nat.reduceEqDiff, Nat.reduceBEq, Nat.reduceAdd]
          exact Cv_tup (CvL_cons (Cv_ronil (α := TFrame)) (CvL_cons (Cv_agg (CvL_cons Cv_int (CvL_cons Cv_int (CvL_cons (Cv_ronil (α := TSleeper)) (CvL_cons (Cv_ronil (α := TStored)) CvL_nil))))) (CvL_cons Cv_int CvL_nil)))
        · simp only [go_sem, Nat.reduceEqDiff, Nat.reduceBEq, Nat.reduceAdd, CvH]
      have hk7 : (r5.2) = true := by simpa using hc
      replace H := cond_f hc H
      refine rg ctNo_ok ?_
      simp only [go_sem, Nat.reduceLeDiff, Nat.reduceLT, Nat.reduceAdd, Nat.reduceMul, Nat.reduceSub, Nat.reduceEqDiff, Nat.reduceBEq, Int.reduceToNat, reduceCtorEq]
      refine seqM ?_
      obtain ⟨r8, e9, H⟩ := bsi H
      refine rg ct41t2_ok ?_
      simp only [go_sem, Nat.reduceLeDiff, Nat.reduceLT, Nat.reduceAdd, Nat.reduceMul, Nat.reduceSub, Nat.reduceEqDiff, Nat.reduceBEq, Int.reduceToNat, reduceCtorEq, ct41t2_79, body79, e9]
      repeat ((with_reducible refine And.intro ?_ ?_); focus exact an0)
      refine seqM ?_
      obtain ⟨f10, H⟩ := need_some.1 H
      replace f10 := inb_iff.1 f10
      refine draw_quiet shT_ok ctNo_ok (by kernel_rfl) (by kernel_rfl) ?_
      simp only [go_sem, Nat.reduceLeDiff, Nat.reduceLT, Nat.reduceAdd, Nat.reduceMul, Nat.reduceSub, Nat.reduceEqDiff, Nat.reduceBEq, Int.reduceToNat, reduceCtorEq, f10]
      repeat ((with_reducible refine And.intro ?_ ?_); focus exact an5)
      refine rg ctNo_ok ?_
      simp only [go_sem, Nat.reduceLeDiff, Nat.reduceLT, Nat.reduceAdd, Nat.reduceMul, Nat.reduceSub, Nat.reduceEqDiff, Nat.reduceBEq, Int.reduceToNat, reduceCtorEq]
      refine cutO shT_ok ctNo_ok 7 ?_
      simp only [kO_normal, List.take_succ_cons, List.take_zero, List.drop_succ_cons, List.drop_zero, go_sem, Nat.reduceLeDiff, Nat.reduceLT, Nat.reduceAdd, Nat.reduceMul, Nat.reduceSub, Nat.reduceEqDiff, Nat.reduceBEq, Int.reduceToNat, reduceCtorEq]
      repeat ((with_reducible refine And.intro ?_ ?_); focus exact an0)
      refine endO ?_
      refine seqM ?_
      refine sq ctNo_ok ?_
      simp only [go_sem, Nat.reduceLeDiff, Nat.reduceLT, Nat.reduceAdd, Nat.reduceMul, Nat.reduceSub, Nat.reduceEqDiff, Nat.reduceBEq, Int.reduceToNat, reduceCtorEq, (by decide : bEq (0) (0) = true)]
      refine condM rfl trivial (fun hc => ?_) (fun hc => ?_)
      · cases hc
      refine rg ctNo_ok ?_
      simp only [go_sem, Nat.reduceLeDiff, Nat.reduceLT, Nat.reduceAdd, Nat.reduceMul, Nat.reduceSub, Nat.reduceEqDiff, Nat.reduceBEq, Int.reduceToNat, reduceCtorEq]
      refine seqM ?_
      obtain ⟨r11, e12, H⟩ := bsi H
      obtain ⟨r13, e14, H⟩ := bsi H
      refine rg ct41t3_ok ?_
      simp only [go_sem, Nat.reduceLeDiff, Nat.reduceLT, Nat.reduceAdd, Nat.reduceMul, Nat.reduceSub, Nat.reduceEqDiff, Nat.reduceBEq, Int.reduceToNat, reduceCtorEq, ct41t3_65, body65_0, ct41t3_66, body66, e12, e14]
      repeat ((with_reducible refine And.intro ?_ ?_); focus exact an0)
      refine sq ctNo_ok ?_
      simp only [go_sem, Nat.reduceLeDiff, Nat.reduceLT, Nat.reduceAdd, Nat.reduceMul, Nat.reduceSub, Nat.reduceEqDiff, Nat.reduceBEq, Int.reduceToNat, reduceCtorEq]
      repeat ((with_reducible refine And.intro ?_ ?_); focus exact an5)
      refine seqM ?_
      obtain ⟨w15, hw16, H⟩ := bsi H
      replace hw16 := Option.some.inj hw16
      have lhw16 : w15.length = r8.List.length := by rw [← hw16]; exact (by simp only [List.length_set])
      refine subF_mean (t2 := (tp 4 (.sl 6 41 0 r13.length false :: .ptr 1 0 0 0 :: .top :: .ptr 2 0 0 0 :: tp 33 []))) (h2 := [.lit 52 [.int .i64 p0.Limit, .int .i64 p0.Stay, .ro 3 p0.List.length false (enR c_TSleeper p0.List), .ro 43 p0.Group.length false (enR c_TStored p0.Group)], .lit 52 [.int .i64 0, .int .i64 0, .ro 0 0 true (fun _ _ => .top), .ro 0 0 true (fun _ _ => .top)], .lit 52 [.int .i64 r8.Limit, .int .i64 r8.Stay, .sl 3 3 0 w15.length false, .sl 4 43 0 r8.Group.length false], .row 71 3 w15.length (enR c_TSleeper w15), .row 73 43 r8.Group.length (enR c_TStored r8.Group), .dead, .row 30 41 r13.length (enR c_TFrame r13)]) ?_ ?_
      · refine SubF_of ⟨[some 0, some 1, some 2, some 3, some 4, some 5, some 6], ?_, ?_, by rfl, by rfl⟩
        · simp [CvL, Cv, getM, tp, tp, tpg, t8, lhw16]
        · exact ⟨(by simp [CvB, CvL, Cv, blkAt, geth, getM, lhw16]), (by simp [CvB, CvL, Cv, blkAt, geth, getM, lhw16]), (by simp [CvB, CvL, Cv, blkAt, geth, getM, lhw16]), CvB_rowW lhw16 (hw16 ▸ (upc_rowW (f := c_TSleeper) (r8.List.set r5.1.toNat (TSleeper.mk ((gd r8.List r5.1.toNat).Aid) false ((gd r8.List r5.1.toNat).Held))) r5.1.toNat 2 (TSleeper.mk ((gd (r8.List.set r5.1.toNat (TSleeper.mk ((gd r8.List r5.1.toNat).Aid) false ((gd r8.List r5.1.toNat).Held))) r5.1.toNat).Aid) ((gd (r8.List.set r5.1.toNat (TSleeper.mk ((gd r8.List r5.1.toNat).Aid) false ((gd r8.List r5.1.toNat).Held))) r5.1.toNat).Asleep) []) (wk_eq nr_TSleeper (upc_row (f := c_TSleeper) r8.List r5.1.toNat 1 (TSleeper.mk ((gd r8.List r5.1.toNat).Aid) false ((gd r8.List r5.1.toNat).Held)) (fun _ _ _ _ => rfl) (fun y hy => match y, hy with | 0, _ => rfl | 1, _ => rfl | 2, _ => rfl | (y+3), h => absurd h nlt))) (fun y hy μ => match y, hy with | 0, _ => by simp [c_TSleeper, getL, Cv] | 1, _ => by simp [c_TSleeper, getL, Cv] | 2, _ => by simp [c_TSleeper, getL, Cv] | (y+3), h => absurd h nlt))), CvB_row nr_TStored rfl (fun _ _ _ _ => rfl), CvB_dead, CvB_row nr_TFrame rfl (fun _ _ _ _ => rfl), trivial⟩
      simp only [tp]
      refine regO ?_
      refine cutO shT_ok ctNo_ok 2 ?_
      simp only [kO_normal, List.take_succ_cons, List.take_zero, List.drop_succ_cons, List.drop_zero, go_sem, Nat.reduceLeDiff, Nat.reduceLT, Nat.reduceAdd, Nat.reduceMul, Nat.reduceSub, Nat.reduceEqDiff, Nat.reduceBEq, Int.reduceToNat, reduceCtorEq]
      repeat ((with_reducible refine And.intro ?_ ?_); focus exact an0)
      refine inlO (rs := [.tmp 2]) Try.func67 (by kernel_rfl) rfl rfl Try.ntmps67 (caps := []) (tc := [.ptr 2 0 0 0]) rfl (by simp only [go_sem, Nat.reduceLeDiff, Nat.reduceLT, Nat.reduceAdd, Nat.reduceMul, Nat.reduceSub, Nat.reduceEqDiff, Nat.reduceBEq, Int.reduceToNat, reduceCtorEq]) rfl ?_
      simp only [List.length_cons, List.length_nil, Nat.reduceAdd, Nat.reduceSub, List.replicate_succ, List.replicate_zero, List.cons_append, List.nil_append]
      refine sq ctNo_ok ?_
      simp only [go_sem, Nat.reduceLeDiff, Nat.reduceLT, Nat.reduceAdd, Nat.reduceMul, Nat.reduceSub, Nat.reduceEqDiff, Nat.reduceBEq, Int.reduceToNat, reduceCtorEq]
      refine seqM ?_
      refine seqM ?_
      obtain ⟨r17, e18, H⟩ := bsi H
      refine rg ct41t4_ok ?_
      simp only [go_sem, Nat.reduceLeDiff, Nat.reduceLT, Nat.reduceAdd, Nat.reduceMul, Nat.reduceSub, Nat.reduceEqDiff, Nat.reduceBEq, Int.reduceToNat, reduceCtorEq, ct41t4_61, body61, e18]
      repeat ((with_reducible refine And.intro ?_ ?_); focus exact an0)
      refine condM' rfl trivial (fun hc => ?_) (fun hc => ?_)
      · have hk19 : (r17) = true := by simpa using hc
        replace H := cond_f hc H
        refine rg ctNo_ok ?_
        simp only [go_sem, Nat.reduceLeDiff, Nat.reduceLT, Nat.reduceAdd, Nat.reduceMul, Nat.reduceSub, Nat.reduceEqDiff, Nat.reduceBEq, Int.reduceToNat, reduceCtorEq]
        refine sq ctNo_ok ?_
        simp only [go_sem, Nat.reduceLeDiff, Nat.reduceLT, Nat.reduceAdd, Nat.reduceMul, Nat.reduceSub, Nat.reduceEqDiff, Nat.reduceBEq, Int.reduceToNat, reduceCtorEq]
        refine rg ctNo_ok ?_
        simp only [go_sem, Nat.reduceLeDiff, Nat.reduceLT, Nat.reduceAdd, Nat.reduceMul, Nat.reduceSub, Nat.reduceEqDiff, Nat.reduceBEq, Int.reduceToNat, reduceCtorEq]
        obtain ⟨r25, e26, H⟩ := bsi H
        obtain ⟨f27, H⟩ := need_some.1 H
        replace f27 := capb_iff.1 f27
        refine cutO shT_ok ct41t7_ok 3 ?_
        simp only [kO_normal, List.take_succ_cons, List.take_zero, List.drop_succ_cons, List.drop_zero, go_sem, Nat.reduceLeDiff, Nat.reduceLT, Nat.reduceAdd, Nat.reduceMul, Nat.reduceSub, Nat.reduceEqDiff, Nat.reduceBEq, Int.reduceToNat, reduceCtorEq, ct41t7_65, body65_1, e26, f27]
        repeat ((with_reducible refine And.intro ?_ ?_); focus exact an1)
        refine endO ?_
        refine seqM ?_
        refine draw_rule shT_ok ctNo_ok 0 (by kernel_rfl) (by kernel_rfl) ?_
        intro an han
        simp only [d_nil, d_cons, nxtD, xrD, xoD, roEq, minL, List.append_nil, refsOp, refs, refsL, mask, maskF, place, placeF, okLog, pairOk, hit, inL, slotsF, ren, renL, rnN, nrH, nrB, nrL, nr, dead0, deadS, List.replicate_zero, List.replicate_succ, Nat.sub_self, Nat.add_zero, Nat.zero_add, Nat.reduceSub, Nat.not_lt_zero, Nat.zero_le, Nat.lt_add_one, go_sem, Nat.reduceLeDiff, Nat.reduceLT, Nat.reduceAdd, Nat.reduceMul, Nat.reduceSub, Nat.reduceEqDiff, Nat.reduceBEq, Int.reduceToNat, reduceCtorEq]
        repeat ((with_reducible refine And.intro ?_ ?_); focus exact an3)
        refine rg ctNo_ok ?_
        simp only [go_sem, Nat.reduceLeDiff, Nat.reduceLT, Nat.reduceAdd, Nat.reduceMul, Nat.reduceSub, Nat.reduceEqDiff, Nat.reduceBEq, Int.reduceToNat, reduceCtorEq]
        obtain rfl := Option.some.inj H
        refine ⟨[8, 3, 4, 0, 1, 2], ?_, ?_, [], ?_, ?_, rfl⟩
        · simp only [go_sem, Nat.reduceEqDiff, Nat.reduceBEq, Nat.reduceAdd]
          try exact at0
        · simp only [go_sem, Nat.reduceEqDiff, Nat.reduceBEq, Nat.reduceAdd]
          try exact at0
        · simp only [go_sem, Nat.reduceEqDiff, Nat.reduceBEq, Nat.reduceAdd]
          exact Cv_tup (CvL_cons (ro_row (by first | rfl | simp) (app_row (f := c_TFrame) r13 r25 (fun _ _ _ _ => rfl) (fun _ _ _ _ => rfl))) (CvL_cons (Cv_agg (CvL_cons Cv_int (CvL_cons Cv_int (CvL_cons (ro_row (by first | rfl | simp) (fun _ _ _ _ => rfl)) (CvL_cons (ro_row (by first | rfl | simp) (fun _ _ _ _ => rfl)) CvL_nil))))) (CvL_cons Cv_int CvL_nil)))
        · simp only [go_sem, Nat.reduceEqDiff, Nat.reduceBEq, Nat.reduceAdd, CvH]
      have hk19 : (r17) = false := by simpa using hc
      replace H := cond_t hc H
      refine fz_mean [4] ?_ ?_
      · simp only [go_sem, Nat.reduceEqDiff, Nat.reduceBEq, Nat.reduceAdd]
        try exact at0
      simp only [go_sem, Nat.reduceEqDiff, Nat.reduceBEq, Nat.reduceAdd]
      obtain ⟨r20, e21, H⟩ := bsi H
      refine rg ct41t5_ok ?_
      simp only [go_sem, Nat.reduceLeDiff, Nat.reduceLT, Nat.reduceAdd, Nat.reduceMul, Nat.reduceSub, Nat.reduceEqDiff, Nat.reduceBEq, Int.reduceToNat, reduceCtorEq, ct41t5_66, body66, e21]
      repeat ((with_reducible refine And.intro ?_ ?_); focus exact an0)
      refine sq ctNo_ok ?_
      simp only [go_sem, Nat.reduceLeDiff, Nat.reduceLT, Nat.reduceAdd, Nat.reduceMul, Nat.reduceSub, Nat.reduceEqDiff, Nat.reduceBEq, Int.reduceToNat, reduceCtorEq]
      refine rg ctNo_ok ?_
      simp only [go_sem, Nat.reduceLeDiff, Nat.reduceLT, Nat.reduceAdd, Nat.reduceMul, Nat.reduceSub, Nat.reduceEqDiff, Nat.reduceBEq, Int.reduceToNat, reduceCtorEq]
      obtain ⟨r22, e23, H⟩ := bsi H
      obtain ⟨f24, H⟩ := need_some.1 H
      replace f24 := capb_iff.1 f24
      refine cutO shT_ok ct41t6_ok 3 ?_
      simp only [kO_normal, List.take_succ_cons, List.take_zero, List.drop_succ_cons, List.drop_zero, go_sem, Nat.reduceLeDiff, Nat.reduceLT, Nat.reduceAdd, Nat.reduceMul, Nat.reduceSub, Nat.reduceEqDiff, Nat.reduceBEq, Int.reduceToNat, reduceCtorEq, ct41t6_65, body65_0, e23, f24]
      repeat ((with_reducible refine And.intro ?_ ?_); focus exact an1)
      refine endO ?_
      refine seqM ?_
      refine draw_rule shT_ok ctNo_ok 0 (by kernel_rfl) (by kernel_rfl) ?_
      intro an han
      simp only [d_nil, d_cons, nxtD, xrD, xoD, roEq, minL, List.append_nil, refsOp, refs, refsL, mask, maskF, place, placeF, okLog, pairOk, hit, inL, slotsF, ren, renL, rnN, nrH, nrB, nrL, nr, dead0, deadS, List.replicate_zero, List.replicate_succ, Nat.sub_self, Nat.add_zero, Nat.zero_add, Nat.reduceSub, Nat.not_lt_zero, Nat.zero_le, Nat.lt_add_one, go_sem, Nat.reduceLeDiff, Nat.reduceLT, Nat.reduceAdd, Nat.reduceMul, Nat.reduceSub, Nat.reduceEqDiff, Nat.reduceBEq, Int.reduceToNat, reduceCtorEq]
      repeat ((with_reducible refine And.intro ?_ ?_); focus exact an3)
      refine rg ctNo_ok ?_
      simp only [go_sem, Nat.reduceLeDiff, Nat.reduceLT, Nat.reduceAdd, Nat.reduceMul, Nat.reduceSub, Nat.reduceEqDiff, Nat.reduceBEq, Int.reduceToNat, reduceCtorEq]
      obtain rfl := Option.some.inj H
      refine ⟨[9, 3, 0, 1, 2], ?_, ?_, [], ?_, ?_, rfl⟩
      · simp only [go_sem, Nat.reduceEqDiff, Nat.reduceBEq, Nat.reduceAdd]
        try exact at0
      · simp only [go_sem, Nat.reduceEqDiff, Nat.reduceBEq, Nat.reduceAdd]
        try exact at0
      · simp only [go_sem, Nat.reduceEqDiff, Nat.reduceBEq, Nat.reduceAdd]
        exact Cv_tup (CvL_cons (ro_row (by first | rfl | simp) (app_row (f := c_TFrame) r13 r22 (fun _ _ _ _ => rfl) (fun _ _ _ _ => rfl))) (CvL_cons (Cv_agg (CvL_cons Cv_int (CvL_cons Cv_int (CvL_cons (ro_row (by first | rfl | simp) (fun _ _ _ _ => rfl)) (CvL_cons (Cv_ronil (α := TStored)) CvL_nil))))) (CvL_cons Cv_int CvL_nil)))
      · simp only [go_sem, Nat.reduceEqDiff, Nat.reduceBEq, Nat.reduceAdd, CvH]
    · cases hb
  · unfold body41 at hb
    split at hb <;> cases hb
/-! hotspot/trigger.CheckPeriod -/
noncomputable def F22_L1 (p0 : TPeriod) (v1_1 : Int) : Option (Lp (Int) ((Unit) ⊕ (Int))) :=
  bif (bLt v1_1 (p0.Left.length : Nat)) then (need (inb v1_1 p0.Left.length) <| bif (!bB (((gd p0.Left v1_1.toNat).Head).Eosp) (bEq (wr .i64 (v1_1 + 1)) (p0.Left.length : Nat))) then (some (.done (.inr 8))) else (some (.next (wr .i64 (v1_1 + 1))))) else (some (.done (.inl ())))
noncomputable def F22 (p0 : TPeriod) : Option (Int) :=
  bif ((bLt p0.Aid 1) || (bLt 255 p0.Aid)) then (some 8) else (lp (loopD (fun s => F22_L1 p0 s) 0) (fun _ => some 0) some)
noncomputable def body22 : List AV -> AR
  | [v0] => .pure (aK 2 k_TPeriod v0 /\ (F22 (g_TPeriod (aL v0))).isSome = true) (.int .i64 (gt (F22 (g_TPeriod (aL v0)))))
  | _ => .fail
set_option maxHeartbeats 4000000 in
set_option maxRecDepth 20000 in
theorem ok22 : FnOk Try.prog 22 (pureC body22) := by
  refine pure_fnM body22 (rs := [.tmp 2]) Try.func22 (by kernel_rfl) rfl rfl ?_
  intro l ob v hb hob
  unfold body22 at hb
  split at hb
  · rename_i v0
    injection hb with q1 q2; subst q1 q2
    obtain ⟨hk0_0, hob⟩ := hob
    obtain ⟨r, H⟩ := Option.isSome_iff_exists.1 hob
    rw [H, gt_some]
    have hw0 := wA_TPeriod hk0_0
    generalize g_TPeriod (aL v0) = p0 at H hw0
    refine ⟨[.agg [.int .i64 p0.Aid, .ro 41 p0.Left.length false (enR c_TFrame p0.Left)]], _, (fun E vs F => FR_wk1 hw0.1 F (fun vs F => F)), rfl, rfl, ?_⟩
    rw [Try.ntmps22]
    simp only [List.length_cons, List.length_nil, Nat.reduceAdd, Nat.reduceSub, List.replicate_succ, List.replicate_zero, List.cons_append, List.nil_append]
    unfold F22 at H
    try dsimp only at H
    refine sq ctNo_ok ?_
    simp only [go_sem, Nat.reduceLeDiff, Nat.reduceLT, Nat.reduceAdd, Nat.reduceMul, Nat.reduceSub, Nat.reduceEqDiff, Nat.reduceBEq, Int.reduceToNat, reduceCtorEq]
    refine seqM ?_
    refine sq ctNo_ok ?_
    simp only [go_sem, Nat.reduceLeDiff, Nat.reduceLT, Nat.reduceAdd, Nat.reduceMul, Nat.reduceSub, Nat.reduceEqDiff, Nat.reduceBEq, Int.reduceToNat, reduceCtorEq]
    repeat ((with_reducible refine And.intro ?_ ?_); focus exact an5)
    refine condM rfl trivial (fun hc => ?_) (fun hc => ?_)
    · have hk1 : ((bLt p0.Aid 1) || (bLt 255 p0.Aid)) = true := by simpa using hc
      replace H := cond_t hc H
      refine sq ctNo_ok ?_
      simp only [go_sem, Nat.reduceLeDiff, Nat.reduceLT, Nat.reduceAdd, Nat.reduceMul, Nat.reduceSub, Nat.reduceEqDiff, Nat.reduceBEq, Int.reduceToNat, reduceCtorEq]
      refine rg ctNo_ok ?_
      simp only [go_sem, Nat.reduceLeDiff, Nat.reduceLT, Nat.reduceAdd, Nat.reduceMul, Nat.reduceSub, Nat.reduceEqDiff, Nat.reduceBEq, Int.reduceToNat, reduceCtorEq]
      obtain rfl := Option.some.inj H
      first | rfl | simp only [Bool.and_false, Bool.false_and, Bool.and_true, Bool.true_and]
    have hk1 : ((bLt p0.Aid 1) || (bLt 255 p0.Aid)) = false := by simpa using hc
    replace H := cond_f hc H
    refine rg ctNo_ok ?_
    simp only [go_sem, Nat.reduceLeDiff, Nat.reduceLT, Nat.reduceAdd, Nat.reduceMul, Nat.reduceSub, Nat.reduceEqDiff, Nat.reduceBEq, Int.reduceToNat, reduceCtorEq]
    refine seqM ?_
    refine sq ctNo_ok ?_
    simp only [go_sem, Nat.reduceLeDiff, Nat.reduceLT, Nat.reduceAdd, Nat.reduceMul, Nat.reduceSub, Nat.reduceEqDiff, Nat.reduceBEq, Int.reduceToNat, reduceCtorEq]
    repeat ((with_reducible refine And.intro ?_ ?_); focus exact an0)
    refine blkM ?_
    refine loop_den (fun s : Int => (.top :: .ptr 0 0 0 0 :: tp 12 (.ro 41 p0.Left.length false (enR c_TFrame p0.Left) :: .int .i64 (p0.Left.length : Nat) :: .int .i64 s :: tp 15 []))) (fun s => [.lit 33 [.int .i64 p0.Aid, .ro 41 p0.Left.length false (enR c_TFrame p0.Left)]]) (fun e : Unit => (tp 32 [])) (fun e => [.dead]) H ?_ (fun v1_1 o H hn1_1 hn2_1 => ?_) (fun e H => ?_)
    · refine SubF_of ⟨[some 0], ?_, ?_, by rfl, by rfl⟩
      · simp [CvL, Cv, getM, tp, tp, tpg, t8]
      · exact ⟨cv, trivial⟩
    · unfold F22_L1 at H
      try dsimp only at H ⊢
      try simp only [tp]
      refine sq ctNo_ok ?_
      simp only [go_sem, Nat.reduceLeDiff, Nat.reduceLT, Nat.reduceAdd, Nat.reduceMul, Nat.reduceSub, Nat.reduceEqDiff, Nat.reduceBEq, Int.reduceToNat, reduceCtorEq]
      refine seqM ?_
      refine condM' rfl trivial (fun hc => ?_) (fun hc => ?_)
      · have hk2 : (bLt v1_1 (p0.Left.length : Nat)) = false := by simpa using hc
        replace H := cond_f hc H
        refine rg ctNo_ok ?_
        simp only [go_sem, Nat.reduceLeDiff, Nat.reduceLT, Nat.reduceAdd, Nat.reduceMul, Nat.reduceSub, Nat.reduceEqDiff, Nat.reduceBEq, Int.reduceToNat, reduceCtorEq]
        refine ⟨_, (Option.some.inj H).symm, ?_⟩
        refine SubF_of ⟨[some 0], ?_, ?_, by rfl, by rfl⟩
        · simp [CvL, Cv, getM, tp, tp, tpg, t8]
        · exact ⟨CvB_dead, trivial⟩
      have hk2 : (bLt v1_1 (p0.Left.length : Nat)) = true := by simpa using hc
      replace H := cond_t hc H
      refine rg ctNo_ok ?_
      simp only [go_sem, Nat.reduceLeDiff, Nat.reduceLT, Nat.reduceAdd, Nat.reduceMul, Nat.reduceSub, Nat.reduceEqDiff, Nat.reduceBEq, Int.reduceToNat, reduceCtorEq]
      refine seqM ?_
      refine blkM ?_
      refine seqM ?_
      obtain ⟨f3, H⟩ := need_some.1 H
      replace f3 := inb_iff.1 f3
      refine rg ctNo_ok ?_
      simp only [go_sem, Nat.reduceLeDiff, Nat.reduceLT, Nat.reduceAdd, Nat.reduceMul, Nat.reduceSub, Nat.reduceEqDiff, Nat.reduceBEq, Int.reduceToNat, reduceCtorEq, f3]
      repeat ((with_reducible refine And.intro ?_ ?_); focus exact an5)
      refine sq ctNo_ok ?_
      simp only [go_sem, Nat.reduceLeDiff, Nat.reduceLT, Nat.reduceAdd, Nat.reduceMul, Nat.reduceSub, Nat.reduceEqDiff, Nat.reduceBEq, Int.reduceToNat, reduceCtorEq]
      repeat ((with_reducible refine And.intro ?_ ?_); focus exact an0)
      refine condM rfl trivial (fun hc => ?_) (fun hc => ?_)
      · have hk4 : (bB (((gd p0.Left v1_1.toNat).Head).Eosp) (bEq (wr .i64 (v1_1 + 1)) (p0.Left.length : Nat))) = false := by simpa using hc
        replace H := cond_t hc H
        refine sq ctNo_ok ?_
        simp only [go_sem, Nat.reduceLeDiff, Nat.reduceLT, Nat.reduceAdd, Nat.reduceMul, Nat.reduceSub, Nat.reduceEqDiff, Nat.reduceBEq, Int.reduceToNat, reduceCtorEq]
        refine rg ctNo_ok ?_
        simp only [go_sem, Nat.reduceLeDiff, Nat.reduceLT, Nat.reduceAdd, Nat.reduceMul, Nat.reduceSub, Nat.reduceEqDiff, Nat.reduceBEq, Int.reduceToNat, reduceCtorEq]
        have H := hn2_1 _ (Option.some.inj H).symm
        obtain rfl := Option.some.inj H
        first | rfl | simp only [Bool.and_false, Bool.false_and, Bool.and_true, Bool.true_and]
      have hk4 : (bB (((gd p0.Left v1_1.toNat).Head).Eosp) (bEq (wr .i64 (v1_1 + 1)) (p0.Left.length : Nat))) = true := by simpa using hc
      replace H := cond_f hc H
      refine rg ctNo_ok ?_
      simp only [go_sem, Nat.reduceLeDiff, Nat.reduceLT, Nat.reduceAdd, Nat.reduceMul, Nat.reduceSub, Nat.reduceEqDiff, Nat.reduceBEq, Int.reduceToNat, reduceCtorEq]
      refine rg ctNo_ok ?_
      simp only [go_sem, Nat.reduceLeDiff, Nat.reduceLT, Nat.reduceAdd, Nat.reduceMul, Nat.reduceSub, Nat.reduceEqDiff, Nat.reduceBEq, Int.reduceToNat, reduceCtorEq]
      refine ⟨_, (Option.some.inj H).symm, ?_⟩
      refine SubF_of ⟨[some 0], ?_, ?_, by rfl, by rfl⟩
      · simp [CvL, Cv, getM, tp, tp, tpg, t8]
      · exact ⟨cv, trivial⟩
    · try dsimp only at H ⊢
      try simp only [tp]
      try simp only [m_normal, k_normal, b_normal, kL_normal, r_normal]
      refine sq ctNo_ok ?_
      simp only [go_sem, Nat.reduceLeDiff, Nat.reduceLT, Nat.reduceAdd, Nat.reduceMul, Nat.reduceSub, Nat.reduceEqDiff, Nat.reduceBEq, Int.reduceToNat, reduceCtorEq]
      refine rg ctNo_ok ?_
      simp only [go_sem, Nat.reduceLeDiff, Nat.reduceLT, Nat.reduceAdd, Nat.reduceMul, Nat.reduceSub, Nat.reduceEqDiff, Nat.reduceBEq, Int.reduceToNat, reduceCtorEq]
      obtain rfl := Option.some.inj H
      first | rfl | simp only [Bool.and_false, Bool.false_and, Bool.and_true, Bool.true_and]
  · cases hb
/-! hotspot/header.Twin -/
noncomputable def F44_0 (p0 : TFrame) : Option (TFrame) :=
  need (capb 1 p0.Body.length) <| some (TFrame.mk (THeader.mk p0.Head.Kind p0.Head.Sub p0.Head.ToDs p0.Head.FromDs p0.Head.More p0.Head.Retry p0.Head.Sleep p0.Head.MoreData p0.Head.Protected p0.Head.Duration (A6u8.mk p0.Head.A1.x0 p0.Head.A1.x1 p0.Head.A1.x2 p0.Head.A1.x3 p0.Head.A1.x4 p0.Head.A1.x5) (A6u8.mk p0.Head.A2.x0 p0.Head.A2.x1 p0.Head.A2.x2 p0.Head.A2.x3 p0.Head.A2.x4 p0.Head.A2.x5) (A6u8.mk p0.Head.A3.x0 p0.Head.A3.x1 p0.Head.A3.x2 p0.Head.A3.x3 p0.Head.A3.x4 p0.Head.A3.x5) (A6u8.mk p0.Head.A4.x0 p0.Head.A4.x1 p0.Head.A4.x2 p0.Head.A4.x3 p0.Head.A4.x4 p0.Head.A4.x5) p0.Head.Seq p0.Head.Frag p0.Head.Tid p0.Head.Ack p0.Head.Amsdu p0.Head.Eosp) ([] ++ p0.Body))
noncomputable def body44_0 : List AV -> Nat -> AR
  | [v0], _ => .pure (aK 41 k_TFrame v0 /\ (F44_0 (g_TFrame (aL v0))).isSome = true) (.agg (.int .u8 (((gt (F44_0 (g_TFrame (aL v0)))).Head).Kind) :: .int .u8 (((gt (F44_0 (g_TFrame (aL v0)))).Head).Sub) :: .bool (((gt (F44_0 (g_TFrame (aL v0)))).Head).ToDs) :: .bool (((gt (F44_0 (g_TFrame (aL v0)))).Head).FromDs) :: .bool (((gt (F44_0 (g_TFrame (aL v0)))).Head).More) :: .bool (((gt (F44_0 (g_TFrame (aL v0)))).Head).Retry) :: .bool (((gt (F44_0 (g_TFrame (aL v0)))).Head).Sleep) :: .bool (((gt (F44_0 (g_TFrame (aL v0)))).Head).MoreData) :: .bool (((gt (F44_0 (g_TFrame (aL v0)))).Head).Protected) :: .int .i64 (((gt (F44_0 (g_TFrame (aL v0)))).Head).Duration) :: .int .u8 ((((gt (F44_0 (g_TFrame (aL v0)))).Head).A1).x0) :: .int .u8 ((((gt (F44_0 (g_TFrame (aL v0)))).Head).A1).x1) :: .int .u8 ((((gt (F44_0 (g_TFrame (aL v0)))).Head).A1).x2) :: .int .u8 ((((gt (F44_0 (g_TFrame (aL v0)))).Head).A1).x3) :: .int .u8 ((((gt (F44_0 (g_TFrame (aL v0)))).Head).A1).x4) :: .int .u8 ((((gt (F44_0 (g_TFrame (aL v0)))).Head).A1).x5) :: .int .u8 ((((gt (F44_0 (g_TFrame (aL v0)))).Head).A2).x0) :: .int .u8 ((((gt (F44_0 (g_TFrame (aL v0)))).Head).A2).x1) :: .int .u8 ((((gt (F44_0 (g_TFrame (aL v0)))).Head).A2).x2) :: .int .u8 ((((gt (F44_0 (g_TFrame (aL v0)))).Head).A2).x3) :: .int .u8 ((((gt (F44_0 (g_TFrame (aL v0)))).Head).A2).x4) :: .int .u8 ((((gt (F44_0 (g_TFrame (aL v0)))).Head).A2).x5) :: .int .u8 ((((gt (F44_0 (g_TFrame (aL v0)))).Head).A3).x0) :: .int .u8 ((((gt (F44_0 (g_TFrame (aL v0)))).Head).A3).x1) :: .int .u8 ((((gt (F44_0 (g_TFrame (aL v0)))).Head).A3).x2) :: .int .u8 ((((gt (F44_0 (g_TFrame (aL v0)))).Head).A3).x3) :: .int .u8 ((((gt (F44_0 (g_TFrame (aL v0)))).Head).A3).x4) :: .int .u8 ((((gt (F44_0 (g_TFrame (aL v0)))).Head).A3).x5) :: .int .u8 ((((gt (F44_0 (g_TFrame (aL v0)))).Head).A4).x0) :: .int .u8 ((((gt (F44_0 (g_TFrame (aL v0)))).Head).A4).x1) :: .int .u8 ((((gt (F44_0 (g_TFrame (aL v0)))).Head).A4).x2) :: .int .u8 ((((gt (F44_0 (g_TFrame (aL v0)))).Head).A4).x3) :: .int .u8 ((((gt (F44_0 (g_TFrame (aL v0)))).Head).A4).x4) :: .int .u8 ((((gt (F44_0 (g_TFrame (aL v0)))).Head).A4).x5) :: .int .i64 (((gt (F44_0 (g_TFrame (aL v0)))).Head).Seq) :: .int .i64 (((gt (F44_0 (g_TFrame (aL v0)))).Head).Frag) :: .int .i64 (((gt (F44_0 (g_TFrame (aL v0)))).Head).Tid) :: .int .u8 (((gt (F44_0 (g_TFrame (aL v0)))).Head).Ack) :: .bool (((gt (F44_0 (g_TFrame (aL v0)))).Head).Amsdu) :: .bool (((gt (F44_0 (g_TFrame (aL v0)))).Head).Eosp) :: .ro 1 (((gt (F44_0 (g_TFrame (aL v0)))).Body).length) false (enR c_u8 ((gt (F44_0 (g_TFrame (aL v0)))).Body)) :: []))
  | _, _ => .fail
set_option maxHeartbeats 4000000 in
set_option maxRecDepth 20000 in
theorem ok44_0 : FnOk Try.prog 44 (genC body44_0) := by
  refine gen_fn body44_0 (rs := [.cell 2 30]) Try.func44 (by kernel_rfl) rfl rfl ?_
  intro l s ob v ns hb hob
  rcases hb with ⟨hb, rfl⟩ | hb
  · unfold body44_0 at hb
    split at hb
    · rename_i v0
      injection hb with q1 q2; subst q1 q2
      obtain ⟨hk0_0, hob⟩ := hob
      obtain ⟨r, H⟩ := Option.isSome_iff_exists.1 hob
      rw [H, gt_some]
      have hw0 := wA_TFrame hk0_0
      generalize g_TFrame (aL v0) = p0 at H hw0
      refine ⟨[.agg (.int .u8 p0.Head.Kind :: .int .u8 p0.Head.Sub :: .bool p0.Head.ToDs :: .bool p0.Head.FromDs :: .bool p0.Head.More :: .bool p0.Head.Retry :: .bool p0.Head.Sleep :: .bool p0.Head.MoreData :: .bool p0.Head.Protected :: .int .i64 p0.Head.Duration :: .int .u8 p0.Head.A1.x0 :: .int .u8 p0.Head.A1.x1 :: .int .u8 p0.Head.A1.x2 :: .int .u8 p0.Head.A1.x3 :: .int .u8 p0.Head.A1.x4 :: .int .u8 p0.Head.A1.x5 :: .int .u8 p0.Head.A2.x0 :: .int .u8 p0.Head.A2.x1 :: .int .u8 p0.Head.A2.x2 :: .int .u8 p0.Head.A2.x3 :: .int .u8 p0.Head.A2.x4 :: .int .u8 p0.Head.A2.x5 :: .int .u8 p0.Head.A3.x0 :: .int .u8 p0.Head.A3.x1 :: .int .u8 p0.Head.A3.x2 :: .int .u8 p0.Head.A3.x3 :: .int .u8 p0.Head.A3.x4 :: .int .u8 p0.Head.A3.x5 :: .int .u8 p0.Head.A4.x0 :: .int .u8 p0.Head.A4.x1 :: .int .u8 p0.Head.A4.x2 :: .int .u8 p0.Head.A4.x3 :: .int .u8 p0.Head.A4.x4 :: .int .u8 p0.Head.A4.x5 :: .int .i64 p0.Head.Seq :: .int .i64 p0.Head.Frag :: .int .i64 p0.Head.Tid :: .int .u8 p0.Head.Ack :: .bool p0.Head.Amsdu :: .bool p0.Head.Eosp :: .ro 1 p0.Body.length false (enR c_u8 p0.Body) :: [])], .agg (.int .u8 r.Head.Kind :: .int .u8 r.Head.Sub :: .bool r.Head.ToDs :: .bool r.Head.FromDs :: .bool r.Head.More :: .bool r.Head.Retry :: .bool r.Head.Sleep :: .bool r.Head.MoreData :: .bool r.Head.Protected :: .int .i64 r.Head.Duration :: .int .u8 r.Head.A1.x0 :: .int .u8 r.Head.A1.x1 :: .int .u8 r.Head.A1.x2 :: .int .u8 r.Head.A1.x3 :: .int .u8 r.Head.A1.x4 :: .int .u8 r.Head.A1.x5 :: .int .u8 r.Head.A2.x0 :: .int .u8 r.Head.A2.x1 :: .int .u8 r.Head.A2.x2 :: .int .u8 r.Head.A2.x3 :: .int .u8 r.Head.A2.x4 :: .int .u8 r.Head.A2.x5 :: .int .u8 r.Head.A3.x0 :: .int .u8 r.Head.A3.x1 :: .int .u8 r.Head.A3.x2 :: .int .u8 r.Head.A3.x3 :: .int .u8 r.Head.A3.x4 :: .int .u8 r.Head.A3.x5 :: .int .u8 r.Head.A4.x0 :: .int .u8 r.Head.A4.x1 :: .int .u8 r.Head.A4.x2 :: .int .u8 r.Head.A4.x3 :: .int .u8 r.Head.A4.x4 :: .int .u8 r.Head.A4.x5 :: .int .i64 r.Head.Seq :: .int .i64 r.Head.Frag :: .int .i64 r.Head.Tid :: .int .u8 r.Head.Ack :: .bool r.Head.Amsdu :: .bool r.Head.Eosp :: .ro 1 r.Body.length false (enR c_u8 r.Body) :: []), [], (fun E vs F => FR_wk1 hw0.1 F (fun vs F => F)), by simp only [ren, renL], trivial, ?_⟩
      rw [Try.ntmps44]
      simp only [List.length_cons, List.length_nil, Nat.reduceAdd, Nat.reduceSub, List.replicate_succ, List.replicate_zero, List.cons_append, List.nil_append]
      unfold F44_0 at H
      try dsimp only at H
      refine sq ctNo_ok ?_
      simp only [go_sem, Nat.reduceLeDiff, Nat.reduceLT, Nat.reduceAdd, Nat.reduceMul, Nat.reduceSub, Nat.reduceEqDiff, Nat.reduceBEq, Int.reduceToNat, reduceCtorEq]
      refine seqM ?_
      obtain ⟨f1, H⟩ := need_some.1 H
      replace f1 := capb_iff.1 f1
      refine rg ctNo_ok ?_
      simp only [go_sem, Nat.reduceLeDiff, Nat.reduceLT, Nat.reduceAdd, Nat.reduceMul, Nat.reduceSub, Nat.reduceEqDiff, Nat.reduceBEq, Int.reduceToNat, reduceCtorEq, f1]
      repeat ((with_reducible refine And.intro ?_ ?_); focus exact an1)
      refine sq ctNo_ok ?_
      simp only [go_sem, Nat.reduceLeDiff, Nat.reduceLT, Nat.reduceAdd, Nat.reduceMul, Nat.reduceSub, Nat.reduceEqDiff, Nat.reduceBEq, Int.reduceToNat, reduceCtorEq]
      repeat ((with_reducible refine And.intro ?_ ?_); focus exact an5)
      refine rg ctNo_ok ?_
      simp only [go_sem, Nat.reduceLeDiff, Nat.reduceLT, Nat.reduceAdd, Nat.reduceMul, Nat.reduceSub, Nat.reduceEqDiff, Nat.reduceBEq, Int.reduceToNat, reduceCtorEq]
      obtain rfl := Option.some.inj H
      refine ⟨[3, 0, 1], ?_, ?_, [], ?_, ?_, rfl⟩
      · simp only [go_sem, Nat.reduceEqDiff, Nat.reduceBEq, Nat.reduceAdd]
        try exact at0
      · simp only [go_sem, Nat.reduceEqDiff, Nat.reduceBEq, Nat.reduceAdd]
        try exact at0
      · simp only [go_sem, Nat.reduceEqDiff, Nat.reduceBEq, Nat.reduceAdd]
        exact (Cv_agg (CvL_cons Cv_int (CvL_cons Cv_int (CvL_cons Cv_bool (CvL_cons Cv_bool (CvL_cons Cv_bool (CvL_cons Cv_bool (CvL_cons Cv_bool (CvL_cons Cv_bool (CvL_cons Cv_bool (CvL_cons Cv_int (CvL_cons Cv_int (CvL_cons Cv_int (CvL_cons Cv_int (CvL_cons Cv_int (CvL_cons Cv_int (CvL_cons Cv_int (CvL_cons Cv_int (CvL_cons Cv_int (CvL_cons Cv_int (CvL_cons Cv_int (CvL_cons Cv_int (CvL_cons Cv_int (CvL_cons Cv_int (CvL_cons Cv_int (CvL_cons Cv_int (CvL_cons Cv_int (CvL_cons Cv_int (CvL_cons Cv_int (CvL_cons Cv_int (CvL_cons Cv_int (CvL_cons Cv_int (CvL_cons Cv_int (CvL_cons Cv_int (CvL_cons Cv_int (CvL_cons Cv_int (CvL_cons Cv_int (CvL_cons Cv_int (CvL_cons Cv_int (CvL_cons Cv_bool (CvL_cons Cv_bool (CvL_cons (ro_row (by first | rfl | simp) (app_row (f := c_u8) [] p0.Body (lit_row (f := c_u8) [] (fun _ _ => rfl) rfl) (fun _ _ _ _ => rfl))) CvL_nil))))))))))))))))))))))))))))))))))))))))))
      · simp only [go_sem, Nat.reduceEqDiff, Nat.reduceBEq, Nat.reduceAdd, CvH]
    · cases hb
  · unfold body44_0 at hb
    split at hb <;> cases hb
/-! hotspot/trigger.Next -/
noncomputable def ct13t0 : Ct := tab [(22, pureC body22)]
theorem ct13t0_ok : CtOk Try.prog ct13t0 := tab_cons ok22 <| tab_nil
theorem ct13t0_22 (l : List AV) (h : List ABlk) : ct13t0 22 l h = pureC body22 l h := rfl
noncomputable def ct13t1 : Ct := tab [(44, genC body44_0)]
theorem ct13t1_ok : CtOk Try.prog ct13t1 := tab_cons ok44_0 <| tab_nil
theorem ct13t1_44 (l : List AV) (h : List ABlk) : ct13t1 44 l h = genC body44_0 l h := rfl
noncomputable def ct13t2 : Ct := tab [(44, edC body44)]
theorem ct13t2_ok : CtOk Try.prog ct13t2 := tab_cons ok44 <| tab_nil
theorem ct13t2_44 (l : List AV) (h : List ABlk) : ct13t2 44 l h = edC body44 l h := rfl
noncomputable def F13_L1 (p0 : TPeriod) (v1_1 : Int) (v1_2 : List TFrame) : Option (Lp (Int × (List TFrame)) ((List TFrame) ⊕ (TFrame × TPeriod × Int))) :=
  bif (bLt v1_1 (p0.Left.length - 1 : Nat)) then (need (inb v1_1 (p0.Left.length - 1)) <| (F44_0 (TFrame.mk (THeader.mk (((gd (p0.Left.drop 1) v1_1.toNat).Head).Kind) (((gd (p0.Left.drop 1) v1_1.toNat).Head).Sub) (((gd (p0.Left.drop 1) v1_1.toNat).Head).ToDs) (((gd (p0.Left.drop 1) v1_1.toNat).Head).FromDs) (((gd (p0.Left.drop 1) v1_1.toNat).Head).More) (((gd (p0.Left.drop 1) v1_1.toNat).Head).Retry) (((gd (p0.Left.drop 1) v1_1.toNat).Head).Sleep) (((gd (p0.Left.drop 1) v1_1.toNat).Head).MoreData) (((gd (p0.Left.drop 1) v1_1.toNat).Head).Protected) (((gd (p0.Left.drop 1) v1_1.toNat).Head).Duration) (A6u8.mk ((((gd (p0.Left.drop 1) v1_1.toNat).Head).A1).x0) ((((gd (p0.Left.drop 1) v1_1.toNat).Head).A1).x1) ((((gd (p0.Left.drop 1) v1_1.toNat).Head).A1).x2) ((((gd (p0.Left.drop 1) v1_1.toNat).Head).A1).x3) ((((gd (p0.Left.drop 1) v1_1.toNat).Head).A1).x4) ((((gd (p0.Left.drop 1) v1_1.toNat).Head).A1).x5)) (A6u8.mk ((((gd (p0.Left.drop 1) v1_1.toNat).Head).A2).x0) ((((gd (p0.Left.drop 1) v1_1.toNat).Head).A2).x1) ((((gd (p0.Left.drop 1) v1_1.toNat).Head).A2).x2) ((((gd (p0.Left.drop 1) v1_1.toNat).Head).A2).x3) ((((gd (p0.Left.drop 1) v1_1.toNat).Head).A2).x4) ((((gd (p0.Left.drop 1) v1_1.toNat).Head).A2).x5)) (A6u8.mk ((((gd (p0.Left.drop 1) v1_1.toNat).Head).A3).x0) ((((gd (p0.Left.drop 1) v1_1.toNat).Head).A3).x1) ((((gd (p0.Left.drop 1) v1_1.toNat).Head).A3).x2) ((((gd (p0.Left.drop 1) v1_1.toNat).Head).A3).x3) ((((gd (p0.Left.drop 1) v1_1.toNat).Head).A3).x4) ((((gd (p0.Left.drop 1) v1_1.toNat).Head).A3).x5)) (A6u8.mk ((((gd (p0.Left.drop 1) v1_1.toNat).Head).A4).x0) ((((gd (p0.Left.drop 1) v1_1.toNat).Head).A4).x1) ((((gd (p0.Left.drop 1) v1_1.toNat).Head).A4).x2) ((((gd (p0.Left.drop 1) v1_1.toNat).Head).A4).x3) ((((gd (p0.Left.drop 1) v1_1.toNat).Head).A4).x4) ((((gd (p0.Left.drop 1) v1_1.toNat).Head).A4).x5)) (((gd (p0.Left.drop 1) v1_1.toNat).Head).Seq) (((gd (p0.Left.drop 1) v1_1.toNat).Head).Frag) (((gd (p0.Left.drop 1) v1_1.toNat).Head).Tid) (((gd (p0.Left.drop 1) v1_1.toNat).Head).Ack) (((gd (p0.Left.drop 1) v1_1.toNat).Head).Amsdu) (((gd (p0.Left.drop 1) v1_1.toNat).Head).Eosp)) ((gd (p0.Left.drop 1) v1_1.toNat).Body))).bind fun r8 => need (capb 104 (v1_2.length + 1)) <| some (.next (wr .i64 (v1_1 + 1), (v1_2 ++ [r8])))) else (some (.done (.inl v1_2)))
noncomputable def F13 (p0 : TPeriod) : Option (TFrame × TPeriod × Int) :=
  (F22 p0).bind fun r1 => bif (!bEq r1 0) then (some ((TFrame.mk (THeader.mk 0 0 false false false false false false false 0 (A6u8.mk 0 0 0 0 0 0) (A6u8.mk 0 0 0 0 0 0) (A6u8.mk 0 0 0 0 0 0) (A6u8.mk 0 0 0 0 0 0) 0 0 0 0 false false) []), (TPeriod.mk 0 []), r1)) else (bif (bEq (p0.Left.length : Nat) 0) then (some ((TFrame.mk (THeader.mk 0 0 false false false false false false false 0 (A6u8.mk 0 0 0 0 0 0) (A6u8.mk 0 0 0 0 0 0) (A6u8.mk 0 0 0 0 0 0) (A6u8.mk 0 0 0 0 0 0) 0 0 0 0 false false) []), (TPeriod.mk 0 []), 6)) else (need (slb 1 (p0.Left.length : Nat) p0.Left.length) <| lp (loopD (fun s => F13_L1 p0 s.1 s.2) (0, [])) (fun w1_3 => need (inb 0 p0.Left.length) <| (F44 (TFrame.mk (THeader.mk (((gd p0.Left 0).Head).Kind) (((gd p0.Left 0).Head).Sub) (((gd p0.Left 0).Head).ToDs) (((gd p0.Left 0).Head).FromDs) (((gd p0.Left 0).Head).More) (((gd p0.Left 0).Head).Retry) (((gd p0.Left 0).Head).Sleep) (((gd p0.Left 0).Head).MoreData) (((gd p0.Left 0).Head).Protected) (((gd p0.Left 0).Head).Duration) (A6u8.mk ((((gd p0.Left 0).Head).A1).x0) ((((gd p0.Left 0).Head).A1).x1) ((((gd p0.Left 0).Head).A1).x2) ((((gd p0.Left 0).Head).A1).x3) ((((gd p0.Left 0).Head).A1).x4) ((((gd p0.Left 0).Head).A1).x5)) (A6u8.mk ((((gd p0.Left 0).Head).A2).x0) ((((gd p0.Left 0).Head).A2).x1) ((((gd p0.Left 0).Head).A2).x2) ((((gd p0.Left 0).Head).A2).x3) ((((gd p0.Left 0).Head).A2).x4) ((((gd p0.Left 0).Head).A2).x5)) (A6u8.mk ((((gd p0.Left 0).Head).A3).x0) ((((gd p0.Left 0).Head).A3).x1) ((((gd p0.Left 0).Head).A3).x2) ((((gd p0.Left 0).Head).A3).x3) ((((gd p0.Left 0).Head).A3).x4) ((((gd p0.Left 0).Head).A3).x5)) (A6u8.mk ((((gd p0.Left 0).Head).A4).x0) ((((gd p0.Left 0).Head).A4).x1) ((((gd p0.Left 0).Head).A4).x2) ((((gd p0.Left 0).Head).A4).x3) ((((gd p0.Left 0).Head).A4).x4) ((((gd p0.Left 0).Head).A4).x5)) (((gd p0.Left 0).Head).Seq) (((gd p0.Left 0).Head).Frag) (((gd p0.Left 0).Head).Tid) (((gd p0.Left 0).Head).Ack) (((gd p0.Left 0).Head).Amsdu) (((gd p0.Left 0).Head).Eosp)) ((gd p0.Left 0).Body))).bind fun r12 => some ((TFrame.mk (THeader.mk r12.Head.Kind r12.Head.Sub r12.Head.ToDs r12.Head.FromDs r12.Head.More r12.Head.Retry r12.Head.Sleep r12.Head.MoreData r12.Head.Protected r12.Head.Duration (A6u8.mk r12.Head.A1.x0 r12.Head.A1.x1 r12.Head.A1.x2 r12.Head.A1.x3 r12.Head.A1.x4 r12.Head.A1.x5) (A6u8.mk r12.Head.A2.x0 r12.Head.A2.x1 r12.Head.A2.x2 r12.Head.A2.x3 r12.Head.A2.x4 r12.Head.A2.x5) (A6u8.mk r12.Head.A3.x0 r12.Head.A3.x1 r12.Head.A3.x2 r12.Head.A3.x3 r12.Head.A3.x4 r12.Head.A3.x5) (A6u8.mk r12.Head.A4.x0 r12.Head.A4.x1 r12.Head.A4.x2 r12.Head.A4.x3 r12.Head.A4.x4 r12.Head.A4.x5) r12.Head.Seq r12.Head.Frag r12.Head.Tid r12.Head.Ack r12.Head.Amsdu r12.Head.Eosp) r12.Body), (TPeriod.mk p0.Aid w1_3), 0)) some))
noncomputable def body13 : List AV -> Nat -> AR
  | [v0], _ => .pure (aK 2 k_TPeriod v0 /\ (F13 (g_TPeriod (aL v0))).isSome = true) (.tup [.agg (.int .u8 ((((gt (F13 (g_TPeriod (aL v0)))).1).Head).Kind) :: .int .u8 ((((gt (F13 (g_TPeriod (aL v0)))).1).Head).Sub) :: .bool ((((gt (F13 (g_TPeriod (aL v0)))).1).Head).ToDs) :: .bool ((((gt (F13 (g_TPeriod (aL v0)))).1).Head).FromDs) :: .bool ((((gt (F13 (g_TPeriod (aL v0)))).1).Head).More) :: .bool ((((gt (F13 (g_TPeriod (aL v0)))).1).Head).Retry) :: .bool ((((gt (F13 (g_TPeriod (aL v0)))).1).Head).Sleep) :: .bool ((((gt (F13 (g_TPeriod (aL v0)))).1).Head).MoreData) :: .bool ((((gt (F13 (g_TPeriod (aL v0)))).1).Head).Protected) :: .int .i64 ((((gt (F13 (g_TPeriod (aL v0)))).1).Head).Duration) :: .int .u8 (((((gt (F13 (g_TPeriod (aL v0)))).1).Head).A1).x0) :: .int .u8 (((((gt (F13 (g_TPeriod (aL v0)))).1).Head).A1).x1) :: .int .u8 (((((gt (F13 (g_TPeriod (aL v0)))).1).Head).A1).x2) :: .int .u8 (((((gt (F13 (g_TPeriod (aL v0)))).1).Head).A1).x3) :: .int .u8 (((((gt (F13 (g_TPeriod (aL v0)))).1).Head).A1).x4) :: .int .u8 (((((gt (F13 (g_TPeriod (aL v0)))).1).Head).A1).x5) :: .int .u8 (((((gt (F13 (g_TPeriod (aL v0)))).1).Head).A2).x0) :: .int .u8 (((((gt (F13 (g_TPeriod (aL v0)))).1).Head).A2).x1) :: .int .u8 (((((gt (F13 (g_TPeriod (aL v0)))).1).Head).A2).x2) :: .int .u8 (((((gt (F13 (g_TPeriod (aL v0)))).1).Head).A2).x3) :: .int .u8 (((((gt (F13 (g_TPeriod (aL v0)))).1).Head).A2).x4) :: .int .u8 (((((gt (F13 (g_TPeriod (aL v0)))).1).Head).A2).x5) :: .int .u8 (((((gt (F13 (g_TPeriod (aL v0)))).1).Head).A3).x0) :: .int .u8 (((((gt (F13 (g_TPeriod (aL v0)))).1).Head).A3).x1) :: .int .u8 (((((gt (F13 (g_TPeriod (aL v0)))).1).Head).A3).x2) :: .int .u8 (((((gt (F13 (g_TPeriod (aL v0)))).1).Head).A3).x3) :: .int .u8 (((((gt (F13 (g_TPeriod (aL v0)))).1).Head).A3).x4) :: .int .u8 (((((gt (F13 (g_TPeriod (aL v0)))).1).Head).A3).x5) :: .int .u8 (((((gt (F13 (g_TPeriod (aL v0)))).1).Head).A4).x0) :: .int .u8 (((((gt (F13 (g_TPeriod (aL v0)))).1).Head).A4).x1) :: .int .u8 (((((gt (F13 (g_TPeriod (aL v0)))).1).Head).A4).x2) :: .int .u8 (((((gt (F13 (g_TPeriod (aL v0)))).1).Head).A4).x3) :: .int .u8 (((((gt (F13 (g_TPeriod (aL v0)))).1).Head).A4).x4) :: .int .u8 (((((gt (F13 (g_TPeriod (aL v0)))).1).Head).A4).x5) :: .int .i64 ((((gt (F13 (g_TPeriod (aL v0)))).1).Head).Seq) :: .int .i64 ((((gt (F13 (g_TPeriod (aL v0)))).1).Head).Frag) :: .int .i64 ((((gt (F13 (g_TPeriod (aL v0)))).1).Head).Tid) :: .int .u8 ((((gt (F13 (g_TPeriod (aL v0)))).1).Head).Ack) :: .bool ((((gt (F13 (g_TPeriod (aL v0)))).1).Head).Amsdu) :: .bool ((((gt (F13 (g_TPeriod (aL v0)))).1).Head).Eosp) :: .ro 1 ((((gt (F13 (g_TPeriod (aL v0)))).1).Body).length) false (enR c_u8 (((gt (F13 (g_TPeriod (aL v0)))).1).Body)) :: []), .agg [.int .i64 (((gt (F13 (g_TPeriod (aL v0)))).2.1).Aid), .ro 41 ((((gt (F13 (g_TPeriod (aL v0)))).2.1).Left).length) false (enR c_TFrame (((gt (F13 (g_TPeriod (aL v0)))).2.1).Left))], .int .i64 ((gt (F13 (g_TPeriod (aL v0)))).2.2)])
  | _, _ => .fail
set_option maxHeartbeats 4000000 in
set_option maxRecDepth 20000 in
theorem ok13 : FnOk Try.prog 13 (genC body13) := by
  refine gen_fn body13 (rs := [.cell 2 30, .cell 3 33, .tmp 4]) Try.func13 (by kernel_rfl) rfl rfl ?_
  intro l s ob v ns hb hob
  rcases hb with ⟨hb, rfl⟩ | hb
  · unfold body13 at hb
    split at hb
    · rename_i v0
      injection hb with q1 q2; subst q1 q2
      obtain ⟨hk0_0, hob⟩ := hob
      obtain ⟨r, H⟩ := Option.isSome_iff_exists.1 hob
      rw [H, gt_some]
      have hw0 := wA_TPeriod hk0_0
      generalize g_TPeriod (aL v0) = p0 at H hw0
      refine ⟨[.agg [.int .i64 p0.Aid, .ro 41 p0.Left.length false (enR c_TFrame p0.Left)]], .tup [.agg (.int .u8 r.1.Head.Kind :: .int .u8 r.1.Head.Sub :: .bool r.1.Head.ToDs :: .bool r.1.Head.FromDs :: .bool r.1.Head.More :: .bool r.1.Head.Retry :: .bool r.1.Head.Sleep :: .bool r.1.Head.MoreData :: .bool r.1.Head.Protected :: .int .i64 r.1.Head.Duration :: .int .u8 r.1.Head.A1.x0 :: .int .u8 r.1.Head.A1.x1 :: .int .u8 r.1.Head.A1.x2 :: .int .u8 r.1.Head.A1.x3 :: .int .u8 r.1.Head.A1.x4 :: .int .u8 r.1.Head.A1.x5 :: .int .u8 r.1.Head.A2.x0 :: .int .u8 r.1.Head.A2.x1 :: .int .u8 r.1.Head.A2.x2 :: .int .u8 r.1.Head.A2.x3 :: .int .u8 r.1.Head.A2.x4 :: .int .u8 r.1.Head.A2.x5 :: .int .u8 r.1.Head.A3.x0 :: .int .u8 r.1.Head.A3.x1 :: .int .u8 r.1.Head.A3.x2 :: .int .u8 r.1.Head.A3.x3 :: .int .u8 r.1.Head.A3.x4 :: .int .u8 r.1.Head.A3.x5 :: .int .u8 r.1.Head.A4.x0 :: .int .u8 r.1.Head.A4.x1 :: .int .u8 r.1.Head.A4.x2 :: .int .u8 r.1.Head.A4.x3 :: .int .u8 r.1.Head.A4.x4 :: .int .u8 r.1.Head.A4.x5 :: .int .i64 r.1.Head.Seq :: .int .i64 r.1.Head.Frag :: .int .i64 r.1.Head.Tid :: .int .u8 r.1.Head.Ack :: .bool r.1.Head.Amsdu :: .bool r.1.Head.Eosp :: .ro 1 r.1.Body.length false (enR c_u8 r.1.Body) :: []), .agg [.int .i64 r.2.1.Aid, .ro 41 r.2.1.Left.length false (enR c_TFrame r.2.1.Left)], .int .i64 r.2.2], [], (fun E vs F => FR_wk1 hw0.1 F (fun vs F => F)), by simp only [ren, renL], trivial, ?_⟩
      rw [Try.ntmps13]
      simp only [List.length_cons, List.length_nil, Nat.reduceAdd, Nat.reduceSub, List.replicate_succ, List.replicate_zero, List.cons_append, List.nil_append]
      unfold F13 at H
      try dsimp only at H
      refine sq ctNo_ok ?_
      simp only [go_sem, Nat.reduceLeDiff, Nat.reduceLT, Nat.reduceAdd, Nat.reduceMul, Nat.reduceSub, Nat.reduceEqDiff, Nat.reduceBEq, Int.reduceToNat, reduceCtorEq]
      refine seqM ?_
      refine seqM ?_
      obtain ⟨r1, e2, H⟩ := bsi H
      refine rg ct13t0_ok ?_
      simp only [go_sem, Nat.reduceLeDiff, Nat.reduceLT, Nat.reduceAdd, Nat.reduceMul, Nat.reduceSub, Nat.reduceEqDiff, Nat.reduceBEq, Int.reduceToNat, reduceCtorEq, ct13t0_22, body22, e2]
      repeat ((with_reducible refine And.intro ?_ ?_); focus exact an0)
      refine sq ctNo_ok ?_
      simp only [go_sem, Nat.reduceLeDiff, Nat.reduceLT, Nat.reduceAdd, Nat.reduceMul, Nat.reduceSub, Nat.reduceEqDiff, Nat.reduceBEq, Int.reduceToNat, reduceCtorEq]
      refine condM rfl trivial (fun hc => ?_) (fun hc => ?_)
      · have hk3 : (bEq r1 0) = false := by simpa using hc
        replace H := cond_t hc H
        refine sq ctNo_ok ?_
        simp only [go_sem, Nat.reduceLeDiff, Nat.reduceLT, Nat.reduceAdd, Nat.reduceMul, Nat.reduceSub, Nat.reduceEqDiff, Nat.reduceBEq, Int.reduceToNat, reduceCtorEq]
        repeat ((with_reducible refine And.intro ?_ ?_); focus exact an5)
        refine rg ctNo_ok ?_
        simp only [go_sem, Nat.reduceLeDiff, Nat.reduceLT, Nat.reduceAdd, Nat.reduceMul, Nat.reduceSub, Nat.reduceEqDiff, Nat.reduceBEq, Int.reduceToNat, reduceCtorEq]
        obtain rfl := Option.some.inj H
        refine ⟨[0, 1, 2], ?_, ?_, [], ?_, ?_, rfl⟩
        · simp only [go_sem, Nat.reduceEqDiff, Nat.reduceBEq, Nat.reduceAdd]
          try exact at0
        · simp only [go_sem, Nat.reduceEqDiff, Nat.reduceBEq, Nat.reduceAdd]
          try exact at0
        · simp only [go_sem, Nat.reduceEqDiff, Nat.reduceBEq, Nat.reduceAdd]
          exact Cv_tup (CvL_cons (Cv_agg (CvL_cons Cv_int (CvL_cons Cv_int (CvL_cons Cv_bool (CvL_cons Cv_bool (CvL_cons Cv_bool (CvL_cons Cv_bool (CvL_cons Cv_bool (CvL_cons Cv_bool (CvL_cons Cv_bool (CvL_cons Cv_int (CvL_cons Cv_int (CvL_cons Cv_int (CvL_cons Cv_int (CvL_cons Cv_int (CvL_cons Cv_int (CvL_cons Cv_int (CvL_cons Cv_int (CvL_cons Cv_int (CvL_cons Cv_int (CvL_cons Cv_int (CvL_cons Cv_int (CvL_cons Cv_int (CvL_cons Cv_int (CvL_cons Cv_int (CvL_cons Cv_int (CvL_cons Cv_int (CvL_cons Cv_int (CvL_cons Cv_int (CvL_cons Cv_int (CvL_cons Cv_int (CvL_cons Cv_int (CvL_cons Cv_int (CvL_cons Cv_int (CvL_cons Cv_int (CvL_cons Cv_int (CvL_cons Cv_int (CvL_cons Cv_int (CvL_cons Cv_int (CvL_cons Cv_bool (CvL_cons Cv_bool (CvL_cons (Cv_ronil (α := Int)) CvL_nil)))))))))))))))))))))))))))))))))))))))))) (CvL_cons (Cv_agg (CvL_cons Cv_int (CvL_cons (Cv_ronil (α := TFrame)) CvL_nil))) (CvL_cons Cv_int CvL_nil)))
        · simp only [go_sem, Nat.reduceEqDiff, Nat.reduceBEq, Nat.reduceAdd, CvH]
      have hk3 : (bEq r1 0) = true := by simpa using hc
      replace H := cond_f hc H
      refine rg ctNo_ok ?_
      simp only [go_sem, Nat.reduceLeDiff, Nat.reduceLT, Nat.reduceAdd, Nat.reduceMul, Nat.reduceSub, Nat.reduceEqDiff, Nat.reduceBEq, Int.reduceToNat, reduceCtorEq]
      refine seqM ?_
      refine sq ctNo_ok ?_
      simp only [go_sem, Nat.reduceLeDiff, Nat.reduceLT, Nat.reduceAdd, Nat.reduceMul, Nat.reduceSub, Nat.reduceEqDiff, Nat.reduceBEq, Int.reduceToNat, reduceCtorEq]
      repeat ((with_reducible refine And.intro ?_ ?_); focus exact an0)
      refine condM rfl trivial (fun hc => ?_) (fun hc => ?_)
      · have hk4 : (bEq (p0.Left.length : Nat) 0) = true := by simpa using hc
        replace H := cond_t hc H
        refine sq ctNo_ok ?_
        simp only [go_sem, Nat.reduceLeDiff, Nat.reduceLT, Nat.reduceAdd, Nat.reduceMul, Nat.reduceSub, Nat.reduceEqDiff, Nat.reduceBEq, Int.reduceToNat, reduceCtorEq]
        repeat ((with_reducible refine And.intro ?_ ?_); focus exact an5)
        refine rg ctNo_ok ?_
        simp only [go_sem, Nat.reduceLeDiff, Nat.reduceLT, Nat.reduceAdd, Nat.reduceMul, Nat.reduceSub, Nat.reduceEqDiff, Nat.reduceBEq, Int.reduceToNat, reduceCtorEq]
        obtain rfl := Option.some.inj H
        refine ⟨[0, 1, 2], ?_, ?_, [], ?_, ?_, rfl⟩
        · simp only [go_sem, Nat.reduceEqDiff, Nat.reduceBEq, Nat.reduceAdd]
          try exact at0
        · simp only [go_sem, Nat.reduceEqDiff, Nat.reduceBEq, Nat.reduceAdd]
          try exact at0
        · simp only [go_sem, Nat.reduceEqDiff, Nat.reduceBEq, Nat.reduceAdd]
          exact Cv_tup (CvL_cons (Cv_agg (CvL_cons Cv_int (CvL_cons Cv_int (CvL_cons Cv_bool (CvL_cons Cv_bool (CvL_cons Cv_bool (CvL_cons Cv_bool (CvL_cons Cv_bool (CvL_cons Cv_bool (CvL_cons Cv_bool (CvL_cons Cv_int (CvL_cons Cv_int (CvL_cons Cv_int (CvL_cons Cv_int (CvL_cons Cv_int (CvL_cons Cv_int (CvL_cons Cv_int (CvL_cons Cv_int (CvL_cons Cv_int (CvL_cons Cv_int (CvL_cons Cv_int (CvL_cons Cv_int (CvL_cons Cv_int (CvL_cons Cv_int (CvL_cons Cv_int (CvL_cons Cv_int (CvL_cons Cv_int (CvL_cons Cv_int (CvL_cons Cv_int (CvL_cons Cv_int (CvL_cons Cv_int (CvL_cons Cv_int (CvL_cons Cv_int (CvL_cons Cv_int (CvL_cons Cv_int (CvL_cons Cv_int (CvL_cons Cv_int (CvL_cons Cv_int (CvL_cons Cv_int (CvL_cons Cv_bool (CvL_cons Cv_bool (CvL_cons (Cv_ronil (α := Int)) CvL_nil)))))))))))))))))))))))))))))))))))))))))) (CvL_cons (Cv_agg (CvL_cons Cv_int (CvL_cons (Cv_ronil (α := TFrame)) CvL_nil))) (CvL_cons Cv_int CvL_nil)))
        · simp only [go_sem, Nat.reduceEqDiff, Nat.reduceBEq, Nat.reduceAdd, CvH]
      have hk4 : (bEq (p0.Left.length : Nat) 0) = false := by simpa using hc
      replace H := cond_f hc H
      refine rg ctNo_ok ?_
      simp only [go_sem, Nat.reduceLeDiff, Nat.reduceLT, Nat.reduceAdd, Nat.reduceMul, Nat.reduceSub, Nat.reduceEqDiff, Nat.reduceBEq, Int.reduceToNat, reduceCtorEq]
      refine sq ctNo_ok ?_
      simp only [go_sem, Nat.reduceLeDiff, Nat.reduceLT, Nat.reduceAdd, Nat.reduceMul, Nat.reduceSub, Nat.reduceEqDiff, Nat.reduceBEq, Int.reduceToNat, reduceCtorEq]
      repeat ((with_reducible refine And.intro ?_ ?_); focus exact an5)
      refine seqM ?_
      refine seqM ?_
      obtain ⟨f5, H⟩ := need_some.1 H
      replace f5 := slb_iff.1 f5
      refine rg ctNo_ok ?_
      simp only [go_sem, Nat.reduceLeDiff, Nat.reduceLT, Nat.reduceAdd, Nat.reduceMul, Nat.reduceSub, Nat.reduceEqDiff, Nat.reduceBEq, Int.reduceToNat, reduceCtorEq, f5]
      repeat ((with_reducible refine And.intro ?_ ?_); focus exact an0)
      refine blkM ?_
      refine loop_den (fun s : Int × (List TFrame) => (.top :: .ptr 0 0 0 0 :: .ptr 1 0 0 0 :: .ptr 2 0 0 0 :: tp 22 (.ro 41 (p0.Left.length - 1) false (enR c_TFrame (p0.Left.drop 1)) :: .int .i64 (p0.Left.length - 1 : Nat) :: .int .i64 s.1 :: tp 17 []))) (fun s => [.lit 33 [.int .i64 p0.Aid, .ro 41 p0.Left.length false (enR c_TFrame p0.Left)], .lit 30 (.int .u8 0 :: .int .u8 0 :: .bool false :: .bool false :: .bool false :: .bool false :: .bool false :: .bool false :: .bool false :: .int .i64 0 :: .int .u8 0 :: .int .u8 0 :: .int .u8 0 :: .int .u8 0 :: .int .u8 0 :: .int .u8 0 :: .int .u8 0 :: .int .u8 0 :: .int .u8 0 :: .int .u8 0 :: .int .u8 0 :: .int .u8 0 :: .int .u8 0 :: .int .u8 0 :: .int .u8 0 :: .int .u8 0 :: .int .u8 0 :: .int .u8 0 :: .int .u8 0 :: .int .u8 0 :: .int .u8 0 :: .int .u8 0 :: .int .u8 0 :: .int .u8 0 :: .int .i64 0 :: .int .i64 0 :: .int .i64 0 :: .int .u8 0 :: .bool false :: .bool false :: .ro 0 0 true (fun _ _ => .top) :: []), .lit 33 [.int .i64 p0.Aid, .sl 3 41 0 s.2.length false], .row 30 41 s.2.length (enR c_TFrame s.2)]) (fun e : List TFrame => (.top :: .ptr 0 0 0 0 :: .ptr 1 0 0 0 :: .ptr 2 0 0 0 :: tp 42 [])) (fun e => [.lit 33 [.int .i64 p0.Aid, .ro 41 p0.Left.length false (enR c_TFrame p0.Left)], .lit 30 (.int .u8 0 :: .int .u8 0 :: .bool false :: .bool false :: .bool false :: .bool false :: .bool false :: .bool false :: .bool false :: .int .i64 0 :: .int .u8 0 :: .int .u8 0 :: .int .u8 0 :: .int .u8 0 :: .int .u8 0 :: .int .u8 0 :: .int .u8 0 :: .int .u8 0 :: .int .u8 0 :: .int .u8 0 :: .int .u8 0 :: .int .u8 0 :: .int .u8 0 :: .int .u8 0 :: .int .u8 0 :: .int .u8 0 :: .int .u8 0 :: .int .u8 0 :: .int .u8 0 :: .int .u8 0 :: .int .u8 0 :: .int .u8 0 :: .int .u8 0 :: .int .u8 0 :: .int .i64 0 :: .int .i64 0 :: .int .i64 0 :: .int .u8 0 :: .bool false :: .bool false :: .ro 0 0 true (fun _ _ => .top) :: []), .lit 33 [.int .i64 p0.Aid, .sl 3 41 0 e.length false], .row 30 41 e.length (enR c_TFrame e)]) H ?_ (fun s o H hn1_1 hn2_1 => ?_) (fun w1_3 H => ?_)
      · refine SubF_of ⟨[some 0, some 1, some 2, none], ?_, ?_, by rfl, by rfl⟩
        · simp [CvL, Cv, getM, tp, tp, tpg, t8]
        · exact ⟨cv, cv, cv, CvB_none, trivial⟩
      · obtain ⟨v1_1, v1_2⟩ := s
        unfold F13_L1 at H
        try dsimp only at H ⊢
        try simp only [tp]
        refine sq ctNo_ok ?_
        simp only [go_sem, Nat.reduceLeDiff, Nat.reduceLT, Nat.reduceAdd, Nat.reduceMul, Nat.reduceSub, Nat.reduceEqDiff, Nat.reduceBEq, Int.reduceToNat, reduceCtorEq]
        refine seqM ?_
        refine condM' rfl trivial (fun hc => ?_) (fun hc => ?_)
        · have hk6 : (bLt v1_1 (p0.Left.length - 1 : Nat)) = false := by simpa using hc
          replace H := cond_f hc H
          refine rg ctNo_ok ?_
          simp only [go_sem, Nat.reduceLeDiff, Nat.reduceLT, Nat.reduceAdd, Nat.reduceMul, Nat.reduceSub, Nat.reduceEqDiff, Nat.reduceBEq, Int.reduceToNat, reduceCtorEq]
          refine ⟨_, (Option.some.inj H).symm, ?_⟩
          refine SubF_of ⟨[some 0, some 1, some 2, some 3], ?_, ?_, by rfl, by rfl⟩
          · simp [CvL, Cv, getM, tp, tp, tpg, t8]
          · exact ⟨cv, cv, cv, CvB_row nr_TFrame cl (fun _ _ _ _ => rfl), trivial⟩
        have hk6 : (bLt v1_1 (p0.Left.length - 1 : Nat)) = true := by simpa using hc
        replace H := cond_t hc H
        refine rg ctNo_ok ?_
        simp only [go_sem, Nat.reduceLeDiff, Nat.reduceLT, Nat.reduceAdd, Nat.reduceMul, Nat.reduceSub, Nat.reduceEqDiff, Nat.reduceBEq, Int.reduceToNat, reduceCtorEq]
        refine seqM ?_
        refine blkM ?_
        refine seqM ?_
        obtain ⟨f7, H⟩ := need_some.1 H
        replace f7 := inb_iff.1 f7
        refine rg ctNo_ok ?_
        simp only [go_sem, Nat.reduceLeDiff, Nat.reduceLT, Nat.reduceAdd, Nat.reduceMul, Nat.reduceSub, Nat.reduceEqDiff, Nat.reduceBEq, Int.reduceToNat, reduceCtorEq, f7]
        repeat ((with_reducible refine And.intro ?_ ?_); focus exact an5)
        obtain ⟨r8, e9, H⟩ := bsi H
        obtain ⟨f10, H⟩ := need_some.1 H
        replace f10 := capb_iff.1 f10
        refine draw_rule shT_ok ct13t1_ok 2 (by kernel_rfl) (by kernel_rfl) ?_
        intro an han
        simp only [d_nil, d_cons, nxtD, xrD, xoD, roEq, minL, List.append_nil, refsOp, refs, refsL, mask, maskF, place, placeF, okLog, pairOk, hit, inL, slotsF, ren, renL, rnN, nrH, nrB, nrL, nr, dead0, deadS, List.replicate_zero, List.replicate_succ, Nat.sub_self, Nat.add_zero, Nat.zero_add, Nat.reduceSub, Nat.not_lt_zero, Nat.zero_le, Nat.lt_add_one, go_sem, Nat.reduceLeDiff, Nat.reduceLT, Nat.reduceAdd, Nat.reduceMul, Nat.reduceSub, Nat.reduceEqDiff, Nat.reduceBEq, Int.reduceToNat, reduceCtorEq, ct13t1_44, body44_0, e9, f10]
        repeat ((with_reducible refine And.intro ?_ ?_); focus exact an3)
        refine rg ctNo_ok ?_
        simp only [go_sem, Nat.reduceLeDiff, Nat.reduceLT, Nat.reduceAdd, Nat.reduceMul, Nat.reduceSub, Nat.reduceEqDiff, Nat.reduceBEq, Int.reduceToNat, reduceCtorEq]
        refine ⟨_, (Option.some.inj H).symm, ?_⟩
        refine SubF_of ⟨[some 0, some 1, some 2, some 6], ?_, ?_, by rfl, by rfl⟩
        · simp [CvL, Cv, getM, tp, tp, tpg, t8]
        · exact ⟨cv, cv, cv, CvB_row nr_TFrame cl (app_row (f := c_TFrame) v1_2 [r8] (fun _ _ _ _ => rfl) (lit_row (f := c_TFrame) [r8] (fun _ _ => rfl) rfl)), trivial⟩
      · try dsimp only at H ⊢
        try simp only [tp]
        try simp only [m_normal, k_normal, b_normal, kL_normal, r_normal]
        refine seqM ?_
        obtain ⟨f11, H⟩ := need_some.1 H
        replace f11 := inb_iff.1 f11
        obtain ⟨r12, e13, H⟩ := bsi H
        refine draw_rule shT_ok ct13t2_ok 1 (by kernel_rfl) (by kernel_rfl) ?_
        intro an han
        simp only [d_nil, d_cons, nxtD, xrD, xoD, roEq, minL, List.append_nil, refsOp, refs, refsL, mask, maskF, place, placeF, okLog, pairOk, hit, inL, slotsF, ren, renL, rnN, nrH, nrB, nrL, nr, dead0, deadS, List.replicate_zero, List.replicate_succ, Nat.sub_self, Nat.add_zero, Nat.zero_add, Nat.reduceSub, Nat.not_lt_zero, Nat.zero_le, Nat.lt_add_one, go_sem, Nat.reduceLeDiff, Nat.reduceLT, Nat.reduceAdd, Nat.reduceMul, Nat.reduceSub, Nat.reduceEqDiff, Nat.reduceBEq, Int.reduceToNat, reduceCtorEq, ct13t2_44, body44, f11, e13]
        repeat ((with_reducible refine And.intro ?_ ?_); focus exact an6)
        refine rg ctNo_ok ?_
        simp only [go_sem, Nat.reduceLeDiff, Nat.reduceLT, Nat.reduceAdd, Nat.reduceMul, Nat.reduceSub, Nat.reduceEqDiff, Nat.reduceBEq, Int.reduceToNat, reduceCtorEq]
        obtain rfl := Option.some.inj H
        refine ⟨[4, 3, 0, 1, 2], ?_, ?_, [], ?_, ?_, rfl⟩
        · simp only [go_sem, Nat.reduceEqDiff, Nat.reduceBEq, Nat.reduceAdd]
          try exact at0
        · simp only [go_sem, Nat.reduceEqDiff, Nat.reduceBEq, Nat.reduceAdd]
          try exact at0
        · simp only [go_sem, Nat.reduceEqDiff, Nat.reduceBEq, Nat.reduceAdd]
          exact Cv_tup (CvL_cons (Cv_agg (CvL_cons Cv_int (CvL_cons Cv_int (CvL_cons Cv_bool (CvL_cons Cv_bool (CvL_cons Cv_bool (CvL_cons Cv_bool (CvL_cons Cv_bool (CvL_cons Cv_bool (CvL_cons Cv_bool (CvL_cons Cv_int (CvL_cons Cv_int (CvL_cons Cv_int (CvL_cons Cv_int (CvL_cons Cv_int (CvL_cons Cv_int (CvL_cons Cv_int (CvL_cons Cv_int (CvL_cons Cv_int (CvL_cons Cv_int (CvL_cons Cv_int (CvL_cons Cv_int (CvL_cons Cv_int (CvL_cons Cv_int (CvL_cons Cv_int (CvL_cons Cv_int (CvL_cons Cv_int (CvL_cons Cv_int (CvL_cons Cv_int (CvL_cons Cv_int (CvL_cons Cv_int (CvL_cons Cv_int (CvL_cons Cv_int (CvL_cons Cv_int (CvL_cons Cv_int (CvL_cons Cv_int (CvL_cons Cv_int (CvL_cons Cv_int (CvL_cons Cv_int (CvL_cons Cv_bool (CvL_cons Cv_bool (CvL_cons (ro_row (by first | rfl | simp) (fun _ _ _ _ => rfl)) CvL_nil)))))))))))))))))))))))))))))))))))))))))) (CvL_cons (Cv_agg (CvL_cons Cv_int (CvL_cons (ro_row (by first | rfl | simp) (fun _ _ _ _ => rfl)) CvL_nil))) (CvL_cons Cv_int CvL_nil)))
        · simp only [go_sem, Nat.reduceEqDiff, Nat.reduceBEq, Nat.reduceAdd, CvH]
    · cases hb
  · unfold body13 at hb
    split at hb <;> cases hb
/-! hotspot/trigger.Map$1 -/
noncomputable def F48_0 (p0 : TStored) (p1_1 : Int) : Option (Bool) :=
  need (bif (!(bEq p1_1 15)) then bLe 0 p0.Cat else true) <| some ((bEq p1_1 15) || (bEq (andI .u8 (shrI .u8 p1_1 p0.Cat) 1) 0))
noncomputable def body48_0 : List AV -> AR
  | [v0, v1] => .pure (aK 43 k_TStored v0 /\ rM 3 v1 /\ iK .u8 (rG v1 1) /\ (F48_0 (g_TStored (aL v0)) (iA (rG v1 1))).isSome = true) (.bool (gt (F48_0 (g_TStored (aL v0)) (iA (rG v1 1)))))
  | _ => .fail
set_option maxHeartbeats 4000000 in
set_option maxRecDepth 20000 in
theorem ok48_0 : FnOk Try.prog 48 (pureC body48_0) := by
  refine pure_fnM body48_0 (rs := [.tmp 3]) Try.func48 (by kernel_rfl) rfl rfl ?_
  intro l ob v hb hob
  unfold body48_0 at hb
  split at hb
  · rename_i v0 v1
    injection hb with q1 q2; subst q1 q2
    obtain ⟨hk0_0, hk1_0, hk1_1, hob⟩ := hob
    obtain ⟨r, H⟩ := Option.isSome_iff_exists.1 hob
    rw [H, gt_some]
    have hw0 := wA_TStored hk0_0
    have hw1 := (rM_wk (cells := [AV.top, AV.int .u8 (iA (rG v1 1)), AV.top]) hk1_0 (fun y hy => match y, hy with | 0, _ => top_wk | 1, _ => iK_wk hk1_1 | 2, _ => top_wk | y + 3, hy => absurd hy (by omega)))
    generalize g_TStored (aL v0) = p0 at H hw0
    generalize iA (rG v1 1) = p1_1 at H hw1
    refine ⟨[.agg (.int .u8 p0.Cat :: .int .i64 p0.At :: .int .u8 p0.Frame.Head.Kind :: .int .u8 p0.Frame.Head.Sub :: .bool p0.Frame.Head.ToDs :: .bool p0.Frame.Head.FromDs :: .bool p0.Frame.Head.More :: .bool p0.Frame.Head.Retry :: .bool p0.Frame.Head.Sleep :: .bool p0.Frame.Head.MoreData :: .bool p0.Frame.Head.Protected :: .int .i64 p0.Frame.Head.Duration :: .int .u8 p0.Frame.Head.A1.x0 :: .int .u8 p0.Frame.Head.A1.x1 :: .int .u8 p0.Frame.Head.A1.x2 :: .int .u8 p0.Frame.Head.A1.x3 :: .int .u8 p0.Frame.Head.A1.x4 :: .int .u8 p0.Frame.Head.A1.x5 :: .int .u8 p0.Frame.Head.A2.x0 :: .int .u8 p0.Frame.Head.A2.x1 :: .int .u8 p0.Frame.Head.A2.x2 :: .int .u8 p0.Frame.Head.A2.x3 :: .int .u8 p0.Frame.Head.A2.x4 :: .int .u8 p0.Frame.Head.A2.x5 :: .int .u8 p0.Frame.Head.A3.x0 :: .int .u8 p0.Frame.Head.A3.x1 :: .int .u8 p0.Frame.Head.A3.x2 :: .int .u8 p0.Frame.Head.A3.x3 :: .int .u8 p0.Frame.Head.A3.x4 :: .int .u8 p0.Frame.Head.A3.x5 :: .int .u8 p0.Frame.Head.A4.x0 :: .int .u8 p0.Frame.Head.A4.x1 :: .int .u8 p0.Frame.Head.A4.x2 :: .int .u8 p0.Frame.Head.A4.x3 :: .int .u8 p0.Frame.Head.A4.x4 :: .int .u8 p0.Frame.Head.A4.x5 :: .int .i64 p0.Frame.Head.Seq :: .int .i64 p0.Frame.Head.Frag :: .int .i64 p0.Frame.Head.Tid :: .int .u8 p0.Frame.Head.Ack :: .bool p0.Frame.Head.Amsdu :: .bool p0.Frame.Head.Eosp :: .ro 1 p0.Frame.Body.length false (enR c_u8 p0.Frame.Body) :: []), .rptr 3 1 0 0 (fun _ y => getL [.top, .int .u8 p1_1, .top] y)], _, (fun E vs F => FR_wk1 hw0.1 F (fun vs F => FR_wk1 hw1.1 F (fun vs F => F))), rfl, rfl, ?_⟩
    rw [Try.ntmps48]
    simp only [List.length_cons, List.length_nil, Nat.reduceAdd, Nat.reduceSub, List.replicate_succ, List.replicate_zero, List.cons_append, List.nil_append]
    unfold F48_0 at H
    try dsimp only at H
    refine sq ctNo_ok ?_
    simp only [go_sem, Nat.reduceLeDiff, Nat.reduceLT, Nat.reduceAdd, Nat.reduceMul, Nat.reduceSub, Nat.reduceEqDiff, Nat.reduceBEq, Int.reduceToNat, reduceCtorEq]
    refine seqM ?_
    obtain ⟨f1, H⟩ := need_some.1 H
    replace f1 := g_iff.1 f1
    replace f1 := fun g => bLe_iff.1 (f1 g)
    refine rg ctNo_ok ?_
    simp only [go_sem, Nat.reduceLeDiff, Nat.reduceLT, Nat.reduceAdd, Nat.reduceMul, Nat.reduceSub, Nat.reduceEqDiff, Nat.reduceBEq, Int.reduceToNat, reduceCtorEq]
    repeat ((with_reducible refine And.intro ?_ ?_); focus (first | (with_reducible trivial) | omega | exact f1 | (intro g; have q := f1 (by first | exact g | (rw [g]; rfl) | simpa using g); first | exact q | exact ⟨q.1, q.2.1⟩ | exact q.2.2 | omega | exact ⟨g, q⟩ | exact ⟨trivial, q⟩ | exact ⟨g, q.1, q.2.1⟩ | exact ⟨g, q.2.2⟩) | grind))
    refine rg ctNo_ok ?_
    simp only [go_sem, Nat.reduceLeDiff, Nat.reduceLT, Nat.reduceAdd, Nat.reduceMul, Nat.reduceSub, Nat.reduceEqDiff, Nat.reduceBEq, Int.reduceToNat, reduceCtorEq]
    obtain rfl := Option.some.inj H
    first | rfl | simp only [Bool.and_false, Bool.false_and, Bool.and_true, Bool.true_and]
  · cases hb
/-! slices.IndexFunc[[]hotspot/api.Stored,hotspot/api.Stored] -/
noncomputable def ct68_1t0 : Ct := tab [(48, pureC body48_0)]
theorem ct68_1t0_ok : CtOk Try.prog ct68_1t0 := tab_cons ok48_0 <| tab_nil
theorem ct68_1t0_48 (l : List AV) (h : List ABlk) : ct68_1t0 48 l h = pureC body48_0 l h := rfl
noncomputable def F68_1_L1 (p0 : List TStored) (p1_1 : Int) (v1_1 : Int) : Option (Lp (Int) ((Unit) ⊕ (Int))) :=
  bif (bLt v1_1 (p0.length : Nat)) then (need (inb v1_1 p0.length) <| (F48_0 (TStored.mk ((gd p0 v1_1.toNat).Cat) ((gd p0 v1_1.toNat).At) (TFrame.mk (THeader.mk ((((gd p0 v1_1.toNat).Frame).Head).Kind) ((((gd p0 v1_1.toNat).Frame).Head).Sub) ((((gd p0 v1_1.toNat).Frame).Head).ToDs) ((((gd p0 v1_1.toNat).Frame).Head).FromDs) ((((gd p0 v1_1.toNat).Frame).Head).More) ((((gd p0 v1_1.toNat).Frame).Head).Retry) ((((gd p0 v1_1.toNat).Frame).Head).Sleep) ((((gd p0 v1_1.toNat).Frame).Head).MoreData) ((((gd p0 v1_1.toNat).Frame).Head).Protected) ((((gd p0 v1_1.toNat).Frame).Head).Duration) (A6u8.mk (((((gd p0 v1_1.toNat).Frame).Head).A1).x0) (((((gd p0 v1_1.toNat).Frame).Head).A1).x1) (((((gd p0 v1_1.toNat).Frame).Head).A1).x2) (((((gd p0 v1_1.toNat).Frame).Head).A1).x3) (((((gd p0 v1_1.toNat).Frame).Head).A1).x4) (((((gd p0 v1_1.toNat).Frame).Head).A1).x5)) (A6u8.mk (((((gd p0 v1_1.toNat).Frame).Head).A2).x0) (((((gd p0 v1_1.toNat).Frame).Head).A2).x1) (((((gd p0 v1_1.toNat).Frame).Head).A2).x2) (((((gd p0 v1_1.toNat).Frame).Head).A2).x3) (((((gd p0 v1_1.toNat).Frame).Head).A2).x4) (((((gd p0 v1_1.toNat).Frame).Head).A2).x5)) (A6u8.mk (((((gd p0 v1_1.toNat).Frame).Head).A3).x0) (((((gd p0 v1_1.toNat).Frame).Head).A3).x1) (((((gd p0 v1_1.toNat).Frame).Head).A3).x2) (((((gd p0 v1_1.toNat).Frame).Head).A3).x3) (((((gd p0 v1_1.toNat).Frame).Head).A3).x4) (((((gd p0 v1_1.toNat).Frame).Head).A3).x5)) (A6u8.mk (((((gd p0 v1_1.toNat).Frame).Head).A4).x0) (((((gd p0 v1_1.toNat).Frame).Head).A4).x1) (((((gd p0 v1_1.toNat).Frame).Head).A4).x2) (((((gd p0 v1_1.toNat).Frame).Head).A4).x3) (((((gd p0 v1_1.toNat).Frame).Head).A4).x4) (((((gd p0 v1_1.toNat).Frame).Head).A4).x5)) ((((gd p0 v1_1.toNat).Frame).Head).Seq) ((((gd p0 v1_1.toNat).Frame).Head).Frag) ((((gd p0 v1_1.toNat).Frame).Head).Tid) ((((gd p0 v1_1.toNat).Frame).Head).Ack) ((((gd p0 v1_1.toNat).Frame).Head).Amsdu) ((((gd p0 v1_1.toNat).Frame).Head).Eosp)) (((gd p0 v1_1.toNat).Frame).Body))) p1_1).bind fun r3 => bif r3 then (some (.done (.inr v1_1))) else (some (.next (wr .i64 (v1_1 + 1))))) else (some (.done (.inl ())))
noncomputable def F68_1 (p0 : List TStored) (p1_1 : Int) : Option (Int) :=
  lp (loopD (fun s => F68_1_L1 p0 p1_1 s) 0) (fun _ => some (-1)) some
noncomputable def body68_1 : List AV -> AR
  | [v0, .fn 48 [v1]] => .pure (lK k_TStored 43 v0 /\ rM 3 v1 /\ iK .u8 (rG v1 1) /\ (F68_1 (lA g_TStored v0) (iA (rG v1 1))).isSome = true) (.int .i64 (gt (F68_1 (lA g_TStored v0) (iA (rG v1 1)))))
  | _ => .fail
set_option maxHeartbeats 4000000 in
set_option maxRecDepth 20000 in
theorem ok68_1 : FnOk Try.prog 68 (pureC body68_1) := by
  refine pure_fnM body68_1 (rs := [.tmp 4]) Try.func68 (by kernel_rfl) rfl rfl ?_
  intro l ob v hb hob
  unfold body68_1 at hb
  split at hb
  · rename_i v0 v1
    injection hb with q1 q2; subst q1 q2
    obtain ⟨hk0_0, hk1_0, hk1_1, hob⟩ := hob
    obtain ⟨r, H⟩ := Option.isSome_iff_exists.1 hob
    rw [H, gt_some]
    have hw0 := lK_wk (fun r h => w_TStored h) hk0_0
    have hw1 := (rM_wk (cells := [AV.top, AV.int .u8 (iA (rG v1 1)), AV.top]) hk1_0 (fun y hy => match y, hy with | 0, _ => top_wk | 1, _ => iK_wk hk1_1 | 2, _ => top_wk | y + 3, hy => absurd hy (by omega)))
    generalize lA g_TStored v0 = p0 at H hw0
    generalize iA (rG v1 1) = p1_1 at H hw1
    refine ⟨[.ro 43 p0.length false (enR c_TStored p0), .fn 48 [.rptr 3 1 0 0 (fun _ y => getL [.top, .int .u8 p1_1, .top] y)]], _, (fun E vs F => FR_wk1 hw0.1 F (fun vs F => FR_wk1 (fn_wk (LW_cons hw1.1 LW_nil)) F (fun vs F => F))), rfl, rfl, ?_⟩
    rw [Try.ntmps68]
    simp only [List.length_cons, List.length_nil, Nat.reduceAdd, Nat.reduceSub, List.replicate_succ, List.replicate_zero, List.cons_append, List.nil_append]
    unfold F68_1 at H
    try dsimp only at H
    refine sq ctNo_ok ?_
    simp only [go_sem, Nat.reduceLeDiff, Nat.reduceLT, Nat.reduceAdd, Nat.reduceMul, Nat.reduceSub, Nat.reduceEqDiff, Nat.reduceBEq, Int.reduceToNat, reduceCtorEq]
    refine seqM ?_
    refine sq ctNo_ok ?_
    simp only [go_sem, Nat.reduceLeDiff, Nat.reduceLT, Nat.reduceAdd, Nat.reduceMul, Nat.reduceSub, Nat.reduceEqDiff, Nat.reduceBEq, Int.reduceToNat, reduceCtorEq]
    repeat ((with_reducible refine And.intro ?_ ?_); focus exact an2)
    refine blkM ?_
    refine loop_den (fun s : Int => (.ro 43 p0.length false (enR c_TStored p0) :: .fn 48 [.rptr 3 1 0 0 (fun _ y => getL [.top, .int .u8 p1_1, .top] y)] :: tp 5 (.int .i64 (p0.length : Nat) :: .int .i64 s :: tp 10 []))) (fun s => []) (fun e : Unit => (tp 19 [])) (fun e => []) H ?_ (fun v1_1 o H hn1_1 hn2_1 => ?_) (fun e H => ?_)
    · refine SubF_of ⟨[], ?_, ?_, by rfl, by rfl⟩
      · simp [CvL, Cv, getM, tp, tp, tpg, t8]
      · trivial
    · unfold F68_1_L1 at H
      try dsimp only at H ⊢
      try simp only [tp]
      refine sq ctNo_ok ?_
      simp only [go_sem, Nat.reduceLeDiff, Nat.reduceLT, Nat.reduceAdd, Nat.reduceMul, Nat.reduceSub, Nat.reduceEqDiff, Nat.reduceBEq, Int.reduceToNat, reduceCtorEq]
      refine seqM ?_
      refine condM' rfl trivial (fun hc => ?_) (fun hc => ?_)
      · have hk1 : (bLt v1_1 (p0.length : Nat)) = false := by simpa using hc
        replace H := cond_f hc H
        refine rg ctNo_ok ?_
        simp only [go_sem, Nat.reduceLeDiff, Nat.reduceLT, Nat.reduceAdd, Nat.reduceMul, Nat.reduceSub, Nat.reduceEqDiff, Nat.reduceBEq, Int.reduceToNat, reduceCtorEq]
        refine ⟨_, (Option.some.inj H).symm, ?_⟩
        refine SubF_of ⟨[], ?_, ?_, by rfl, by rfl⟩
        · simp [CvL, Cv, getM, tp, tp, tpg, t8]
        · trivial
      have hk1 : (bLt v1_1 (p0.length : Nat)) = true := by simpa using hc
      replace H := cond_t hc H
      refine rg ctNo_ok ?_
      simp only [go_sem, Nat.reduceLeDiff, Nat.reduceLT, Nat.reduceAdd, Nat.reduceMul, Nat.reduceSub, Nat.reduceEqDiff, Nat.reduceBEq, Int.reduceToNat, reduceCtorEq]
      refine seqM ?_
      refine blkM ?_
      refine sq ctNo_ok ?_
      simp only [go_sem, Nat.reduceLeDiff, Nat.reduceLT, Nat.reduceAdd, Nat.reduceMul, Nat.reduceSub, Nat.reduceEqDiff, Nat.reduceBEq, Int.reduceToNat, reduceCtorEq]
      refine seqM ?_
      obtain ⟨f2, H⟩ := need_some.1 H
      replace f2 := inb_iff.1 f2
      obtain ⟨r3, e4, H⟩ := bsi H
      refine rg ct68_1t0_ok ?_
      simp only [go_sem, Nat.reduceLeDiff, Nat.reduceLT, Nat.reduceAdd, Nat.reduceMul, Nat.reduceSub, Nat.reduceEqDiff, Nat.reduceBEq, Int.reduceToNat, reduceCtorEq, ct68_1t0_48, body48_0, f2, e4]
      repeat ((with_reducible refine And.intro ?_ ?_); focus exact an2)
      refine condM rfl trivial (fun hc => ?_) (fun hc => ?_)
      · have hk5 : (r3) = true := by simpa using hc
        replace H := cond_t hc H
        refine sq ctNo_ok ?_
        simp only [go_sem, Nat.reduceLeDiff, Nat.reduceLT, Nat.reduceAdd, Nat.reduceMul, Nat.reduceSub, Nat.reduceEqDiff, Nat.reduceBEq, Int.reduceToNat, reduceCtorEq]
        refine rg ctNo_ok ?_
        simp only [go_sem, Nat.reduceLeDiff, Nat.reduceLT, Nat.reduceAdd, Nat.reduceMul, Nat.reduceSub, Nat.reduceEqDiff, Nat.reduceBEq, Int.reduceToNat, reduceCtorEq]
        have H := hn2_1 _ (Option.some.inj H).symm
        obtain rfl := Option.some.inj H
        first | rfl | simp only [Bool.and_false, Bool.false_and, Bool.and_true, Bool.true_and]
      have hk5 : (r3) = false := by simpa using hc
      replace H := cond_f hc H
      refine rg ctNo_ok ?_
      simp only [go_sem, Nat.reduceLeDiff, Nat.reduceLT, Nat.reduceAdd, Nat.reduceMul, Nat.reduceSub, Nat.reduceEqDiff, Nat.reduceBEq, Int.reduceToNat, reduceCtorEq]
      refine rg ctNo_ok ?_
      simp only [go_sem, Nat.reduceLeDiff, Nat.reduceLT, Nat.reduceAdd, Nat.reduceMul, Nat.reduceSub, Nat.reduceEqDiff, Nat.reduceBEq, Int.reduceToNat, reduceCtorEq]
      refine ⟨_, (Option.some.inj H).symm, ?_⟩
      refine SubF_of ⟨[], ?_, ?_, by rfl, by rfl⟩
      · simp [CvL, Cv, getM, tp, tp, tpg, t8]
      · trivial
    · try dsimp only at H ⊢
      try simp only [tp]
      try simp only [m_normal, k_normal, b_normal, kL_normal, r_normal]
      refine sq ctNo_ok ?_
      simp only [go_sem, Nat.reduceLeDiff, Nat.reduceLT, Nat.reduceAdd, Nat.reduceMul, Nat.reduceSub, Nat.reduceEqDiff, Nat.reduceBEq, Int.reduceToNat, reduceCtorEq]
      refine rg ctNo_ok ?_
      simp only [go_sem, Nat.reduceLeDiff, Nat.reduceLT, Nat.reduceAdd, Nat.reduceMul, Nat.reduceSub, Nat.reduceEqDiff, Nat.reduceBEq, Int.reduceToNat, reduceCtorEq]
      obtain rfl := Option.some.inj H
      first | rfl | simp only [Bool.and_false, Bool.false_and, Bool.and_true, Bool.true_and]
  · cases hb
/-! slices.ContainsFunc[[]hotspot/api.Stored,hotspot/api.Stored] -/
noncomputable def ct49_1t0 : Ct := tab [(68, pureC body68_1)]
theorem ct49_1t0_ok : CtOk Try.prog ct49_1t0 := tab_cons ok68_1 <| tab_nil
theorem ct49_1t0_68 (l : List AV) (h : List ABlk) : ct49_1t0 68 l h = pureC body68_1 l h := rfl
noncomputable def F49_1 (p0 : List TStored) (p1_1 : Int) : Option (Bool) :=
  (F68_1 p0 p1_1).bind fun r1 => some (bLe 0 r1)
noncomputable def body49_1 : List AV -> AR
  | [v0, .fn 48 [v1]] => .pure (lK k_TStored 43 v0 /\ rM 3 v1 /\ iK .u8 (rG v1 1) /\ (F49_1 (lA g_TStored v0) (iA (rG v1 1))).isSome = true) (.bool (gt (F49_1 (lA g_TStored v0) (iA (rG v1 1)))))
  | _ => .fail
set_option maxHeartbeats 4000000 in
set_option maxRecDepth 20000 in
theorem ok49_1 : FnOk Try.prog 49 (pureC body49_1) := by
  refine pure_fnM body49_1 (rs := [.tmp 4]) Try.func49 (by kernel_rfl) rfl rfl ?_
  intro l ob v hb hob
  unfold body49_1 at hb
  split at hb
  · rename_i v0 v1
    injection hb with q1 q2; subst q1 q2
    obtain ⟨hk0_0, hk1_0, hk1_1, hob⟩ := hob
    obtain ⟨r, H⟩ := Option.isSome_iff_exists.1 hob
    rw [H, gt_some]
    have hw0 := lK_wk (fun r h => w_TStored h) hk0_0
    have hw1 := (rM_wk (cells := [AV.top, AV.int .u8 (iA (rG v1 1)), AV.top]) hk1_0 (fun y hy => match y, hy with | 0, _ => top_wk | 1, _ => iK_wk hk1_1 | 2, _ => top_wk | y + 3, hy => absurd hy (by omega)))
    generalize lA g_TStored v0 = p0 at H hw0
    generalize iA (rG v1 1) = p1_1 at H hw1
    refine ⟨[.ro 43 p0.length false (enR c_TStored p0), .fn 48 [.rptr 3 1 0 0 (fun _ y => getL [.top, .int .u8 p1_1, .top] y)]], _, (fun E vs F => FR_wk1 hw0.1 F (fun vs F => FR_wk1 (fn_wk (LW_cons hw1.1 LW_nil)) F (fun vs F => F))), rfl, rfl, ?_⟩
    rw [Try.ntmps49]
    simp only [List.length_cons, List.length_nil, Nat.reduceAdd, Nat.reduceSub, List.replicate_succ, List.replicate_zero, List.cons_append, List.nil_append]
    unfold F49_1 at H
    try dsimp only at H
    refine sq ctNo_ok ?_
    simp only [go_sem, Nat.reduceLeDiff, Nat.reduceLT, Nat.reduceAdd, Nat.reduceMul, Nat.reduceSub, Nat.reduceEqDiff, Nat.reduceBEq, Int.reduceToNat, reduceCtorEq]
    refine seqM ?_
    obtain ⟨r1, e2, H⟩ := bsi H
    refine rg ct49_1t0_ok ?_
    simp only [go_sem, Nat.reduceLeDiff, Nat.reduceLT, Nat.reduceAdd, Nat.reduceMul, Nat.reduceSub, Nat.reduceEqDiff, Nat.reduceBEq, Int.reduceToNat, reduceCtorEq, ct49_1t0_68, body68_1, e2]
    repeat ((with_reducible refine And.intro ?_ ?_); focus exact an2)
    refine rg ctNo_ok ?_
    simp only [go_sem, Nat.reduceLeDiff, Nat.reduceLT, Nat.reduceAdd, Nat.reduceMul, Nat.reduceSub, Nat.reduceEqDiff, Nat.reduceBEq, Int.reduceToNat, reduceCtorEq]
    obtain rfl := Option.some.inj H
    first | rfl | simp only [Bool.and_false, Bool.false_and, Bool.and_true, Bool.true_and]
  · cases hb
/-! hotspot/trigger.Map -/
noncomputable def ct25t0 : Ct := tab [(34, pureC body34)]
theorem ct25t0_ok : CtOk Try.prog ct25t0 := tab_cons ok34 <| tab_nil
theorem ct25t0_34 (l : List AV) (h : List ABlk) : ct25t0 34 l h = pureC body34 l h := rfl
noncomputable def ct25t1 : Ct := tab [(20, pureC body20)]
theorem ct25t1_ok : CtOk Try.prog ct25t1 := tab_cons ok20 <| tab_nil
theorem ct25t1_20 (l : List AV) (h : List ABlk) : ct25t1 20 l h = pureC body20 l h := rfl
noncomputable def ct25t2 : Ct := tab [(49, pureC body49_1)]
theorem ct25t2_ok : CtOk Try.prog ct25t2 := tab_cons ok49_1 <| tab_nil
theorem ct25t2_49 (l : List AV) (h : List ABlk) : ct25t2 49 l h = pureC body49_1 l h := rfl
noncomputable def F25_L1 (p0 : TBuffer) (p1 : List TTriggerPlan) (v1_1 : Int) (v1_2 : List Int) : Option (Lp (Int × (List Int)) ((List Int) ⊕ (TTraffic × Int))) :=
  bif (bLt v1_1 (p1.length : Nat)) then (need (inb v1_1 p1.length) <| (F20 (gd p1 v1_1.toNat)).bind fun r7 => bif (!bEq r7 0) then (some (.done (.inr ((TTraffic.mk false []), r7)))) else (need (inb v1_1 p0.List.length) <| (F49_1 ((gd p0.List v1_1.toNat).Held) ((gd p1 v1_1.toNat).Deliver)).bind fun r11 => bif r11 then (need (inb v1_1 p0.List.length) <| need (capb 8 (v1_2.length + 1)) <| some (.next (wr .i64 (v1_1 + 1), (v1_2 ++ [(gd p0.List v1_1.toNat).Aid])))) else (some (.next (wr .i64 (v1_1 + 1), v1_2))))) else (some (.done (.inl v1_2)))
noncomputable def F25 (p0 : TBuffer) (p1 : List TTriggerPlan) : Option (TTraffic × Int) :=
  (F34 p0).bind fun r1 => bif (!bEq r1 0) then (some ((TTraffic.mk false []), r1)) else (bif (!bEq (p1.length : Nat) (p0.List.length : Nat)) then (some ((TTraffic.mk false []), 2)) else (lp (loopD (fun s => F25_L1 p0 p1 s.1 s.2) (0, [])) (fun w1_3 => some ((TTraffic.mk (bLt 0 (p0.Group.length : Nat)) w1_3), 0)) some))
noncomputable def body25 : List AV -> List ABlk -> ED
  | [v0, v1], h => .ed [] (aK 4 k_TBuffer (roD (deadL h []) v0) /\ roDOb (deadL h []) v0 /\ lK k_TTriggerPlan 3 (roD (deadL h []) v1) /\ roDOb (deadL h []) v1 /\ (F25 (g_TBuffer (aL (roD (deadL h []) v0))) (lA g_TTriggerPlan (roD (deadL h []) v1))).isSome = true) (.tup [.agg [.bool (((gt (F25 (g_TBuffer (aL (roD (deadL h []) v0))) (lA g_TTriggerPlan (roD (deadL h []) v1)))).1).Group), .sl 0 1 0 ((((gt (F25 (g_TBuffer (aL (roD (deadL h []) v0))) (lA g_TTriggerPlan (roD (deadL h []) v1)))).1).Aids).length) false], .int .i64 ((gt (F25 (g_TBuffer (aL (roD (deadL h []) v0))) (lA g_TTriggerPlan (roD (deadL h []) v1)))).2)]) [.row 3 1 ((((gt (F25 (g_TBuffer (aL (roD (deadL h []) v0))) (lA g_TTriggerPlan (roD (deadL h []) v1)))).1).Aids).length) (enR c_i64 (((gt (F25 (g_TBuffer (aL (roD (deadL h []) v0))) (lA g_TTriggerPlan (roD (deadL h []) v1)))).1).Aids))]
  | _, _ => .fail
set_option maxHeartbeats 4000000 in
set_option maxRecDepth 20000 in
theorem ok25 : FnOk Try.prog 25 (edC body25) := by
  refine edit_fnV body25 (rs := [.cell 4 57, .tmp 5]) Try.func25 (by kernel_rfl) rfl rfl ?_
  intro l h bs ob q0 g0 hb hob
  unfold body25 at hb
  split at hb
  · rename_i v0 v1
    injection hb with q1 q2 q3 q4; subst q1 q2 q3 q4
    obtain ⟨hk0_0, hk0_1, hk1_0, hk1_1, hob⟩ := hob
    obtain ⟨r, H⟩ := Option.isSome_iff_exists.1 hob
    rw [H, gt_some]
    have hw0 := wA_TBuffer hk0_0
    obtain ⟨p0, hp_p0⟩ : ∃ p0, p0 = g_TBuffer (aL (roD (deadL h []) v0)) := ⟨_, rfl⟩
    rw [← hp_p0] at H hw0
    have hw1 := lK_wk (fun r h => w_TTriggerPlan h) hk1_0
    obtain ⟨p1, hp_p1⟩ : ∃ p1, p1 = lA g_TTriggerPlan (roD (deadL h []) v1) := ⟨_, rfl⟩
    rw [← hp_p1] at H hw1
    refine ⟨[.agg [.int .i64 p0.Limit, .int .i64 p0.Stay, .ro 3 p0.List.length false (enR c_TSleeper p0.List), .ro 43 p0.Group.length false (enR c_TStored p0.Group)], .ro 3 p1.length false (enR c_TTriggerPlan p1)], [], rfl, ⟨(EW_view hk0_1 hw0), ⟨(EW_view hk1_1 hw1), trivial⟩⟩, trivial, trivial, ⟨(nfB_en nr_i64), trivial⟩, ⟨noroB_en, trivial⟩, (by first | (simp only [noro, noroL, and_self]; done) | (simp only [noro, noroL]; and_intros <;> first | trivial | exact noro_bif (by simp only [noro]) (by simp only [noro]) | (simp only [noro, noroL, and_self]))), ?_⟩
    rw [Try.ntmps25]
    simp only [List.length_cons, List.length_nil, Nat.reduceAdd, Nat.reduceSub, List.replicate_succ, List.replicate_zero, List.cons_append, List.nil_append]
    unfold F25 at H
    try dsimp only at H
    refine sq ctNo_ok ?_
    simp only [go_sem, Nat.reduceLeDiff, Nat.reduceLT, Nat.reduceAdd, Nat.reduceMul, Nat.reduceSub, Nat.reduceEqDiff, Nat.reduceBEq, Int.reduceToNat, reduceCtorEq]
    refine seqM ?_
    refine seqM ?_
    obtain ⟨r1, e2, H⟩ := bsi H
    refine rg ct25t0_ok ?_
    simp only [go_sem, Nat.reduceLeDiff, Nat.reduceLT, Nat.reduceAdd, Nat.reduceMul, Nat.reduceSub, Nat.reduceEqDiff, Nat.reduceBEq, Int.reduceToNat, reduceCtorEq, ct25t0_34, body34, e2]
    repeat ((with_reducible refine And.intro ?_ ?_); focus exact an0)
    refine sq ctNo_ok ?_
    simp only [go_sem, Nat.reduceLeDiff, Nat.reduceLT, Nat.reduceAdd, Nat.reduceMul, Nat.reduceSub, Nat.reduceEqDiff, Nat.reduceBEq, Int.reduceToNat, reduceCtorEq]
    refine condM rfl trivial (fun hc => ?_) (fun hc => ?_)
    · have hk3 : (bEq r1 0) = false := by simpa using hc
      replace H := cond_t hc H
      refine sq ctNo_ok ?_
      simp only [go_sem, Nat.reduceLeDiff, Nat.reduceLT, Nat.reduceAdd, Nat.reduceMul, Nat.reduceSub, Nat.reduceEqDiff, Nat.reduceBEq, Int.reduceToNat, reduceCtorEq]
      repeat ((with_reducible refine And.intro ?_ ?_); focus exact an5)
      refine rg ctNo_ok ?_
      simp only [go_sem, Nat.reduceLeDiff, Nat.reduceLT, Nat.reduceAdd, Nat.reduceMul, Nat.reduceSub, Nat.reduceEqDiff, Nat.reduceBEq, Int.reduceToNat, reduceCtorEq]
      obtain rfl := Option.some.inj H
      refine RetE_mk [] [none] ?_ ?_ ?_ ?_ (by rfl) (by rfl)
      · simp only [go_sem, Nat.reduceEqDiff, Nat.reduceBEq, Nat.reduceAdd]
        try exact at0
      · simp only [go_sem, Nat.reduceEqDiff, Nat.reduceBEq, Nat.reduceAdd]
        try exact at0
      · simp only [go_sem, Nat.reduceEqDiff, Nat.reduceBEq, Nat.reduceAdd]
        exact Cv_tup (CvL_cons (by first | (simp [Cv, CvL, getM, gt_some]; done) | (simp [Cv, CvL, getM, gt_some]; omega)) (CvL_cons (by simp [Cv, CvL, getM, gt_some]) CvL_nil))
      · simp only [go_sem, Nat.reduceEqDiff, Nat.reduceBEq, Nat.reduceAdd, CvH, gt_some, Option.isSome_some, Option.isSome_none]
        exact CvB_none
    have hk3 : (bEq r1 0) = true := by simpa using hc
    replace H := cond_f hc H
    refine rg ctNo_ok ?_
    simp only [go_sem, Nat.reduceLeDiff, Nat.reduceLT, Nat.reduceAdd, Nat.reduceMul, Nat.reduceSub, Nat.reduceEqDiff, Nat.reduceBEq, Int.reduceToNat, reduceCtorEq]
    refine seqM ?_
    refine sq ctNo_ok ?_
    simp only [go_sem, Nat.reduceLeDiff, Nat.reduceLT, Nat.reduceAdd, Nat.reduceMul, Nat.reduceSub, Nat.reduceEqDiff, Nat.reduceBEq, Int.reduceToNat, reduceCtorEq]
    repeat ((with_reducible refine And.intro ?_ ?_); focus exact an0)
    refine condM rfl trivial (fun hc => ?_) (fun hc => ?_)
    · have hk4 : (bEq (p1.length : Nat) (p0.List.length : Nat)) = false := by simpa using hc
      replace H := cond_t hc H
      refine sq ctNo_ok ?_
      simp only [go_sem, Nat.reduceLeDiff, Nat.reduceLT, Nat.reduceAdd, Nat.reduceMul, Nat.reduceSub, Nat.reduceEqDiff, Nat.reduceBEq, Int.reduceToNat, reduceCtorEq]
      repeat ((with_reducible refine And.intro ?_ ?_); focus exact an5)
      refine rg ctNo_ok ?_
      simp only [go_sem, Nat.reduceLeDiff, Nat.reduceLT, Nat.reduceAdd, Nat.reduceMul, Nat.reduceSub, Nat.reduceEqDiff, Nat.reduceBEq, Int.reduceToNat, reduceCtorEq]
      obtain rfl := Option.some.inj H
      refine RetE_mk [] [none] ?_ ?_ ?_ ?_ (by rfl) (by rfl)
      · simp only [go_sem, Nat.reduceEqDiff, Nat.reduceBEq, Nat.reduceAdd]
        try exact at0
      · simp only [go_sem, Nat.reduceEqDiff, Nat.reduceBEq, Nat.reduceAdd]
        try exact at0
      · simp only [go_sem, Nat.reduceEqDiff, Nat.reduceBEq, Nat.reduceAdd]
        exact Cv_tup (CvL_cons (by first | (simp [Cv, CvL, getM, gt_some]; done) | (simp [Cv, CvL, getM, gt_some]; omega)) (CvL_cons (by simp [Cv, CvL, getM, gt_some]) CvL_nil))
      · simp only [go_sem, Nat.reduceEqDiff, Nat.reduceBEq, Nat.reduceAdd, CvH, gt_some, Option.isSome_some, Option.isSome_none]
        exact CvB_none
    have hk4 : (bEq (p1.length : Nat) (p0.List.length : Nat)) = true := by simpa using hc
    replace H := cond_f hc H
    refine rg ctNo_ok ?_
    simp only [go_sem, Nat.reduceLeDiff, Nat.reduceLT, Nat.reduceAdd, Nat.reduceMul, Nat.reduceSub, Nat.reduceEqDiff, Nat.reduceBEq, Int.reduceToNat, reduceCtorEq]
    refine sq ctNo_ok ?_
    simp only [go_sem, Nat.reduceLeDiff, Nat.reduceLT, Nat.reduceAdd, Nat.reduceMul, Nat.reduceSub, Nat.reduceEqDiff, Nat.reduceBEq, Int.reduceToNat, reduceCtorEq]
    repeat ((with_reducible refine And.intro ?_ ?_); focus exact an0)
    refine seqM ?_
    refine sq ctNo_ok ?_
    simp only [go_sem, Nat.reduceLeDiff, Nat.reduceLT, Nat.reduceAdd, Nat.reduceMul, Nat.reduceSub, Nat.reduceEqDiff, Nat.reduceBEq, Int.reduceToNat, reduceCtorEq]
    repeat ((with_reducible refine And.intro ?_ ?_); focus exact an0)
    refine blkM ?_
    refine loop_den (fun s : Int × (List Int) => (.top :: .top :: .ptr 0 0 0 0 :: .top :: .ptr 1 0 0 0 :: .top :: .top :: .ptr 2 0 0 0 :: tp 22 (.ro 3 p1.length false (enR c_TTriggerPlan p1) :: .int .i64 (p1.length : Nat) :: .int .i64 s.1 :: tp 32 []))) (fun s => [.lit 52 [.int .i64 p0.Limit, .int .i64 p0.Stay, .ro 3 p0.List.length false (enR c_TSleeper p0.List), .ro 43 p0.Group.length false (enR c_TStored p0.Group)], .lit 57 [.bool false, .ro 0 0 true (fun _ _ => .top)], .lit 57 [.bool (bLt 0 (p0.Group.length : Nat)), .sl 3 1 0 s.2.length false], .row 3 1 s.2.length (enR c_i64 s.2)]) (fun e : List Int => (tp 4 (.ptr 1 0 0 0 :: .top :: .top :: .ptr 2 0 0 0 :: tp 57 []))) (fun e => [.dead, .lit 57 [.bool false, .ro 0 0 true (fun _ _ => .top)], .lit 57 [.bool (bLt 0 (p0.Group.length : Nat)), .sl 3 1 0 e.length false], .row 3 1 e.length (enR c_i64 e)]) H ?_ (fun s o H hn1_1 hn2_1 => ?_) (fun w1_3 H => ?_)
    · refine SubF_of ⟨[some 0, some 1, some 2, none], ?_, ?_, by rfl, by rfl⟩
      · simp [CvL, Cv, getM, tp, tp, tpg, t8]
      · exact ⟨cv, cv, cv, CvB_none, trivial⟩
    · obtain ⟨v1_1, v1_2⟩ := s
      unfold F25_L1 at H
      try dsimp only at H ⊢
      try simp only [tp]
      refine sq ctNo_ok ?_
      simp only [go_sem, Nat.reduceLeDiff, Nat.reduceLT, Nat.reduceAdd, Nat.reduceMul, Nat.reduceSub, Nat.reduceEqDiff, Nat.reduceBEq, Int.reduceToNat, reduceCtorEq]
      refine seqM ?_
      refine condM' rfl trivial (fun hc => ?_) (fun hc => ?_)
      · have hk5 : (bLt v1_1 (p1.length : Nat)) = false := by simpa using hc
        replace H := cond_f hc H
        refine rg ctNo_ok ?_
        simp only [go_sem, Nat.reduceLeDiff, Nat.reduceLT, Nat.reduceAdd, Nat.reduceMul, Nat.reduceSub, Nat.reduceEqDiff, Nat.reduceBEq, Int.reduceToNat, reduceCtorEq]
        refine ⟨_, (Option.some.inj H).symm, ?_⟩
        refine SubF_of ⟨[some 0, some 1, some 2, some 3], ?_, ?_, by rfl, by rfl⟩
        · simp [CvL, Cv, getM, tp, tp, tpg, t8]
        · exact ⟨CvB_dead, cv, cv, CvB_row nr_i64 cl (fun _ _ _ _ => rfl), trivial⟩
      have hk5 : (bLt v1_1 (p1.length : Nat)) = true := by simpa using hc
      replace H := cond_t hc H
      refine rg ctNo_ok ?_
      simp only [go_sem, Nat.reduceLeDiff, Nat.reduceLT, Nat.reduceAdd, Nat.reduceMul, Nat.reduceSub, Nat.reduceEqDiff, Nat.reduceBEq, Int.reduceToNat, reduceCtorEq]
      refine seqM ?_
      refine blkM ?_
      refine seqM ?_
      obtain ⟨f6, H⟩ := need_some.1 H
      replace f6 := inb_iff.1 f6
      refine rg ctNo_ok ?_
      simp only [go_sem, Nat.reduceLeDiff, Nat.reduceLT, Nat.reduceAdd, Nat.reduceMul, Nat.reduceSub, Nat.reduceEqDiff, Nat.reduceBEq, Int.reduceToNat, reduceCtorEq, f6]
      repeat ((with_reducible refine And.intro ?_ ?_); focus exact an5)
      refine seqM ?_
      refine seqM ?_
      obtain ⟨r7, e8, H⟩ := bsi H
      refine rg ct25t1_ok ?_
      simp only [go_sem, Nat.reduceLeDiff, Nat.reduceLT, Nat.reduceAdd, Nat.reduceMul, Nat.reduceSub, Nat.reduceEqDiff, Nat.reduceBEq, Int.reduceToNat, reduceCtorEq, ct25t1_20, body20, e8]
      repeat ((with_reducible refine And.intro ?_ ?_); focus exact an0)
      refine sq ctNo_ok ?_
      simp only [go_sem, Nat.reduceLeDiff, Nat.reduceLT, Nat.reduceAdd, Nat.reduceMul, Nat.reduceSub, Nat.reduceEqDiff, Nat.reduceBEq, Int.reduceToNat, reduceCtorEq]
      refine condM rfl trivial (fun hc => ?_) (fun hc => ?_)
      · have hk9 : (bEq r7 0) = false := by simpa using hc
        replace H := cond_t hc H
        refine sq ctNo_ok ?_
        simp only [go_sem, Nat.reduceLeDiff, Nat.reduceLT, Nat.reduceAdd, Nat.reduceMul, Nat.reduceSub, Nat.reduceEqDiff, Nat.reduceBEq, Int.reduceToNat, reduceCtorEq]
        repeat ((with_reducible refine And.intro ?_ ?_); focus exact an5)
        refine rg ctNo_ok ?_
        simp only [go_sem, Nat.reduceLeDiff, Nat.reduceLT, Nat.reduceAdd, Nat.reduceMul, Nat.reduceSub, Nat.reduceEqDiff, Nat.reduceBEq, Int.reduceToNat, reduceCtorEq]
        have H := hn2_1 _ (Option.some.inj H).symm
        obtain rfl := Option.some.inj H
        refine RetE_mk [] [none] ?_ ?_ ?_ ?_ (by rfl) (by rfl)
        · simp only [go_sem, Nat.reduceEqDiff, Nat.reduceBEq, Nat.reduceAdd]
          try exact at0
        · simp only [go_sem, Nat.reduceEqDiff, Nat.reduceBEq, Nat.reduceAdd]
          try exact at0
        · simp only [go_sem, Nat.reduceEqDiff, Nat.reduceBEq, Nat.reduceAdd]
          exact Cv_tup (CvL_cons (by first | (simp [Cv, CvL, getM, gt_some]; done) | (simp [Cv, CvL, getM, gt_some]; omega)) (CvL_cons (by simp [Cv, CvL, getM, gt_some]) CvL_nil))
        · simp only [go_sem, Nat.reduceEqDiff, Nat.reduceBEq, Nat.reduceAdd, CvH, gt_some, Option.isSome_some, Option.isSome_none]
          exact CvB_none
      have hk9 : (bEq r7 0) = true := by simpa using hc
      replace H := cond_f hc H
      refine rg ctNo_ok ?_
      simp only [go_sem, Nat.reduceLeDiff, Nat.reduceLT, Nat.reduceAdd, Nat.reduceMul, Nat.reduceSub, Nat.reduceEqDiff, Nat.reduceBEq, Int.reduceToNat, reduceCtorEq]
      refine sq ctNo_ok ?_
      simp only [go_sem, Nat.reduceLeDiff, Nat.reduceLT, Nat.reduceAdd, Nat.reduceMul, Nat.reduceSub, Nat.reduceEqDiff, Nat.reduceBEq, Int.reduceToNat, reduceCtorEq]
      refine seqM ?_
      obtain ⟨f10, H⟩ := need_some.1 H
      replace f10 := inb_iff.1 f10
      obtain ⟨r11, e12, H⟩ := bsi H
      refine rg ct25t2_ok ?_
      simp only [go_sem, Nat.reduceLeDiff, Nat.reduceLT, Nat.reduceAdd, Nat.reduceMul, Nat.reduceSub, Nat.reduceEqDiff, Nat.reduceBEq, Int.reduceToNat, reduceCtorEq, ct25t2_49, body49_1, f10, e12]
      repeat ((with_reducible refine And.intro ?_ ?_); focus exact an0)
      refine condM' rfl trivial (fun hc => ?_) (fun hc => ?_)
      · have hk13 : (r11) = false := by simpa using hc
        replace H := cond_f hc H
        refine rg ctNo_ok ?_
        simp only [go_sem, Nat.reduceLeDiff, Nat.reduceLT, Nat.reduceAdd, Nat.reduceMul, Nat.reduceSub, Nat.reduceEqDiff, Nat.reduceBEq, Int.reduceToNat, reduceCtorEq]
        refine rg ctNo_ok ?_
        simp only [go_sem, Nat.reduceLeDiff, Nat.reduceLT, Nat.reduceAdd, Nat.reduceMul, Nat.reduceSub, Nat.reduceEqDiff, Nat.reduceBEq, Int.reduceToNat, reduceCtorEq]
        refine ⟨_, (Option.some.inj H).symm, ?_⟩
        refine SubF_of ⟨[some 0, some 1, some 2, some 3], ?_, ?_, by rfl, by rfl⟩
        · simp [CvL, Cv, getM, tp, tp, tpg, t8]
        · exact ⟨cv, cv, cv, CvB_row nr_i64 cl (fun _ _ _ _ => rfl), trivial⟩
      have hk13 : (r11) = true := by simpa using hc
      replace H := cond_t hc H
      obtain ⟨f14, H⟩ := need_some.1 H
      replace f14 := inb_iff.1 f14
      obtain ⟨f15, H⟩ := need_some.1 H
      replace f15 := capb_iff.1 f15
      refine draw_rule shT_ok ctNo_ok 2 (by kernel_rfl) (by kernel_rfl) ?_
      intro an han
      simp only [d_nil, d_cons, nxtD, xrD, xoD, roEq, minL, List.append_nil, refsOp, refs, refsL, mask, maskF, place, placeF, okLog, pairOk, hit, inL, slotsF, ren, renL, rnN, nrH, nrB, nrL, nr, dead0, deadS, List.replicate_zero, List.replicate_succ, Nat.sub_self, Nat.add_zero, Nat.zero_add, Nat.reduceSub, Nat.not_lt_zero, Nat.zero_le, Nat.lt_add_one, go_sem, Nat.reduceLeDiff, Nat.reduceLT, Nat.reduceAdd, Nat.reduceMul, Nat.reduceSub, Nat.reduceEqDiff, Nat.reduceBEq, Int.reduceToNat, reduceCtorEq, f14, f15]
      repeat ((with_reducible refine And.intro ?_ ?_); focus exact an3)
      refine rg ctNo_ok ?_
      simp only [go_sem, Nat.reduceLeDiff, Nat.reduceLT, Nat.reduceAdd, Nat.reduceMul, Nat.reduceSub, Nat.reduceEqDiff, Nat.reduceBEq, Int.reduceToNat, reduceCtorEq]
      refine ⟨_, (Option.some.inj H).symm, ?_⟩
      refine SubF_of ⟨[some 0, some 1, some 2, some 6], ?_, ?_, by rfl, by rfl⟩
      · simp [CvL, Cv, getM, tp, tp, tpg, t8]
      · exact ⟨cv, cv, cv, CvB_row nr_i64 cl (app_row (f := c_i64) v1_2 [(gd p0.List v1_1.toNat).Aid] (fun _ _ _ _ => rfl) (lit_row (f := c_i64) [(gd p0.List v1_1.toNat).Aid] (fun _ _ => rfl) rfl)), trivial⟩
    · try dsimp only at H ⊢
      try simp only [tp]
      try simp only [m_normal, k_normal, b_normal, kL_normal, r_normal]
      refine sq ctNo_ok ?_
      simp only [go_sem, Nat.reduceLeDiff, Nat.reduceLT, Nat.reduceAdd, Nat.reduceMul, Nat.reduceSub, Nat.reduceEqDiff, Nat.reduceBEq, Int.reduceToNat, reduceCtorEq]
      repeat ((with_reducible refine And.intro ?_ ?_); focus exact an5)
      refine rg ctNo_ok ?_
      simp only [go_sem, Nat.reduceLeDiff, Nat.reduceLT, Nat.reduceAdd, Nat.reduceMul, Nat.reduceSub, Nat.reduceEqDiff, Nat.reduceBEq, Int.reduceToNat, reduceCtorEq]
      obtain rfl := Option.some.inj H
      refine RetE_mk [] [some 3] ?_ ?_ ?_ ?_ (by rfl) (by rfl)
      · simp only [go_sem, Nat.reduceEqDiff, Nat.reduceBEq, Nat.reduceAdd]
        try exact at0
      · simp only [go_sem, Nat.reduceEqDiff, Nat.reduceBEq, Nat.reduceAdd]
        try exact at0
      · simp only [go_sem, Nat.reduceEqDiff, Nat.reduceBEq, Nat.reduceAdd]
        exact Cv_tup (CvL_cons (by first | (simp [Cv, CvL, getM, gt_some]; done) | (simp [Cv, CvL, getM, gt_some]; omega)) (CvL_cons (by simp [Cv, CvL, getM, gt_some]) CvL_nil))
      · simp only [go_sem, Nat.reduceEqDiff, Nat.reduceBEq, Nat.reduceAdd, CvH, gt_some, Option.isSome_some, Option.isSome_none]
        exact CvB_row nr_i64 cl (fun _ _ _ _ => rfl)
  · cases hb
/-! hotspot/hotspotref05.Category -/
noncomputable def F42 (p0 : Int) : Option (Int × Int) :=
  bif ((bLt p0 0) || (bLt 7 p0)) then (some (0, 2)) else (need (inb p0 8) <| some ((gd [1, 0, 0, 1, 2, 2, 3, 3] p0.toNat), 0))
noncomputable def body42 : List AV -> AR
  | [v0] => .pure (iK .i64 v0 /\ (F42 (iA v0)).isSome = true) (.tup [.int .u8 ((gt (F42 (iA v0))).1), .int .i64 ((gt (F42 (iA v0))).2)])
  | _ => .fail
set_option maxHeartbeats 4000000 in
set_option maxRecDepth 20000 in
theorem ok42 : FnOk Try.prog 42 (pureC body42) := by
  refine pure_fnM body42 (rs := [.tmp 2, .tmp 3]) Try.func42 (by kernel_rfl) rfl rfl ?_
  intro l ob v hb hob
  unfold body42 at hb
  split at hb
  · rename_i v0
    injection hb with q1 q2; subst q1 q2
    obtain ⟨hk0_0, hob⟩ := hob
    obtain ⟨r, H⟩ := Option.isSome_iff_exists.1 hob
    rw [H, gt_some]
    have hw0 := iK_wk hk0_0
    generalize iA v0 = p0 at H hw0
    refine ⟨[.int .i64 p0], _, (fun E vs F => FR_wk1 hw0.1 F (fun vs F => F)), rfl, rfl, ?_⟩
    rw [Try.ntmps42]
    simp only [List.length_cons, List.length_nil, Nat.reduceAdd, Nat.reduceSub, List.replicate_succ, List.replicate_zero, List.cons_append, List.nil_append]
    unfold F42 at H
    try dsimp only at H
    refine sq ctNo_ok ?_
    simp only [go_sem, Nat.reduceLeDiff, Nat.reduceLT, Nat.reduceAdd, Nat.reduceMul, Nat.reduceSub, Nat.reduceEqDiff, Nat.reduceBEq, Int.reduceToNat, reduceCtorEq]
    refine seqM ?_
    refine sq ctNo_ok ?_
    simp only [go_sem, Nat.reduceLeDiff, Nat.reduceLT, Nat.reduceAdd, Nat.reduceMul, Nat.reduceSub, Nat.reduceEqDiff, Nat.reduceBEq, Int.reduceToNat, reduceCtorEq]
    repeat ((with_reducible refine And.intro ?_ ?_); focus exact an5)
    refine condM rfl trivial (fun hc => ?_) (fun hc => ?_)
    · have hk1 : ((bLt p0 0) || (bLt 7 p0)) = true := by simpa using hc
      replace H := cond_t hc H
      refine sq ctNo_ok ?_
      simp only [go_sem, Nat.reduceLeDiff, Nat.reduceLT, Nat.reduceAdd, Nat.reduceMul, Nat.reduceSub, Nat.reduceEqDiff, Nat.reduceBEq, Int.reduceToNat, reduceCtorEq]
      refine rg ctNo_ok ?_
      simp only [go_sem, Nat.reduceLeDiff, Nat.reduceLT, Nat.reduceAdd, Nat.reduceMul, Nat.reduceSub, Nat.reduceEqDiff, Nat.reduceBEq, Int.reduceToNat, reduceCtorEq]
      obtain rfl := Option.some.inj H
      first | rfl | simp only [Bool.and_false, Bool.false_and, Bool.and_true, Bool.true_and]
    have hk1 : ((bLt p0 0) || (bLt 7 p0)) = false := by simpa using hc
    replace H := cond_f hc H
    refine rg ctNo_ok ?_
    simp only [go_sem, Nat.reduceLeDiff, Nat.reduceLT, Nat.reduceAdd, Nat.reduceMul, Nat.reduceSub, Nat.reduceEqDiff, Nat.reduceBEq, Int.reduceToNat, reduceCtorEq]
    refine seqM ?_
    obtain ⟨f2, H⟩ := need_some.1 H
    replace f2 := inb_iff.1 f2
    have gi3 := litC_ints (k := .u8) [1, 0, 0, 1, 2, 2, 3, 3] _ p0.toNat (by rfl : [.int .u8 1, .int .u8 0, .int .u8 0, .int .u8 1, .int .u8 2, .int .u8 2, .int .u8 3, .int .u8 3] = _) (by simp only [List.length_cons, List.length_nil]; omega)
    refine rg ctNo_ok ?_
    simp only [go_sem, Nat.reduceLeDiff, Nat.reduceLT, Nat.reduceAdd, Nat.reduceMul, Nat.reduceSub, Nat.reduceEqDiff, Nat.reduceBEq, Int.reduceToNat, reduceCtorEq, f2, gi3]
    repeat ((with_reducible refine And.intro ?_ ?_); focus exact an5)
    refine rg ctNo_ok ?_
    simp only [go_sem, Nat.reduceLeDiff, Nat.reduceLT, Nat.reduceAdd, Nat.reduceMul, Nat.reduceSub, Nat.reduceEqDiff, Nat.reduceBEq, Int.reduceToNat, reduceCtorEq]
    obtain rfl := Option.some.inj H
    first | rfl | simp only [Bool.and_false, Bool.false_and, Bool.and_true, Bool.true_and]
  · cases hb
/-! hotspot/header.Category -/
noncomputable def F46 (p0 : Int) : Option (Int × Int) :=
  bif ((bLt p0 0) || (bLt 7 p0)) then (some (0, 2)) else (need (inb p0 8) <| some ((gd [1, 0, 0, 1, 2, 2, 3, 3] p0.toNat), 0))
noncomputable def body46 : List AV -> AR
  | [v0] => .pure (iK .i64 v0 /\ (F46 (iA v0)).isSome = true) (.tup [.int .u8 ((gt (F46 (iA v0))).1), .int .i64 ((gt (F46 (iA v0))).2)])
  | _ => .fail
set_option maxHeartbeats 4000000 in
set_option maxRecDepth 20000 in
theorem ok46 : FnOk Try.prog 46 (pureC body46) := by
  refine pure_fnM body46 (rs := [.tmp 2, .tmp 3]) Try.func46 (by kernel_rfl) rfl rfl ?_
  intro l ob v hb hob
  unfold body46 at hb
  split at hb
  · rename_i v0
    injection hb with q1 q2; subst q1 q2
    obtain ⟨hk0_0, hob⟩ := hob
    obtain ⟨r, H⟩ := Option.isSome_iff_exists.1 hob
    rw [H, gt_some]
    have hw0 := iK_wk hk0_0
    generalize iA v0 = p0 at H hw0
    refine ⟨[.int .i64 p0], _, (fun E vs F => FR_wk1 hw0.1 F (fun vs F => F)), rfl, rfl, ?_⟩
    rw [Try.ntmps46]
    simp only [List.length_cons, List.length_nil, Nat.reduceAdd, Nat.reduceSub, List.replicate_succ, List.replicate_zero, List.cons_append, List.nil_append]
    unfold F46 at H
    try dsimp only at H
    refine sq ctNo_ok ?_
    simp only [go_sem, Nat.reduceLeDiff, Nat.reduceLT, Nat.reduceAdd, Nat.reduceMul, Nat.reduceSub, Nat.reduceEqDiff, Nat.reduceBEq, Int.reduceToNat, reduceCtorEq]
    refine seqM ?_
    refine sq ctNo_ok ?_
    simp only [go_sem, Nat.reduceLeDiff, Nat.reduceLT, Nat.reduceAdd, Nat.reduceMul, Nat.reduceSub, Nat.reduceEqDiff, Nat.reduceBEq, Int.reduceToNat, reduceCtorEq]
    repeat ((with_reducible refine And.intro ?_ ?_); focus exact an5)
    refine condM rfl trivial (fun hc => ?_) (fun hc => ?_)
    · have hk1 : ((bLt p0 0) || (bLt 7 p0)) = true := by simpa using hc
      replace H := cond_t hc H
      refine sq ctNo_ok ?_
      simp only [go_sem, Nat.reduceLeDiff, Nat.reduceLT, Nat.reduceAdd, Nat.reduceMul, Nat.reduceSub, Nat.reduceEqDiff, Nat.reduceBEq, Int.reduceToNat, reduceCtorEq]
      refine rg ctNo_ok ?_
      simp only [go_sem, Nat.reduceLeDiff, Nat.reduceLT, Nat.reduceAdd, Nat.reduceMul, Nat.reduceSub, Nat.reduceEqDiff, Nat.reduceBEq, Int.reduceToNat, reduceCtorEq]
      obtain rfl := Option.some.inj H
      first | rfl | simp only [Bool.and_false, Bool.false_and, Bool.and_true, Bool.true_and]
    have hk1 : ((bLt p0 0) || (bLt 7 p0)) = false := by simpa using hc
    replace H := cond_f hc H
    refine rg ctNo_ok ?_
    simp only [go_sem, Nat.reduceLeDiff, Nat.reduceLT, Nat.reduceAdd, Nat.reduceMul, Nat.reduceSub, Nat.reduceEqDiff, Nat.reduceBEq, Int.reduceToNat, reduceCtorEq]
    refine seqM ?_
    obtain ⟨f2, H⟩ := need_some.1 H
    replace f2 := inb_iff.1 f2
    have gi3 := getL_ints (k := .u8) [1, 0, 0, 1, 2, 2, 3, 3] p0.toNat (by simp only [List.length_cons, List.length_nil]; omega)
    simp only [List.map_cons, List.map_nil] at gi3
    refine rg ctNo_ok ?_
    simp only [go_sem, Nat.reduceLeDiff, Nat.reduceLT, Nat.reduceAdd, Nat.reduceMul, Nat.reduceSub, Nat.reduceEqDiff, Nat.reduceBEq, Int.reduceToNat, reduceCtorEq, f2, gi3]
    repeat ((with_reducible refine And.intro ?_ ?_); focus exact an5)
    refine rg ctNo_ok ?_
    simp only [go_sem, Nat.reduceLeDiff, Nat.reduceLT, Nat.reduceAdd, Nat.reduceMul, Nat.reduceSub, Nat.reduceEqDiff, Nat.reduceBEq, Int.reduceToNat, reduceCtorEq]
    obtain rfl := Option.some.inj H
    first | rfl | simp only [Bool.and_false, Bool.false_and, Bool.and_true, Bool.true_and]
  · cases hb
/-! hotspot/trigger.Starts -/
noncomputable def ct18t0 : Ct := tab [(20, pureC body20)]
theorem ct18t0_ok : CtOk Try.prog ct18t0 := tab_cons ok20 <| tab_nil
theorem ct18t0_20 (l : List AV) (h : List ABlk) : ct18t0 20 l h = pureC body20 l h := rfl
noncomputable def ct18t1 : Ct := tab [(46, pureC body46)]
theorem ct18t1_ok : CtOk Try.prog ct18t1 := tab_cons ok46 <| tab_nil
theorem ct18t1_46 (l : List AV) (h : List ABlk) : ct18t1 46 l h = pureC body46 l h := rfl
noncomputable def F18 (p0 : TTriggerPlan) (p1 : TFrame) : Option (Bool) :=
  (F20 p0).bind fun r1 => bif (((((!bEq r1 0) || (!bEq p1.Head.Kind 2)) || ((!bEq p1.Head.Sub 8) && (!bEq p1.Head.Sub 12))) || (!p1.Head.ToDs)) || p1.Head.FromDs) then (some false) else ((F46 p1.Head.Tid).bind fun r4 => need (bif (bEq r4.2 0) then bLe 0 r4.1 else true) <| some ((bEq r4.2 0) && (bEq (andI .u8 (shrI .u8 p0.Start r4.1) 1) 1)))
noncomputable def body18 : List AV -> AR
  | [v0, v1] => .pure (aK 3 k_TTriggerPlan v0 /\ aK 41 k_TFrame v1 /\ (F18 (g_TTriggerPlan (aL v0)) (g_TFrame (aL v1))).isSome = true) (.bool (gt (F18 (g_TTriggerPlan (aL v0)) (g_TFrame (aL v1)))))
  | _ => .fail
set_option maxHeartbeats 4000000 in
set_option maxRecDepth 20000 in
theorem ok18 : FnOk Try.prog 18 (pureC body18) := by
  refine pure_fnM body18 (rs := [.tmp 4]) Try.func18 (by kernel_rfl) rfl rfl ?_
  intro l ob v hb hob
  unfold body18 at hb
  split at hb
  · rename_i v0 v1
    injection hb with q1 q2; subst q1 q2
    obtain ⟨hk0_0, hk1_0, hob⟩ := hob
    obtain ⟨r, H⟩ := Option.isSome_iff_exists.1 hob
    rw [H, gt_some]
    have hw0 := wA_TTriggerPlan hk0_0
    have hw1 := wA_TFrame hk1_0
    generalize g_TTriggerPlan (aL v0) = p0 at H hw0
    generalize g_TFrame (aL v1) = p1 at H hw1
    refine ⟨[.agg [.int .u8 p0.Start, .int .u8 p0.Deliver, .int .i64 p0.Most], .agg (.int .u8 p1.Head.Kind :: .int .u8 p1.Head.Sub :: .bool p1.Head.ToDs :: .bool p1.Head.FromDs :: .bool p1.Head.More :: .bool p1.Head.Retry :: .bool p1.Head.Sleep :: .bool p1.Head.MoreData :: .bool p1.Head.Protected :: .int .i64 p1.Head.Duration :: .int .u8 p1.Head.A1.x0 :: .int .u8 p1.Head.A1.x1 :: .int .u8 p1.Head.A1.x2 :: .int .u8 p1.Head.A1.x3 :: .int .u8 p1.Head.A1.x4 :: .int .u8 p1.Head.A1.x5 :: .int .u8 p1.Head.A2.x0 :: .int .u8 p1.Head.A2.x1 :: .int .u8 p1.Head.A2.x2 :: .int .u8 p1.Head.A2.x3 :: .int .u8 p1.Head.A2.x4 :: .int .u8 p1.Head.A2.x5 :: .int .u8 p1.Head.A3.x0 :: .int .u8 p1.Head.A3.x1 :: .int .u8 p1.Head.A3.x2 :: .int .u8 p1.Head.A3.x3 :: .int .u8 p1.Head.A3.x4 :: .int .u8 p1.Head.A3.x5 :: .int .u8 p1.Head.A4.x0 :: .int .u8 p1.Head.A4.x1 :: .int .u8 p1.Head.A4.x2 :: .int .u8 p1.Head.A4.x3 :: .int .u8 p1.Head.A4.x4 :: .int .u8 p1.Head.A4.x5 :: .int .i64 p1.Head.Seq :: .int .i64 p1.Head.Frag :: .int .i64 p1.Head.Tid :: .int .u8 p1.Head.Ack :: .bool p1.Head.Amsdu :: .bool p1.Head.Eosp :: .ro 1 p1.Body.length false (enR c_u8 p1.Body) :: [])], _, (fun E vs F => FR_wk1 hw0.1 F (fun vs F => FR_wk1 hw1.1 F (fun vs F => F))), rfl, rfl, ?_⟩
    rw [Try.ntmps18]
    simp only [List.length_cons, List.length_nil, Nat.reduceAdd, Nat.reduceSub, List.replicate_succ, List.replicate_zero, List.cons_append, List.nil_append]
    unfold F18 at H
    try dsimp only at H
    refine sq ctNo_ok ?_
    simp only [go_sem, Nat.reduceLeDiff, Nat.reduceLT, Nat.reduceAdd, Nat.reduceMul, Nat.reduceSub, Nat.reduceEqDiff, Nat.reduceBEq, Int.reduceToNat, reduceCtorEq]
    refine sq ctNo_ok ?_
    simp only [go_sem, Nat.reduceLeDiff, Nat.reduceLT, Nat.reduceAdd, Nat.reduceMul, Nat.reduceSub, Nat.reduceEqDiff, Nat.reduceBEq, Int.reduceToNat, reduceCtorEq]
    repeat ((with_reducible refine And.intro ?_ ?_); focus exact an5)
    refine seqM ?_
    refine seqM ?_
    obtain ⟨r1, e2, H⟩ := bsi H
    refine rg ct18t0_ok ?_
    simp only [go_sem, Nat.reduceLeDiff, Nat.reduceLT, Nat.reduceAdd, Nat.reduceMul, Nat.reduceSub, Nat.reduceEqDiff, Nat.reduceBEq, Int.reduceToNat, reduceCtorEq, ct18t0_20, body20, e2]
    repeat ((with_reducible refine And.intro ?_ ?_); focus exact an4)
    refine condM rfl trivial (fun hc => ?_) (fun hc => ?_)
    · have hk3 : (((((!bEq r1 0) || (!bEq p1.Head.Kind 2)) || ((!bEq p1.Head.Sub 8) && (!bEq p1.Head.Sub 12))) || (!p1.Head.ToDs)) || p1.Head.FromDs) = true := by first | simpa using hc | simpa only [Bool.not_eq_true', Bool.not_eq_false'] using hc
      replace H := cond_t hc H
      refine sq ctNo_ok ?_
      simp only [go_sem, Nat.reduceLeDiff, Nat.reduceLT, Nat.reduceAdd, Nat.reduceMul, Nat.reduceSub, Nat.reduceEqDiff, Nat.reduceBEq, Int.reduceToNat, reduceCtorEq]
      refine rg ctNo_ok ?_
      simp only [go_sem, Nat.reduceLeDiff, Nat.reduceLT, Nat.reduceAdd, Nat.reduceMul, Nat.reduceSub, Nat.reduceEqDiff, Nat.reduceBEq, Int.reduceToNat, reduceCtorEq]
      obtain rfl := Option.some.inj H
      first | rfl | simp only [Bool.and_false, Bool.false_and, Bool.and_true, Bool.true_and]
    have hk3 : (((((!bEq r1 0) || (!bEq p1.Head.Kind 2)) || ((!bEq p1.Head.Sub 8) && (!bEq p1.Head.Sub 12))) || (!p1.Head.ToDs)) || p1.Head.FromDs) = false := by first | simpa using hc | simpa only [Bool.not_eq_true', Bool.not_eq_false'] using hc
    replace H := cond_f hc H
    refine rg ctNo_ok ?_
    simp only [go_sem, Nat.reduceLeDiff, Nat.reduceLT, Nat.reduceAdd, Nat.reduceMul, Nat.reduceSub, Nat.reduceEqDiff, Nat.reduceBEq, Int.reduceToNat, reduceCtorEq]
    refine seqM ?_
    obtain ⟨r4, e5, H⟩ := bsi H
    refine rg ct18t1_ok ?_
    simp only [go_sem, Nat.reduceLeDiff, Nat.reduceLT, Nat.reduceAdd, Nat.reduceMul, Nat.reduceSub, Nat.reduceEqDiff, Nat.reduceBEq, Int.reduceToNat, reduceCtorEq, ct18t1_46, body46, e5]
    repeat ((with_reducible refine And.intro ?_ ?_); focus exact an0)
    refine seqM ?_
    obtain ⟨f6, H⟩ := need_some.1 H
    replace f6 := g_iff.1 f6
    replace f6 := fun g => bLe_iff.1 (f6 g)
    refine rg ctNo_ok ?_
    simp only [go_sem, Nat.reduceLeDiff, Nat.reduceLT, Nat.reduceAdd, Nat.reduceMul, Nat.reduceSub, Nat.reduceEqDiff, Nat.reduceBEq, Int.reduceToNat, reduceCtorEq]
    repeat ((with_reducible refine And.intro ?_ ?_); focus (first | (with_reducible trivial) | omega | exact f6 | (intro g; have q := f6 (by first | exact g | (rw [g]; rfl) | simpa using g); first | exact q | exact ⟨q.1, q.2.1⟩ | exact q.2.2 | omega | exact ⟨g, q⟩ | exact ⟨trivial, q⟩ | exact ⟨g, q.1, q.2.1⟩ | exact ⟨g, q.2.2⟩) | grind))
    refine rg ctNo_ok ?_
    simp only [go_sem, Nat.reduceLeDiff, Nat.reduceLT, Nat.reduceAdd, Nat.reduceMul, Nat.reduceSub, Nat.reduceEqDiff, Nat.reduceBEq, Int.reduceToNat, reduceCtorEq]
    obtain rfl := Option.some.inj H
    first | rfl | simp only [Bool.and_false, Bool.false_and, Bool.and_true, Bool.true_and]
  · cases hb
/-! hotspot/hotspotref35.Empty -/
noncomputable def F43 (p0 : A6u8) (p1 : A6u8) : Option (TFrame) :=
  some (TFrame.mk (THeader.mk 2 12 false true false false false false false 0 (A6u8.mk p0.x0 p0.x1 p0.x2 p0.x3 p0.x4 p0.x5) (A6u8.mk p1.x0 p1.x1 p1.x2 p1.x3 p1.x4 p1.x5) (A6u8.mk p1.x0 p1.x1 p1.x2 p1.x3 p1.x4 p1.x5) (A6u8.mk 0 0 0 0 0 0) 0 0 0 0 false true) [])
noncomputable def body43 : List AV -> List ABlk -> ED
  | [v0, v1], h => .ed [] (aK 6 k_A6u8 (roD (deadL h []) v0) /\ roDOb (deadL h []) v0 /\ aK 6 k_A6u8 (roD (deadL h []) v1) /\ roDOb (deadL h []) v1 /\ (F43 (g_A6u8 (aL (roD (deadL h []) v0))) (g_A6u8 (aL (roD (deadL h []) v1)))).isSome = true) (.agg (.int .u8 (((gt (F43 (g_A6u8 (aL (roD (deadL h []) v0))) (g_A6u8 (aL (roD (deadL h []) v1))))).Head).Kind) :: .int .u8 (((gt (F43 (g_A6u8 (aL (roD (deadL h []) v0))) (g_A6u8 (aL (roD (deadL h []) v1))))).Head).Sub) :: .bool (((gt (F43 (g_A6u8 (aL (roD (deadL h []) v0))) (g_A6u8 (aL (roD (deadL h []) v1))))).Head).ToDs) :: .bool (((gt (F43 (g_A6u8 (aL (roD (deadL h []) v0))) (g_A6u8 (aL (roD (deadL h []) v1))))).Head).FromDs) :: .bool (((gt (F43 (g_A6u8 (aL (roD (deadL h []) v0))) (g_A6u8 (aL (roD (deadL h []) v1))))).Head).More) :: .bool (((gt (F43 (g_A6u8 (aL (roD (deadL h []) v0))) (g_A6u8 (aL (roD (deadL h []) v1))))).Head).Retry) :: .bool (((gt (F43 (g_A6u8 (aL (roD (deadL h []) v0))) (g_A6u8 (aL (roD (deadL h []) v1))))).Head).Sleep) :: .bool (((gt (F43 (g_A6u8 (aL (roD (deadL h []) v0))) (g_A6u8 (aL (roD (deadL h []) v1))))).Head).MoreData) :: .bool (((gt (F43 (g_A6u8 (aL (roD (deadL h []) v0))) (g_A6u8 (aL (roD (deadL h []) v1))))).Head).Protected) :: .int .i64 (((gt (F43 (g_A6u8 (aL (roD (deadL h []) v0))) (g_A6u8 (aL (roD (deadL h []) v1))))).Head).Duration) :: .int .u8 ((((gt (F43 (g_A6u8 (aL (roD (deadL h []) v0))) (g_A6u8 (aL (roD (deadL h []) v1))))).Head).A1).x0) :: .int .u8 ((((gt (F43 (g_A6u8 (aL (roD (deadL h []) v0))) (g_A6u8 (aL (roD (deadL h []) v1))))).Head).A1).x1) :: .int .u8 ((((gt (F43 (g_A6u8 (aL (roD (deadL h []) v0))) (g_A6u8 (aL (roD (deadL h []) v1))))).Head).A1).x2) :: .int .u8 ((((gt (F43 (g_A6u8 (aL (roD (deadL h []) v0))) (g_A6u8 (aL (roD (deadL h []) v1))))).Head).A1).x3) :: .int .u8 ((((gt (F43 (g_A6u8 (aL (roD (deadL h []) v0))) (g_A6u8 (aL (roD (deadL h []) v1))))).Head).A1).x4) :: .int .u8 ((((gt (F43 (g_A6u8 (aL (roD (deadL h []) v0))) (g_A6u8 (aL (roD (deadL h []) v1))))).Head).A1).x5) :: .int .u8 ((((gt (F43 (g_A6u8 (aL (roD (deadL h []) v0))) (g_A6u8 (aL (roD (deadL h []) v1))))).Head).A2).x0) :: .int .u8 ((((gt (F43 (g_A6u8 (aL (roD (deadL h []) v0))) (g_A6u8 (aL (roD (deadL h []) v1))))).Head).A2).x1) :: .int .u8 ((((gt (F43 (g_A6u8 (aL (roD (deadL h []) v0))) (g_A6u8 (aL (roD (deadL h []) v1))))).Head).A2).x2) :: .int .u8 ((((gt (F43 (g_A6u8 (aL (roD (deadL h []) v0))) (g_A6u8 (aL (roD (deadL h []) v1))))).Head).A2).x3) :: .int .u8 ((((gt (F43 (g_A6u8 (aL (roD (deadL h []) v0))) (g_A6u8 (aL (roD (deadL h []) v1))))).Head).A2).x4) :: .int .u8 ((((gt (F43 (g_A6u8 (aL (roD (deadL h []) v0))) (g_A6u8 (aL (roD (deadL h []) v1))))).Head).A2).x5) :: .int .u8 ((((gt (F43 (g_A6u8 (aL (roD (deadL h []) v0))) (g_A6u8 (aL (roD (deadL h []) v1))))).Head).A3).x0) :: .int .u8 ((((gt (F43 (g_A6u8 (aL (roD (deadL h []) v0))) (g_A6u8 (aL (roD (deadL h []) v1))))).Head).A3).x1) :: .int .u8 ((((gt (F43 (g_A6u8 (aL (roD (deadL h []) v0))) (g_A6u8 (aL (roD (deadL h []) v1))))).Head).A3).x2) :: .int .u8 ((((gt (F43 (g_A6u8 (aL (roD (deadL h []) v0))) (g_A6u8 (aL (roD (deadL h []) v1))))).Head).A3).x3) :: .int .u8 ((((gt (F43 (g_A6u8 (aL (roD (deadL h []) v0))) (g_A6u8 (aL (roD (deadL h []) v1))))).Head).A3).x4) :: .int .u8 ((((gt (F43 (g_A6u8 (aL (roD (deadL h []) v0))) (g_A6u8 (aL (roD (deadL h []) v1))))).Head).A3).x5) :: .int .u8 ((((gt (F43 (g_A6u8 (aL (roD (deadL h []) v0))) (g_A6u8 (aL (roD (deadL h []) v1))))).Head).A4).x0) :: .int .u8 ((((gt (F43 (g_A6u8 (aL (roD (deadL h []) v0))) (g_A6u8 (aL (roD (deadL h []) v1))))).Head).A4).x1) :: .int .u8 ((((gt (F43 (g_A6u8 (aL (roD (deadL h []) v0))) (g_A6u8 (aL (roD (deadL h []) v1))))).Head).A4).x2) :: .int .u8 ((((gt (F43 (g_A6u8 (aL (roD (deadL h []) v0))) (g_A6u8 (aL (roD (deadL h []) v1))))).Head).A4).x3) :: .int .u8 ((((gt (F43 (g_A6u8 (aL (roD (deadL h []) v0))) (g_A6u8 (aL (roD (deadL h []) v1))))).Head).A4).x4) :: .int .u8 ((((gt (F43 (g_A6u8 (aL (roD (deadL h []) v0))) (g_A6u8 (aL (roD (deadL h []) v1))))).Head).A4).x5) :: .int .i64 (((gt (F43 (g_A6u8 (aL (roD (deadL h []) v0))) (g_A6u8 (aL (roD (deadL h []) v1))))).Head).Seq) :: .int .i64 (((gt (F43 (g_A6u8 (aL (roD (deadL h []) v0))) (g_A6u8 (aL (roD (deadL h []) v1))))).Head).Frag) :: .int .i64 (((gt (F43 (g_A6u8 (aL (roD (deadL h []) v0))) (g_A6u8 (aL (roD (deadL h []) v1))))).Head).Tid) :: .int .u8 (((gt (F43 (g_A6u8 (aL (roD (deadL h []) v0))) (g_A6u8 (aL (roD (deadL h []) v1))))).Head).Ack) :: .bool (((gt (F43 (g_A6u8 (aL (roD (deadL h []) v0))) (g_A6u8 (aL (roD (deadL h []) v1))))).Head).Amsdu) :: .bool (((gt (F43 (g_A6u8 (aL (roD (deadL h []) v0))) (g_A6u8 (aL (roD (deadL h []) v1))))).Head).Eosp) :: .sl 0 1 0 (((gt (F43 (g_A6u8 (aL (roD (deadL h []) v0))) (g_A6u8 (aL (roD (deadL h []) v1))))).Body).length) false :: [])) [.row 5 1 (((gt (F43 (g_A6u8 (aL (roD (deadL h []) v0))) (g_A6u8 (aL (roD (deadL h []) v1))))).Body).length) (enR c_u8 ((gt (F43 (g_A6u8 (aL (roD (deadL h []) v0))) (g_A6u8 (aL (roD (deadL h []) v1))))).Body))]
  | _, _ => .fail
set_option maxHeartbeats 4000000 in
set_option maxRecDepth 20000 in
theorem ok43 : FnOk Try.prog 43 (edC body43) := by
  refine edit_fnV body43 (rs := [.cell 4 30]) Try.func43 (by kernel_rfl) rfl rfl ?_
  intro l h bs ob q0 g0 hb hob
  unfold body43 at hb
  split at hb
  · rename_i v0 v1
    injection hb with q1 q2 q3 q4; subst q1 q2 q3 q4
    obtain ⟨hk0_0, hk0_1, hk1_0, hk1_1, hob⟩ := hob
    obtain ⟨r, H⟩ := Option.isSome_iff_exists.1 hob
    rw [H, gt_some]
    have hw0 := wA_A6u8 hk0_0
    obtain ⟨p0, hp_p0⟩ : ∃ p0, p0 = g_A6u8 (aL (roD (deadL h []) v0)) := ⟨_, rfl⟩
    rw [← hp_p0] at H hw0
    have hw1 := wA_A6u8 hk1_0
    obtain ⟨p1, hp_p1⟩ : ∃ p1, p1 = g_A6u8 (aL (roD (deadL h []) v1)) := ⟨_, rfl⟩
    rw [← hp_p1] at H hw1
    refine ⟨[.agg [.int .u8 p0.x0, .int .u8 p0.x1, .int .u8 p0.x2, .int .u8 p0.x3, .int .u8 p0.x4, .int .u8 p0.x5], .agg [.int .u8 p1.x0, .int .u8 p1.x1, .int .u8 p1.x2, .int .u8 p1.x3, .int .u8 p1.x4, .int .u8 p1.x5]], [], rfl, ⟨(EW_view hk0_1 hw0), ⟨(EW_view hk1_1 hw1), trivial⟩⟩, trivial, trivial, ⟨(nfB_en nr_u8), trivial⟩, ⟨noroB_en, trivial⟩, (by first | (simp only [noro, noroL, and_self]; done) | (simp only [noro, noroL]; and_intros <;> first | trivial | exact noro_bif (by simp only [noro]) (by simp only [noro]) | (simp only [noro, noroL, and_self]))), ?_⟩
    rw [Try.ntmps43]
    simp only [List.length_cons, List.length_nil, Nat.reduceAdd, Nat.reduceSub, List.replicate_succ, List.replicate_zero, List.cons_append, List.nil_append]
    unfold F43 at H
    try dsimp only at H
    refine sq ctNo_ok ?_
    simp only [go_sem, Nat.reduceLeDiff, Nat.reduceLT, Nat.reduceAdd, Nat.reduceMul, Nat.reduceSub, Nat.reduceEqDiff, Nat.reduceBEq, Int.reduceToNat, reduceCtorEq]
    refine sq ctNo_ok ?_
    simp only [go_sem, Nat.reduceLeDiff, Nat.reduceLT, Nat.reduceAdd, Nat.reduceMul, Nat.reduceSub, Nat.reduceEqDiff, Nat.reduceBEq, Int.reduceToNat, reduceCtorEq]
    refine sq ctNo_ok ?_
    simp only [go_sem, Nat.reduceLeDiff, Nat.reduceLT, Nat.reduceAdd, Nat.reduceMul, Nat.reduceSub, Nat.reduceEqDiff, Nat.reduceBEq, Int.reduceToNat, reduceCtorEq]
    repeat ((with_reducible refine And.intro ?_ ?_); focus exact an5)
    refine sq ctNo_ok ?_
    simp only [go_sem, Nat.reduceLeDiff, Nat.reduceLT, Nat.reduceAdd, Nat.reduceMul, Nat.reduceSub, Nat.reduceEqDiff, Nat.reduceBEq, Int.reduceToNat, reduceCtorEq]
    repeat ((with_reducible refine And.intro ?_ ?_); focus exact an5)
    refine sq ctNo_ok ?_
    simp only [go_sem, Nat.reduceLeDiff, Nat.reduceLT, Nat.reduceAdd, Nat.reduceMul, Nat.reduceSub, Nat.reduceEqDiff, Nat.reduceBEq, Int.reduceToNat, reduceCtorEq]
    repeat ((with_reducible refine And.intro ?_ ?_); focus exact an5)
    refine sq ctNo_ok ?_
    simp only [go_sem, Nat.reduceLeDiff, Nat.reduceLT, Nat.reduceAdd, Nat.reduceMul, Nat.reduceSub, Nat.reduceEqDiff, Nat.reduceBEq, Int.reduceToNat, reduceCtorEq]
    repeat ((with_reducible refine And.intro ?_ ?_); focus exact an5)
    refine sq ctNo_ok ?_
    simp only [go_sem, Nat.reduceLeDiff, Nat.reduceLT, Nat.reduceAdd, Nat.reduceMul, Nat.reduceSub, Nat.reduceEqDiff, Nat.reduceBEq, Int.reduceToNat, reduceCtorEq]
    repeat ((with_reducible refine And.intro ?_ ?_); focus exact an5)
    refine sq ctNo_ok ?_
    simp only [go_sem, Nat.reduceLeDiff, Nat.reduceLT, Nat.reduceAdd, Nat.reduceMul, Nat.reduceSub, Nat.reduceEqDiff, Nat.reduceBEq, Int.reduceToNat, reduceCtorEq]
    repeat ((with_reducible refine And.intro ?_ ?_); focus exact an5)
    refine sq ctNo_ok ?_
    simp only [go_sem, Nat.reduceLeDiff, Nat.reduceLT, Nat.reduceAdd, Nat.reduceMul, Nat.reduceSub, Nat.reduceEqDiff, Nat.reduceBEq, Int.reduceToNat, reduceCtorEq]
    repeat ((with_reducible refine And.intro ?_ ?_); focus exact an5)
    refine sq ctNo_ok ?_
    simp only [go_sem, Nat.reduceLeDiff, Nat.reduceLT, Nat.reduceAdd, Nat.reduceMul, Nat.reduceSub, Nat.reduceEqDiff, Nat.reduceBEq, Int.reduceToNat, reduceCtorEq]
    repeat ((with_reducible refine And.intro ?_ ?_); focus exact an5)
    refine rg ctNo_ok ?_
    simp only [go_sem, Nat.reduceLeDiff, Nat.reduceLT, Nat.reduceAdd, Nat.reduceMul, Nat.reduceSub, Nat.reduceEqDiff, Nat.reduceBEq, Int.reduceToNat, reduceCtorEq]
    obtain rfl := Option.some.inj H
    refine RetE_mk [] [none] ?_ ?_ ?_ ?_ (by rfl) (by rfl)
    · simp only [go_sem, Nat.reduceEqDiff, Nat.reduceBEq, Nat.reduceAdd]
      try exact at0
    · simp only [go_sem, Nat.reduceEqDiff, Nat.reduceBEq, Nat.reduceAdd]
      try exact at0
    · simp only [go_sem, Nat.reduceEqDiff, Nat.reduceBEq, Nat.reduceAdd]
      exact (by first | (simp [Cv, CvL, getM, gt_some]; done) | (simp [Cv, CvL, getM, gt_some]; omega))
    · simp only [go_sem, Nat.reduceEqDiff, Nat.reduceBEq, Nat.reduceAdd, CvH, gt_some, Option.isSome_some, Option.isSome_none]
      exact CvB_none
  · cases hb
/-! hotspot/hotspotref05.Same -/
noncomputable def F15 (p0 : TFrame) (p1 : TFrame) : Option (Bool) :=
  need (bif (bEq p0.Head.Kind p1.Head.Kind && (bEq p0.Head.Sub p1.Head.Sub && (bB p0.Head.ToDs p1.Head.ToDs && (bB p0.Head.FromDs p1.Head.FromDs && (bB p0.Head.More p1.Head.More && (bB p0.Head.Retry p1.Head.Retry && (bB p0.Head.Sleep p1.Head.Sleep && (bB p0.Head.MoreData p1.Head.MoreData && (bB p0.Head.Protected p1.Head.Protected && (bEq p0.Head.Duration p1.Head.Duration && (bEq p0.Head.A1.x0 p1.Head.A1.x0 && (bEq p0.Head.A1.x1 p1.Head.A1.x1 && (bEq p0.Head.A1.x2 p1.Head.A1.x2 && (bEq p0.Head.A1.x3 p1.Head.A1.x3 && (bEq p0.Head.A1.x4 p1.Head.A1.x4 && (bEq p0.Head.A1.x5 p1.Head.A1.x5 && (bEq p0.Head.A2.x0 p1.Head.A2.x0 && (bEq p0.Head.A2.x1 p1.Head.A2.x1 && (bEq p0.Head.A2.x2 p1.Head.A2.x2 && (bEq p0.Head.A2.x3 p1.Head.A2.x3 && (bEq p0.Head.A2.x4 p1.Head.A2.x4 && (bEq p0.Head.A2.x5 p1.Head.A2.x5 && (bEq p0.Head.A3.x0 p1.Head.A3.x0 && (bEq p0.Head.A3.x1 p1.Head.A3.x1 && (bEq p0.Head.A3.x2 p1.Head.A3.x2 && (bEq p0.Head.A3.x3 p1.Head.A3.x3 && (bEq p0.Head.A3.x4 p1.Head.A3.x4 && (bEq p0.Head.A3.x5 p1.Head.A3.x5 && (bEq p0.Head.A4.x0 p1.Head.A4.x0 && (bEq p0.Head.A4.x1 p1.Head.A4.x1 && (bEq p0.Head.A4.x2 p1.Head.A4.x2 && (bEq p0.Head.A4.x3 p1.Head.A4.x3 && (bEq p0.Head.A4.x4 p1.Head.A4.x4 && (bEq p0.Head.A4.x5 p1.Head.A4.x5 && (bEq p0.Head.Seq p1.Head.Seq && (bEq p0.Head.Frag p1.Head.Frag && (bEq p0.Head.Tid p1.Head.Tid && (bEq p0.Head.Ack p1.Head.Ack && (bB p0.Head.Amsdu p1.Head.Amsdu && (bB p0.Head.Eosp p1.Head.Eosp)))))))))))))))))))))))))))))))))))))))) then u8b p0.Body.length (enR c_u8 p0.Body) else true) <| need (bif (bEq p0.Head.Kind p1.Head.Kind && (bEq p0.Head.Sub p1.Head.Sub && (bB p0.Head.ToDs p1.Head.ToDs && (bB p0.Head.FromDs p1.Head.FromDs && (bB p0.Head.More p1.Head.More && (bB p0.Head.Retry p1.Head.Retry && (bB p0.Head.Sleep p1.Head.Sleep && (bB p0.Head.MoreData p1.Head.MoreData && (bB p0.Head.Protected p1.Head.Protected && (bEq p0.Head.Duration p1.Head.Duration && (bEq p0.Head.A1.x0 p1.Head.A1.x0 && (bEq p0.Head.A1.x1 p1.Head.A1.x1 && (bEq p0.Head.A1.x2 p1.Head.A1.x2 && (bEq p0.Head.A1.x3 p1.Head.A1.x3 && (bEq p0.Head.A1.x4 p1.Head.A1.x4 && (bEq p0.Head.A1.x5 p1.Head.A1.x5 && (bEq p0.Head.A2.x0 p1.Head.A2.x0 && (bEq p0.Head.A2.x1 p1.Head.A2.x1 && (bEq p0.Head.A2.x2 p1.Head.A2.x2 && (bEq p0.Head.A2.x3 p1.Head.A2.x3 && (bEq p0.Head.A2.x4 p1.Head.A2.x4 && (bEq p0.Head.A2.x5 p1.Head.A2.x5 && (bEq p0.Head.A3.x0 p1.Head.A3.x0 && (bEq p0.Head.A3.x1 p1.Head.A3.x1 && (bEq p0.Head.A3.x2 p1.Head.A3.x2 && (bEq p0.Head.A3.x3 p1.Head.A3.x3 && (bEq p0.Head.A3.x4 p1.Head.A3.x4 && (bEq p0.Head.A3.x5 p1.Head.A3.x5 && (bEq p0.Head.A4.x0 p1.Head.A4.x0 && (bEq p0.Head.A4.x1 p1.Head.A4.x1 && (bEq p0.Head.A4.x2 p1.Head.A4.x2 && (bEq p0.Head.A4.x3 p1.Head.A4.x3 && (bEq p0.Head.A4.x4 p1.Head.A4.x4 && (bEq p0.Head.A4.x5 p1.Head.A4.x5 && (bEq p0.Head.Seq p1.Head.Seq && (bEq p0.Head.Frag p1.Head.Frag && (bEq p0.Head.Tid p1.Head.Tid && (bEq p0.Head.Ack p1.Head.Ack && (bB p0.Head.Amsdu p1.Head.Amsdu && (bB p0.Head.Eosp p1.Head.Eosp)))))))))))))))))))))))))))))))))))))))) then u8b p1.Body.length (enR c_u8 p1.Body) else true) <| some ((bEq p0.Head.Kind p1.Head.Kind && (bEq p0.Head.Sub p1.Head.Sub && (bB p0.Head.ToDs p1.Head.ToDs && (bB p0.Head.FromDs p1.Head.FromDs && (bB p0.Head.More p1.Head.More && (bB p0.Head.Retry p1.Head.Retry && (bB p0.Head.Sleep p1.Head.Sleep && (bB p0.Head.MoreData p1.Head.MoreData && (bB p0.Head.Protected p1.Head.Protected && (bEq p0.Head.Duration p1.Head.Duration && (bEq p0.Head.A1.x0 p1.Head.A1.x0 && (bEq p0.Head.A1.x1 p1.Head.A1.x1 && (bEq p0.Head.A1.x2 p1.Head.A1.x2 && (bEq p0.Head.A1.x3 p1.Head.A1.x3 && (bEq p0.Head.A1.x4 p1.Head.A1.x4 && (bEq p0.Head.A1.x5 p1.Head.A1.x5 && (bEq p0.Head.A2.x0 p1.Head.A2.x0 && (bEq p0.Head.A2.x1 p1.Head.A2.x1 && (bEq p0.Head.A2.x2 p1.Head.A2.x2 && (bEq p0.Head.A2.x3 p1.Head.A2.x3 && (bEq p0.Head.A2.x4 p1.Head.A2.x4 && (bEq p0.Head.A2.x5 p1.Head.A2.x5 && (bEq p0.Head.A3.x0 p1.Head.A3.x0 && (bEq p0.Head.A3.x1 p1.Head.A3.x1 && (bEq p0.Head.A3.x2 p1.Head.A3.x2 && (bEq p0.Head.A3.x3 p1.Head.A3.x3 && (bEq p0.Head.A3.x4 p1.Head.A3.x4 && (bEq p0.Head.A3.x5 p1.Head.A3.x5 && (bEq p0.Head.A4.x0 p1.Head.A4.x0 && (bEq p0.Head.A4.x1 p1.Head.A4.x1 && (bEq p0.Head.A4.x2 p1.Head.A4.x2 && (bEq p0.Head.A4.x3 p1.Head.A4.x3 && (bEq p0.Head.A4.x4 p1.Head.A4.x4 && (bEq p0.Head.A4.x5 p1.Head.A4.x5 && (bEq p0.Head.Seq p1.Head.Seq && (bEq p0.Head.Frag p1.Head.Frag && (bEq p0.Head.Tid p1.Head.Tid && (bEq p0.Head.Ack p1.Head.Ack && (bB p0.Head.Amsdu p1.Head.Amsdu && (bB p0.Head.Eosp p1.Head.Eosp)))))))))))))))))))))))))))))))))))))))) && (sEq (bytesC p0.Body.length (enR c_u8 p0.Body)) (bytesC p1.Body.length (enR c_u8 p1.Body))))
noncomputable def body15 : List AV -> AR
  | [v0, v1] => .pure (aK 41 k_TFrame v0 /\ aK 41 k_TFrame v1 /\ (F15 (g_TFrame (aL v0)) (g_TFrame (aL v1))).isSome = true) (.bool (gt (F15 (g_TFrame (aL v0)) (g_TFrame (aL v1)))))
  | _ => .fail
set_option maxHeartbeats 4000000 in
set_option maxRecDepth 20000 in
theorem ok15 : FnOk Try.prog 15 (pureC body15) := by
  refine pure_fnM body15 (rs := [.tmp 4]) Try.func15 (by kernel_rfl) rfl rfl ?_
  intro l ob v hb hob
  unfold body15 at hb
  split at hb
  · rename_i v0 v1
    injection hb with q1 q2; subst q1 q2
    obtain ⟨hk0_0, hk1_0, hob⟩ := hob
    obtain ⟨r, H⟩ := Option.isSome_iff_exists.1 hob
    rw [H, gt_some]
    have hw0 := wA_TFrame hk0_0
    have hw1 := wA_TFrame hk1_0
    generalize g_TFrame (aL v0) = p0 at H hw0
    generalize g_TFrame (aL v1) = p1 at H hw1
    refine ⟨[.agg (.int .u8 p0.Head.Kind :: .int .u8 p0.Head.Sub :: .bool p0.Head.ToDs :: .bool p0.Head.FromDs :: .bool p0.Head.More :: .bool p0.Head.Retry :: .bool p0.Head.Sleep :: .bool p0.Head.MoreData :: .bool p0.Head.Protected :: .int .i64 p0.Head.Duration :: .int .u8 p0.Head.A1.x0 :: .int .u8 p0.Head.A1.x1 :: .int .u8 p0.Head.A1.x2 :: .int .u8 p0.Head.A1.x3 :: .int .u8 p0.Head.A1.x4 :: .int .u8 p0.Head.A1.x5 :: .int .u8 p0.Head.A2.x0 :: .int .u8 p0.Head.A2.x1 :: .int .u8 p0.Head.A2.x2 :: .int .u8 p0.Head.A2.x3 :: .int .u8 p0.Head.A2.x4 :: .int .u8 p0.Head.A2.x5 :: .int .u8 p0.Head.A3.x0 :: .int .u8 p0.Head.A3.x1 :: .int .u8 p0.Head.A3.x2 :: .int .u8 p0.Head.A3.x3 :: .int .u8 p0.Head.A3.x4 :: .int .u8 p0.Head.A3.x5 :: .int .u8 p0.Head.A4.x0 :: .int .u8 p0.Head.A4.x1 :: .int .u8 p0.Head.A4.x2 :: .int .u8 p0.Head.A4.x3 :: .int .u8 p0.Head.A4.x4 :: .int .u8 p0.Head.A4.x5 :: .int .i64 p0.Head.Seq :: .int .i64 p0.Head.Frag :: .int .i64 p0.Head.Tid :: .int .u8 p0.Head.Ack :: .bool p0.Head.Amsdu :: .bool p0.Head.Eosp :: .ro 1 p0.Body.length false (enR c_u8 p0.Body) :: []), .agg (.int .u8 p1.Head.Kind :: .int .u8 p1.Head.Sub :: .bool p1.Head.ToDs :: .bool p1.Head.FromDs :: .bool p1.Head.More :: .bool p1.Head.Retry :: .bool p1.Head.Sleep :: .bool p1.Head.MoreData :: .bool p1.Head.Protected :: .int .i64 p1.Head.Duration :: .int .u8 p1.Head.A1.x0 :: .int .u8 p1.Head.A1.x1 :: .int .u8 p1.Head.A1.x2 :: .int .u8 p1.Head.A1.x3 :: .int .u8 p1.Head.A1.x4 :: .int .u8 p1.Head.A1.x5 :: .int .u8 p1.Head.A2.x0 :: .int .u8 p1.Head.A2.x1 :: .int .u8 p1.Head.A2.x2 :: .int .u8 p1.Head.A2.x3 :: .int .u8 p1.Head.A2.x4 :: .int .u8 p1.Head.A2.x5 :: .int .u8 p1.Head.A3.x0 :: .int .u8 p1.Head.A3.x1 :: .int .u8 p1.Head.A3.x2 :: .int .u8 p1.Head.A3.x3 :: .int .u8 p1.Head.A3.x4 :: .int .u8 p1.Head.A3.x5 :: .int .u8 p1.Head.A4.x0 :: .int .u8 p1.Head.A4.x1 :: .int .u8 p1.Head.A4.x2 :: .int .u8 p1.Head.A4.x3 :: .int .u8 p1.Head.A4.x4 :: .int .u8 p1.Head.A4.x5 :: .int .i64 p1.Head.Seq :: .int .i64 p1.Head.Frag :: .int .i64 p1.Head.Tid :: .int .u8 p1.Head.Ack :: .bool p1.Head.Amsdu :: .bool p1.Head.Eosp :: .ro 1 p1.Body.length false (enR c_u8 p1.Body) :: [])], _, (fun E vs F => FR_wk1 hw0.1 F (fun vs F => FR_wk1 hw1.1 F (fun vs F => F))), rfl, rfl, ?_⟩
    rw [Try.ntmps15]
    simp only [List.length_cons, List.length_nil, Nat.reduceAdd, Nat.reduceSub, List.replicate_succ, List.replicate_zero, List.cons_append, List.nil_append]
    unfold F15 at H
    try dsimp only at H
    refine sq ctNo_ok ?_
    simp only [go_sem, Nat.reduceLeDiff, Nat.reduceLT, Nat.reduceAdd, Nat.reduceMul, Nat.reduceSub, Nat.reduceEqDiff, Nat.reduceBEq, Int.reduceToNat, reduceCtorEq]
    refine seqM ?_
    obtain ⟨f1, H⟩ := need_some.1 H
    replace f1 := g_iff.1 f1
    replace f1 := fun g => u8b_iff.1 (f1 g)
    obtain ⟨f2, H⟩ := need_some.1 H
    replace f2 := g_iff.1 f2
    replace f2 := fun g => u8b_iff.1 (f2 g)
    refine rg ctNo_ok ?_
    simp only [go_sem, Nat.reduceLeDiff, Nat.reduceLT, Nat.reduceAdd, Nat.reduceMul, Nat.reduceSub, Nat.reduceEqDiff, Nat.reduceBEq, Int.reduceToNat, reduceCtorEq]
    repeat ((with_reducible refine And.intro ?_ ?_); focus (first | (with_reducible trivial) | omega | exact f1 | exact f2 | (intro g; have q := f1 (by first | exact g | (rw [g]; rfl) | simpa using g); first | exact q | exact ⟨q.1, q.2.1⟩ | exact q.2.2 | omega | exact ⟨g, q⟩ | exact ⟨trivial, q⟩ | exact ⟨g, q.1, q.2.1⟩ | exact ⟨g, q.2.2⟩) | (intro g; have q := f2 (by first | exact g | (rw [g]; rfl) | simpa using g); first | exact q | exact ⟨q.1, q.2.1⟩ | exact q.2.2 | omega | exact ⟨g, q⟩ | exact ⟨trivial, q⟩ | exact ⟨g, q.1, q.2.1⟩ | exact ⟨g, q.2.2⟩) | grind))
    refine rg ctNo_ok ?_
    simp only [go_sem, Nat.reduceLeDiff, Nat.reduceLT, Nat.reduceAdd, Nat.reduceMul, Nat.reduceSub, Nat.reduceEqDiff, Nat.reduceBEq, Int.reduceToNat, reduceCtorEq]
    obtain rfl := Option.some.inj H
    first | rfl | simp only [Bool.and_false, Bool.false_and, Bool.and_true, Bool.true_and]
  · cases hb
/-! hotspot/hotspotref34.sameQueue -/
noncomputable def ct59t0 : Ct := tab [(15, pureC body15)]
theorem ct59t0_ok : CtOk Try.prog ct59t0 := tab_cons ok15 <| tab_nil
theorem ct59t0_15 (l : List AV) (h : List ABlk) : ct59t0 15 l h = pureC body15 l h := rfl
noncomputable def F59_L1 (p0 : List TStored) (p1 : List TStored) (v1_1 : Int) : Option (Lp (Int) ((Unit) ⊕ (Bool))) :=
  bif (bLt v1_1 (p0.length : Nat)) then (need (inb v1_1 p0.length) <| need (inb v1_1 p1.length) <| need (bif (!(!bEq ((gd p0 v1_1.toNat).Cat) ((gd p1 v1_1.toNat).Cat))) then inb v1_1 p0.length else true) <| need (bif (!(!bEq ((gd p0 v1_1.toNat).Cat) ((gd p1 v1_1.toNat).Cat))) then inb v1_1 p1.length else true) <| need (bif (!((!bEq ((gd p0 v1_1.toNat).Cat) ((gd p1 v1_1.toNat).Cat)) || (!bEq ((gd p0 v1_1.toNat).At) ((gd p1 v1_1.toNat).At)))) then inb v1_1 p0.length else true) <| need (bif (!((!bEq ((gd p0 v1_1.toNat).Cat) ((gd p1 v1_1.toNat).Cat)) || (!bEq ((gd p0 v1_1.toNat).At) ((gd p1 v1_1.toNat).At)))) then inb v1_1 p1.length else true) <| need (bif (!((!bEq ((gd p0 v1_1.toNat).Cat) ((gd p1 v1_1.toNat).Cat)) || (!bEq ((gd p0 v1_1.toNat).At) ((gd p1 v1_1.toNat).At)))) then ((F15 (TFrame.mk (THeader.mk ((((gd p0 v1_1.toNat).Frame).Head).Kind) ((((gd p0 v1_1.toNat).Frame).Head).Sub) ((((gd p0 v1_1.toNat).Frame).Head).ToDs) ((((gd p0 v1_1.toNat).Frame).Head).FromDs) ((((gd p0 v1_1.toNat).Frame).Head).More) ((((gd p0 v1_1.toNat).Frame).Head).Retry) ((((gd p0 v1_1.toNat).Frame).Head).Sleep) ((((gd p0 v1_1.toNat).Frame).Head).MoreData) ((((gd p0 v1_1.toNat).Frame).Head).Protected) ((((gd p0 v1_1.toNat).Frame).Head).Duration) (A6u8.mk (((((gd p0 v1_1.toNat).Frame).Head).A1).x0) (((((gd p0 v1_1.toNat).Frame).Head).A1).x1) (((((gd p0 v1_1.toNat).Frame).Head).A1).x2) (((((gd p0 v1_1.toNat).Frame).Head).A1).x3) (((((gd p0 v1_1.toNat).Frame).Head).A1).x4) (((((gd p0 v1_1.toNat).Frame).Head).A1).x5)) (A6u8.mk (((((gd p0 v1_1.toNat).Frame).Head).A2).x0) (((((gd p0 v1_1.toNat).Frame).Head).A2).x1) (((((gd p0 v1_1.toNat).Frame).Head).A2).x2) (((((gd p0 v1_1.toNat).Frame).Head).A2).x3) (((((gd p0 v1_1.toNat).Frame).Head).A2).x4) (((((gd p0 v1_1.toNat).Frame).Head).A2).x5)) (A6u8.mk (((((gd p0 v1_1.toNat).Frame).Head).A3).x0) (((((gd p0 v1_1.toNat).Frame).Head).A3).x1) (((((gd p0 v1_1.toNat).Frame).Head).A3).x2) (((((gd p0 v1_1.toNat).Frame).Head).A3).x3) (((((gd p0 v1_1.toNat).Frame).Head).A3).x4) (((((gd p0 v1_1.toNat).Frame).Head).A3).x5)) (A6u8.mk (((((gd p0 v1_1.toNat).Frame).Head).A4).x0) (((((gd p0 v1_1.toNat).Frame).Head).A4).x1) (((((gd p0 v1_1.toNat).Frame).Head).A4).x2) (((((gd p0 v1_1.toNat).Frame).Head).A4).x3) (((((gd p0 v1_1.toNat).Frame).Head).A4).x4) (((((gd p0 v1_1.toNat).Frame).Head).A4).x5)) ((((gd p0 v1_1.toNat).Frame).Head).Seq) ((((gd p0 v1_1.toNat).Frame).Head).Frag) ((((gd p0 v1_1.toNat).Frame).Head).Tid) ((((gd p0 v1_1.toNat).Frame).Head).Ack) ((((gd p0 v1_1.toNat).Frame).Head).Amsdu) ((((gd p0 v1_1.toNat).Frame).Head).Eosp)) (((gd p0 v1_1.toNat).Frame).Body)) (TFrame.mk (THeader.mk ((((gd p1 v1_1.toNat).Frame).Head).Kind) ((((gd p1 v1_1.toNat).Frame).Head).Sub) ((((gd p1 v1_1.toNat).Frame).Head).ToDs) ((((gd p1 v1_1.toNat).Frame).Head).FromDs) ((((gd p1 v1_1.toNat).Frame).Head).More) ((((gd p1 v1_1.toNat).Frame).Head).Retry) ((((gd p1 v1_1.toNat).Frame).Head).Sleep) ((((gd p1 v1_1.toNat).Frame).Head).MoreData) ((((gd p1 v1_1.toNat).Frame).Head).Protected) ((((gd p1 v1_1.toNat).Frame).Head).Duration) (A6u8.mk (((((gd p1 v1_1.toNat).Frame).Head).A1).x0) (((((gd p1 v1_1.toNat).Frame).Head).A1).x1) (((((gd p1 v1_1.toNat).Frame).Head).A1).x2) (((((gd p1 v1_1.toNat).Frame).Head).A1).x3) (((((gd p1 v1_1.toNat).Frame).Head).A1).x4) (((((gd p1 v1_1.toNat).Frame).Head).A1).x5)) (A6u8.mk (((((gd p1 v1_1.toNat).Frame).Head).A2).x0) (((((gd p1 v1_1.toNat).Frame).Head).A2).x1) (((((gd p1 v1_1.toNat).Frame).Head).A2).x2) (((((gd p1 v1_1.toNat).Frame).Head).A2).x3) (((((gd p1 v1_1.toNat).Frame).Head).A2).x4) (((((gd p1 v1_1.toNat).Frame).Head).A2).x5)) (A6u8.mk (((((gd p1 v1_1.toNat).Frame).Head).A3).x0) (((((gd p1 v1_1.toNat).Frame).Head).A3).x1) (((((gd p1 v1_1.toNat).Frame).Head).A3).x2) (((((gd p1 v1_1.toNat).Frame).Head).A3).x3) (((((gd p1 v1_1.toNat).Frame).Head).A3).x4) (((((gd p1 v1_1.toNat).Frame).Head).A3).x5)) (A6u8.mk (((((gd p1 v1_1.toNat).Frame).Head).A4).x0) (((((gd p1 v1_1.toNat).Frame).Head).A4).x1) (((((gd p1 v1_1.toNat).Frame).Head).A4).x2) (((((gd p1 v1_1.toNat).Frame).Head).A4).x3) (((((gd p1 v1_1.toNat).Frame).Head).A4).x4) (((((gd p1 v1_1.toNat).Frame).Head).A4).x5)) ((((gd p1 v1_1.toNat).Frame).Head).Seq) ((((gd p1 v1_1.toNat).Frame).Head).Frag) ((((gd p1 v1_1.toNat).Frame).Head).Tid) ((((gd p1 v1_1.toNat).Frame).Head).Ack) ((((gd p1 v1_1.toNat).Frame).Head).Amsdu) ((((gd p1 v1_1.toNat).Frame).Head).Eosp)) (((gd p1 v1_1.toNat).Frame).Body))).isSome) else true) <| bif (((!bEq ((gd p0 v1_1.toNat).Cat) ((gd p1 v1_1.toNat).Cat)) || (!bEq ((gd p0 v1_1.toNat).At) ((gd p1 v1_1.toNat).At))) || (!(gt (F15 (TFrame.mk (THeader.mk ((((gd p0 v1_1.toNat).Frame).Head).Kind) ((((gd p0 v1_1.toNat).Frame).Head).Sub) ((((gd p0 v1_1.toNat).Frame).Head).ToDs) ((((gd p0 v1_1.toNat).Frame).Head).FromDs) ((((gd p0 v1_1.toNat).Frame).Head).More) ((((gd p0 v1_1.toNat).Frame).Head).Retry) ((((gd p0 v1_1.toNat).Frame).Head).Sleep) ((((gd p0 v1_1.toNat).Frame).Head).MoreData) ((((gd p0 v1_1.toNat).Frame).Head).Protected) ((((gd p0 v1_1.toNat).Frame).Head).Duration) (A6u8.mk (((((gd p0 v1_1.toNat).Frame).Head).A1).x0) (((((gd p0 v1_1.toNat).Frame).Head).A1).x1) (((((gd p0 v1_1.toNat).Frame).Head).A1).x2) (((((gd p0 v1_1.toNat).Frame).Head).A1).x3) (((((gd p0 v1_1.toNat).Frame).Head).A1).x4) (((((gd p0 v1_1.toNat).Frame).Head).A1).x5)) (A6u8.mk (((((gd p0 v1_1.toNat).Frame).Head).A2).x0) (((((gd p0 v1_1.toNat).Frame).Head).A2).x1) (((((gd p0 v1_1.toNat).Frame).Head).A2).x2) (((((gd p0 v1_1.toNat).Frame).Head).A2).x3) (((((gd p0 v1_1.toNat).Frame).Head).A2).x4) (((((gd p0 v1_1.toNat).Frame).Head).A2).x5)) (A6u8.mk (((((gd p0 v1_1.toNat).Frame).Head).A3).x0) (((((gd p0 v1_1.toNat).Frame).Head).A3).x1) (((((gd p0 v1_1.toNat).Frame).Head).A3).x2) (((((gd p0 v1_1.toNat).Frame).Head).A3).x3) (((((gd p0 v1_1.toNat).Frame).Head).A3).x4) (((((gd p0 v1_1.toNat).Frame).Head).A3).x5)) (A6u8.mk (((((gd p0 v1_1.toNat).Frame).Head).A4).x0) (((((gd p0 v1_1.toNat).Frame).Head).A4).x1) (((((gd p0 v1_1.toNat).Frame).Head).A4).x2) (((((gd p0 v1_1.toNat).Frame).Head).A4).x3) (((((gd p0 v1_1.toNat).Frame).Head).A4).x4) (((((gd p0 v1_1.toNat).Frame).Head).A4).x5)) ((((gd p0 v1_1.toNat).Frame).Head).Seq) ((((gd p0 v1_1.toNat).Frame).Head).Frag) ((((gd p0 v1_1.toNat).Frame).Head).Tid) ((((gd p0 v1_1.toNat).Frame).Head).Ack) ((((gd p0 v1_1.toNat).Frame).Head).Amsdu) ((((gd p0 v1_1.toNat).Frame).Head).Eosp)) (((gd p0 v1_1.toNat).Frame).Body)) (TFrame.mk (THeader.mk ((((gd p1 v1_1.toNat).Frame).Head).Kind) ((((gd p1 v1_1.toNat).Frame).Head).Sub) ((((gd p1 v1_1.toNat).Frame).Head).ToDs) ((((gd p1 v1_1.toNat).Frame).Head).FromDs) ((((gd p1 v1_1.toNat).Frame).Head).More) ((((gd p1 v1_1.toNat).Frame).Head).Retry) ((((gd p1 v1_1.toNat).Frame).Head).Sleep) ((((gd p1 v1_1.toNat).Frame).Head).MoreData) ((((gd p1 v1_1.toNat).Frame).Head).Protected) ((((gd p1 v1_1.toNat).Frame).Head).Duration) (A6u8.mk (((((gd p1 v1_1.toNat).Frame).Head).A1).x0) (((((gd p1 v1_1.toNat).Frame).Head).A1).x1) (((((gd p1 v1_1.toNat).Frame).Head).A1).x2) (((((gd p1 v1_1.toNat).Frame).Head).A1).x3) (((((gd p1 v1_1.toNat).Frame).Head).A1).x4) (((((gd p1 v1_1.toNat).Frame).Head).A1).x5)) (A6u8.mk (((((gd p1 v1_1.toNat).Frame).Head).A2).x0) (((((gd p1 v1_1.toNat).Frame).Head).A2).x1) (((((gd p1 v1_1.toNat).Frame).Head).A2).x2) (((((gd p1 v1_1.toNat).Frame).Head).A2).x3) (((((gd p1 v1_1.toNat).Frame).Head).A2).x4) (((((gd p1 v1_1.toNat).Frame).Head).A2).x5)) (A6u8.mk (((((gd p1 v1_1.toNat).Frame).Head).A3).x0) (((((gd p1 v1_1.toNat).Frame).Head).A3).x1) (((((gd p1 v1_1.toNat).Frame).Head).A3).x2) (((((gd p1 v1_1.toNat).Frame).Head).A3).x3) (((((gd p1 v1_1.toNat).Frame).Head).A3).x4) (((((gd p1 v1_1.toNat).Frame).Head).A3).x5)) (A6u8.mk (((((gd p1 v1_1.toNat).Frame).Head).A4).x0) (((((gd p1 v1_1.toNat).Frame).Head).A4).x1) (((((gd p1 v1_1.toNat).Frame).Head).A4).x2) (((((gd p1 v1_1.toNat).Frame).Head).A4).x3) (((((gd p1 v1_1.toNat).Frame).Head).A4).x4) (((((gd p1 v1_1.toNat).Frame).Head).A4).x5)) ((((gd p1 v1_1.toNat).Frame).Head).Seq) ((((gd p1 v1_1.toNat).Frame).Head).Frag) ((((gd p1 v1_1.toNat).Frame).Head).Tid) ((((gd p1 v1_1.toNat).Frame).Head).Ack) ((((gd p1 v1_1.toNat).Frame).Head).Amsdu) ((((gd p1 v1_1.toNat).Frame).Head).Eosp)) (((gd p1 v1_1.toNat).Frame).Body)))))) then (some (.done (.inr false))) else (some (.next (wr .i64 (v1_1 + 1))))) else (some (.done (.inl ())))
noncomputable def F59 (p0 : List TStored) (p1 : List TStored) : Option (Bool) :=
  bif (!bEq (p0.length : Nat) (p1.length : Nat)) then (some false) else (lp (loopD (fun s => F59_L1 p0 p1 s) 0) (fun _ => some true) some)
noncomputable def body59 : List AV -> AR
  | [v0, v1] => .pure (lK k_TStored 43 v0 /\ lK k_TStored 43 v1 /\ (F59 (lA g_TStored v0) (lA g_TStored v1)).isSome = true) (.bool (gt (F59 (lA g_TStored v0) (lA g_TStored v1))))
  | _ => .fail
set_option maxHeartbeats 4000000 in
set_option maxRecDepth 20000 in
theorem ok59 : FnOk Try.prog 59 (pureC body59) := by
  refine pure_fnM body59 (rs := [.tmp 4]) Try.func59 (by kernel_rfl) rfl rfl ?_
  intro l ob v hb hob
  unfold body59 at hb
  split at hb
  · rename_i v0 v1
    injection hb with q1 q2; subst q1 q2
    obtain ⟨hk0_0, hk1_0, hob⟩ := hob
    obtain ⟨r, H⟩ := Option.isSome_iff_exists.1 hob
    rw [H, gt_some]
    have hw0 := lK_wk (fun r h => w_TStored h) hk0_0
    have hw1 := lK_wk (fun r h => w_TStored h) hk1_0
    generalize lA g_TStored v0 = p0 at H hw0
    generalize lA g_TStored v1 = p1 at H hw1
    refine ⟨[.ro 43 p0.length false (enR c_TStored p0), .ro 43 p1.length false (enR c_TStored p1)], _, (fun E vs F => FR_wk1 hw0.1 F (fun vs F => FR_wk1 hw1.1 F (fun vs F => F))), rfl, rfl, ?_⟩
    rw [Try.ntmps59]
    simp only [List.length_cons, List.length_nil, Nat.reduceAdd, Nat.reduceSub, List.replicate_succ, List.replicate_zero, List.cons_append, List.nil_append]
    unfold F59 at H
    try dsimp only at H
    refine sq ctNo_ok ?_
    simp only [go_sem, Nat.reduceLeDiff, Nat.reduceLT, Nat.reduceAdd, Nat.reduceMul, Nat.reduceSub, Nat.reduceEqDiff, Nat.reduceBEq, Int.reduceToNat, reduceCtorEq]
    refine seqM ?_
    refine sq ctNo_ok ?_
    simp only [go_sem, Nat.reduceLeDiff, Nat.reduceLT, Nat.reduceAdd, Nat.reduceMul, Nat.reduceSub, Nat.reduceEqDiff, Nat.reduceBEq, Int.reduceToNat, reduceCtorEq]
    repeat ((with_reducible refine And.intro ?_ ?_); focus exact an0)
    refine condM rfl trivial (fun hc => ?_) (fun hc => ?_)
    · have hk1 : (bEq (p0.length : Nat) (p1.length : Nat)) = false := by simpa using hc
      replace H := cond_t hc H
      refine sq ctNo_ok ?_
      simp only [go_sem, Nat.reduceLeDiff, Nat.reduceLT, Nat.reduceAdd, Nat.reduceMul, Nat.reduceSub, Nat.reduceEqDiff, Nat.reduceBEq, Int.reduceToNat, reduceCtorEq]
      refine rg ctNo_ok ?_
      simp only [go_sem, Nat.reduceLeDiff, Nat.reduceLT, Nat.reduceAdd, Nat.reduceMul, Nat.reduceSub, Nat.reduceEqDiff, Nat.reduceBEq, Int.reduceToNat, reduceCtorEq]
      obtain rfl := Option.some.inj H
      first | rfl | simp only [Bool.and_false, Bool.false_and, Bool.and_true, Bool.true_and]
    have hk1 : (bEq (p0.length : Nat) (p1.length : Nat)) = true := by simpa using hc
    replace H := cond_f hc H
    refine rg ctNo_ok ?_
    simp only [go_sem, Nat.reduceLeDiff, Nat.reduceLT, Nat.reduceAdd, Nat.reduceMul, Nat.reduceSub, Nat.reduceEqDiff, Nat.reduceBEq, Int.reduceToNat, reduceCtorEq]
    refine seqM ?_
    refine sq ctNo_ok ?_
    simp only [go_sem, Nat.reduceLeDiff, Nat.reduceLT, Nat.reduceAdd, Nat.reduceMul, Nat.reduceSub, Nat.reduceEqDiff, Nat.reduceBEq, Int.reduceToNat, reduceCtorEq]
    refine blkM ?_
    refine loop_den (fun s : Int => (.ro 43 p0.length false (enR c_TStored p0) :: .ro 43 p1.length false (enR c_TStored p1) :: .top :: .top :: .top :: .int .i64 s :: tp 49 [])) (fun s => []) (fun e : Unit => (tp 55 [])) (fun e => []) H ?_ (fun v1_1 o H hn1_1 hn2_1 => ?_) (fun e H => ?_)
    · refine SubF_of ⟨[], ?_, ?_, by rfl, by rfl⟩
      · simp [CvL, Cv, getM, tp, tp, tpg, t8]
      · trivial
    · unfold F59_L1 at H
      try dsimp only at H ⊢
      try simp only [tp]
      refine seqM ?_
      refine sq ctNo_ok ?_
      simp only [go_sem, Nat.reduceLeDiff, Nat.reduceLT, Nat.reduceAdd, Nat.reduceMul, Nat.reduceSub, Nat.reduceEqDiff, Nat.reduceBEq, Int.reduceToNat, reduceCtorEq]
      repeat ((with_reducible refine And.intro ?_ ?_); focus exact an0)
      refine condM' rfl trivial (fun hc => ?_) (fun hc => ?_)
      · have hk2 : (bLt v1_1 (p0.length : Nat)) = false := by simpa using hc
        replace H := cond_f hc H
        refine rg ctNo_ok ?_
        simp only [go_sem, Nat.reduceLeDiff, Nat.reduceLT, Nat.reduceAdd, Nat.reduceMul, Nat.reduceSub, Nat.reduceEqDiff, Nat.reduceBEq, Int.reduceToNat, reduceCtorEq]
        refine ⟨_, (Option.some.inj H).symm, ?_⟩
        refine SubF_of ⟨[], ?_, ?_, by rfl, by rfl⟩
        · simp [CvL, Cv, getM, tp, tp, tpg, t8]
        · trivial
      have hk2 : (bLt v1_1 (p0.length : Nat)) = true := by simpa using hc
      replace H := cond_t hc H
      refine rg ctNo_ok ?_
      simp only [go_sem, Nat.reduceLeDiff, Nat.reduceLT, Nat.reduceAdd, Nat.reduceMul, Nat.reduceSub, Nat.reduceEqDiff, Nat.reduceBEq, Int.reduceToNat, reduceCtorEq]
      refine seqM ?_
      refine blkM ?_
      refine seqM ?_
      obtain ⟨f3, H⟩ := need_some.1 H
      replace f3 := inb_iff.1 f3
      obtain ⟨f4, H⟩ := need_some.1 H
      replace f4 := inb_iff.1 f4
      obtain ⟨f5, H⟩ := need_some.1 H
      replace f5 := g_iff.1 f5
      replace f5 := fun g => inb_iff.1 (f5 g)
      obtain ⟨f6, H⟩ := need_some.1 H
      replace f6 := g_iff.1 f6
      replace f6 := fun g => inb_iff.1 (f6 g)
      obtain ⟨f7, H⟩ := need_some.1 H
      replace f7 := g_iff.1 f7
      replace f7 := fun g => inb_iff.1 (f7 g)
      obtain ⟨f8, H⟩ := need_some.1 H
      replace f8 := g_iff.1 f8
      replace f8 := fun g => inb_iff.1 (f8 g)
      obtain ⟨f9, H⟩ := need_some.1 H
      replace f9 := g_iff.1 f9
      refine draw_quiet shT_ok ct59t0_ok (by kernel_rfl) (by kernel_rfl) ?_
      simp only [go_sem, Nat.reduceLeDiff, Nat.reduceLT, Nat.reduceAdd, Nat.reduceMul, Nat.reduceSub, Nat.reduceEqDiff, Nat.reduceBEq, Int.reduceToNat, reduceCtorEq, ct59t0_15, body15, f3, f4]
      repeat ((with_reducible refine And.intro ?_ ?_); focus (first | (with_reducible trivial) | omega | exact f5 | exact f6 | exact f7 | exact f8 | exact f9 | (intro g; have q := f5 (by first | exact g | (rw [g]; rfl) | simpa using g); first | exact q | exact ⟨q.1, q.2.1⟩ | exact q.2.2 | omega | exact ⟨g, q⟩ | exact ⟨trivial, q⟩ | exact ⟨g, q.1, q.2.1⟩ | exact ⟨g, q.2.2⟩) | (intro g; have q := f6 (by first | exact g | (rw [g]; rfl) | simpa using g); first | exact q | exact ⟨q.1, q.2.1⟩ | exact q.2.2 | omega | exact ⟨g, q⟩ | exact ⟨trivial, q⟩ | exact ⟨g, q.1, q.2.1⟩ | exact ⟨g, q.2.2⟩) | (intro g; have q := f7 (by first | exact g | (rw [g]; rfl) | simpa using g); first | exact q | exact ⟨q.1, q.2.1⟩ | exact q.2.2 | omega | exact ⟨g, q⟩ | exact ⟨trivial, q⟩ | exact ⟨g, q.1, q.2.1⟩ | exact ⟨g, q.2.2⟩) | (intro g; have q := f8 (by first | exact g | (rw [g]; rfl) | simpa using g); first | exact q | exact ⟨q.1, q.2.1⟩ | exact q.2.2 | omega | exact ⟨g, q⟩ | exact ⟨trivial, q⟩ | exact ⟨g, q.1, q.2.1⟩ | exact ⟨g, q.2.2⟩) | (intro g; have q := f9 (by first | exact g | (rw [g]; rfl) | simpa using g); first | exact q | exact ⟨q.1, q.2.1⟩ | exact q.2.2 | omega | exact ⟨g, q⟩ | exact ⟨trivial, q⟩ | exact ⟨g, q.1, q.2.1⟩ | exact ⟨g, q.2.2⟩) | (intro g; (try have q0 := f5 (by first | exact g | (rw [g]; rfl) | simpa using g)); (try have q1 := f6 (by first | exact g | (rw [g]; rfl) | simpa using g)); (try have q2 := f7 (by first | exact g | (rw [g]; rfl) | simpa using g)); (try have q3 := f8 (by first | exact g | (rw [g]; rfl) | simpa using g)); (try have q4 := f9 (by first | exact g | (rw [g]; rfl) | simpa using g)); and_intros <;> first | (with_reducible trivial) | assumption | exact nfc | (intro g2; rw [g, g2]; rfl) | (intro g2; assumption) | (simp only [g, Bool.true_and, Bool.and_true, Bool.not_false, Bool.not_true]; assumption) | grind) | (and_intros <;> first | (with_reducible trivial) | omega | assumption | exact nfc | first | exact rfl | exact trivial | exact fitI | exact .inr rfl | exact .inl rfl | exact fun x hx => absurd hx (by omega)) | grind))
      refine condM rfl trivial (fun hc => ?_) (fun hc => ?_)
      · have hk10 : (((!bEq ((gd p0 v1_1.toNat).Cat) ((gd p1 v1_1.toNat).Cat)) || (!bEq ((gd p0 v1_1.toNat).At) ((gd p1 v1_1.toNat).At))) || (!(gt (F15 (TFrame.mk (THeader.mk ((((gd p0 v1_1.toNat).Frame).Head).Kind) ((((gd p0 v1_1.toNat).Frame).Head).Sub) ((((gd p0 v1_1.toNat).Frame).Head).ToDs) ((((gd p0 v1_1.toNat).Frame).Head).FromDs) ((((gd p0 v1_1.toNat).Frame).Head).More) ((((gd p0 v1_1.toNat).Frame).Head).Retry) ((((gd p0 v1_1.toNat).Frame).Head).Sleep) ((((gd p0 v1_1.toNat).Frame).Head).MoreData) ((((gd p0 v1_1.toNat).Frame).Head).Protected) ((((gd p0 v1_1.toNat).Frame).Head).Duration) (A6u8.mk (((((gd p0 v1_1.toNat).Frame).Head).A1).x0) (((((gd p0 v1_1.toNat).Frame).Head).A1).x1) (((((gd p0 v1_1.toNat).Frame).Head).A1).x2) (((((gd p0 v1_1.toNat).Frame).Head).A1).x3) (((((gd p0 v1_1.toNat).Frame).Head).A1).x4) (((((gd p0 v1_1.toNat).Frame).Head).A1).x5)) (A6u8.mk (((((gd p0 v1_1.toNat).Frame).Head).A2).x0) (((((gd p0 v1_1.toNat).Frame).Head).A2).x1) (((((gd p0 v1_1.toNat).Frame).Head).A2).x2) (((((gd p0 v1_1.toNat).Frame).Head).A2).x3) (((((gd p0 v1_1.toNat).Frame).Head).A2).x4) (((((gd p0 v1_1.toNat).Frame).Head).A2).x5)) (A6u8.mk (((((gd p0 v1_1.toNat).Frame).Head).A3).x0) (((((gd p0 v1_1.toNat).Frame).Head).A3).x1) (((((gd p0 v1_1.toNat).Frame).Head).A3).x2) (((((gd p0 v1_1.toNat).Frame).Head).A3).x3) (((((gd p0 v1_1.toNat).Frame).Head).A3).x4) (((((gd p0 v1_1.toNat).Frame).Head).A3).x5)) (A6u8.mk (((((gd p0 v1_1.toNat).Frame).Head).A4).x0) (((((gd p0 v1_1.toNat).Frame).Head).A4).x1) (((((gd p0 v1_1.toNat).Frame).Head).A4).x2) (((((gd p0 v1_1.toNat).Frame).Head).A4).x3) (((((gd p0 v1_1.toNat).Frame).Head).A4).x4) (((((gd p0 v1_1.toNat).Frame).Head).A4).x5)) ((((gd p0 v1_1.toNat).Frame).Head).Seq) ((((gd p0 v1_1.toNat).Frame).Head).Frag) ((((gd p0 v1_1.toNat).Frame).Head).Tid) ((((gd p0 v1_1.toNat).Frame).Head).Ack) ((((gd p0 v1_1.toNat).Frame).Head).Amsdu) ((((gd p0 v1_1.toNat).Frame).Head).Eosp)) (((gd p0 v1_1.toNat).Frame).Body)) (TFrame.mk (THeader.mk ((((gd p1 v1_1.toNat).Frame).Head).Kind) ((((gd p1 v1_1.toNat).Frame).Head).Sub) ((((gd p1 v1_1.toNat).Frame).Head).ToDs) ((((gd p1 v1_1.toNat).Frame).Head).FromDs) ((((gd p1 v1_1.toNat).Frame).Head).More) ((((gd p1 v1_1.toNat).Frame).Head).Retry) ((((gd p1 v1_1.toNat).Frame).Head).Sleep) ((((gd p1 v1_1.toNat).Frame).Head).MoreData) ((((gd p1 v1_1.toNat).Frame).Head).Protected) ((((gd p1 v1_1.toNat).Frame).Head).Duration) (A6u8.mk (((((gd p1 v1_1.toNat).Frame).Head).A1).x0) (((((gd p1 v1_1.toNat).Frame).Head).A1).x1) (((((gd p1 v1_1.toNat).Frame).Head).A1).x2) (((((gd p1 v1_1.toNat).Frame).Head).A1).x3) (((((gd p1 v1_1.toNat).Frame).Head).A1).x4) (((((gd p1 v1_1.toNat).Frame).Head).A1).x5)) (A6u8.mk (((((gd p1 v1_1.toNat).Frame).Head).A2).x0) (((((gd p1 v1_1.toNat).Frame).Head).A2).x1) (((((gd p1 v1_1.toNat).Frame).Head).A2).x2) (((((gd p1 v1_1.toNat).Frame).Head).A2).x3) (((((gd p1 v1_1.toNat).Frame).Head).A2).x4) (((((gd p1 v1_1.toNat).Frame).Head).A2).x5)) (A6u8.mk (((((gd p1 v1_1.toNat).Frame).Head).A3).x0) (((((gd p1 v1_1.toNat).Frame).Head).A3).x1) (((((gd p1 v1_1.toNat).Frame).Head).A3).x2) (((((gd p1 v1_1.toNat).Frame).Head).A3).x3) (((((gd p1 v1_1.toNat).Frame).Head).A3).x4) (((((gd p1 v1_1.toNat).Frame).Head).A3).x5)) (A6u8.mk (((((gd p1 v1_1.toNat).Frame).Head).A4).x0) (((((gd p1 v1_1.toNat).Frame).Head).A4).x1) (((((gd p1 v1_1.toNat).Frame).Head).A4).x2) (((((gd p1 v1_1.toNat).Frame).Head).A4).x3) (((((gd p1 v1_1.toNat).Frame).Head).A4).x4) (((((gd p1 v1_1.toNat).Frame).Head).A4).x5)) ((((gd p1 v1_1.toNat).Frame).Head).Seq) ((((gd p1 v1_1.toNat).Frame).Head).Frag) ((((gd p1 v1_1.toNat).Frame).Head).Tid) ((((gd p1 v1_1.toNat).Frame).Head).Ack) ((((gd p1 v1_1.toNat).Frame).Head).Amsdu) ((((gd p1 v1_1.toNat).Frame).Head).Eosp)) (((gd p1 v1_1.toNat).Frame).Body)))))) = true := by simpa using hc
        replace H := cond_t hc H
        refine sq ctNo_ok ?_
        simp only [go_sem, Nat.reduceLeDiff, Nat.reduceLT, Nat.reduceAdd, Nat.reduceMul, Nat.reduceSub, Nat.reduceEqDiff, Nat.reduceBEq, Int.reduceToNat, reduceCtorEq]
        refine rg ctNo_ok ?_
        simp only [go_sem, Nat.reduceLeDiff, Nat.reduceLT, Nat.reduceAdd, Nat.reduceMul, Nat.reduceSub, Nat.reduceEqDiff, Nat.reduceBEq, Int.reduceToNat, reduceCtorEq]
        have H := hn2_1 _ (Option.some.inj H).symm
        obtain rfl := Option.some.inj H
        first | rfl | simp only [Bool.and_false, Bool.false_and, Bool.and_true, Bool.true_and]
      have hk10 : (((!bEq ((gd p0 v1_1.toNat).Cat) ((gd p1 v1_1.toNat).Cat)) || (!bEq ((gd p0 v1_1.toNat).At) ((gd p1 v1_1.toNat).At))) || (!(gt (F15 (TFrame.mk (THeader.mk ((((gd p0 v1_1.toNat).Frame).Head).Kind) ((((gd p0 v1_1.toNat).Frame).Head).Sub) ((((gd p0 v1_1.toNat).Frame).Head).ToDs) ((((gd p0 v1_1.toNat).Frame).Head).FromDs) ((((gd p0 v1_1.toNat).Frame).Head).More) ((((gd p0 v1_1.toNat).Frame).Head).Retry) ((((gd p0 v1_1.toNat).Frame).Head).Sleep) ((((gd p0 v1_1.toNat).Frame).Head).MoreData) ((((gd p0 v1_1.toNat).Frame).Head).Protected) ((((gd p0 v1_1.toNat).Frame).Head).Duration) (A6u8.mk (((((gd p0 v1_1.toNat).Frame).Head).A1).x0) (((((gd p0 v1_1.toNat).Frame).Head).A1).x1) (((((gd p0 v1_1.toNat).Frame).Head).A1).x2) (((((gd p0 v1_1.toNat).Frame).Head).A1).x3) (((((gd p0 v1_1.toNat).Frame).Head).A1).x4) (((((gd p0 v1_1.toNat).Frame).Head).A1).x5)) (A6u8.mk (((((gd p0 v1_1.toNat).Frame).Head).A2).x0) (((((gd p0 v1_1.toNat).Frame).Head).A2).x1) (((((gd p0 v1_1.toNat).Frame).Head).A2).x2) (((((gd p0 v1_1.toNat).Frame).Head).A2).x3) (((((gd p0 v1_1.toNat).Frame).Head).A2).x4) (((((gd p0 v1_1.toNat).Frame).Head).A2).x5)) (A6u8.mk (((((gd p0 v1_1.toNat).Frame).Head).A3).x0) (((((gd p0 v1_1.toNat).Frame).Head).A3).x1) (((((gd p0 v1_1.toNat).Frame).Head).A3).x2) (((((gd p0 v1_1.toNat).Frame).Head).A3).x3) (((((gd p0 v1_1.toNat).Frame).Head).A3).x4) (((((gd p0 v1_1.toNat).Frame).Head).A3).x5)) (A6u8.mk (((((gd p0 v1_1.toNat).Frame).Head).A4).x0) (((((gd p0 v1_1.toNat).Frame).Head).A4).x1) (((((gd p0 v1_1.toNat).Frame).Head).A4).x2) (((((gd p0 v1_1.toNat).Frame).Head).A4).x3) (((((gd p0 v1_1.toNat).Frame).Head).A4).x4) (((((gd p0 v1_1.toNat).Frame).Head).A4).x5)) ((((gd p0 v1_1.toNat).Frame).Head).Seq) ((((gd p0 v1_1.toNat).Frame).Head).Frag) ((((gd p0 v1_1.toNat).Frame).Head).Tid) ((((gd p0 v1_1.toNat).Frame).Head).Ack) ((((gd p0 v1_1.toNat).Frame).Head).Amsdu) ((((gd p0 v1_1.toNat).Frame).Head).Eosp)) (((gd p0 v1_1.toNat).Frame).Body)) (TFrame.mk (THeader.mk ((((gd p1 v1_1.toNat).Frame).Head).Kind) ((((gd p1 v1_1.toNat).Frame).Head).Sub) ((((gd p1 v1_1.toNat).Frame).Head).ToDs) ((((gd p1 v1_1.toNat).Frame).Head).FromDs) ((((gd p1 v1_1.toNat).Frame).Head).More) ((((gd p1 v1_1.toNat).Frame).Head).Retry) ((((gd p1 v1_1.toNat).Frame).Head).Sleep) ((((gd p1 v1_1.toNat).Frame).Head).MoreData) ((((gd p1 v1_1.toNat).Frame).Head).Protected) ((((gd p1 v1_1.toNat).Frame).Head).Duration) (A6u8.mk (((((gd p1 v1_1.toNat).Frame).Head).A1).x0) (((((gd p1 v1_1.toNat).Frame).Head).A1).x1) (((((gd p1 v1_1.toNat).Frame).Head).A1).x2) (((((gd p1 v1_1.toNat).Frame).Head).A1).x3) (((((gd p1 v1_1.toNat).Frame).Head).A1).x4) (((((gd p1 v1_1.toNat).Frame).Head).A1).x5)) (A6u8.mk (((((gd p1 v1_1.toNat).Frame).Head).A2).x0) (((((gd p1 v1_1.toNat).Frame).Head).A2).x1) (((((gd p1 v1_1.toNat).Frame).Head).A2).x2) (((((gd p1 v1_1.toNat).Frame).Head).A2).x3) (((((gd p1 v1_1.toNat).Frame).Head).A2).x4) (((((gd p1 v1_1.toNat).Frame).Head).A2).x5)) (A6u8.mk (((((gd p1 v1_1.toNat).Frame).Head).A3).x0) (((((gd p1 v1_1.toNat).Frame).Head).A3).x1) (((((gd p1 v1_1.toNat).Frame).Head).A3).x2) (((((gd p1 v1_1.toNat).Frame).Head).A3).x3) (((((gd p1 v1_1.toNat).Frame).Head).A3).x4) (((((gd p1 v1_1.toNat).Frame).Head).A3).x5)) (A6u8.mk (((((gd p1 v1_1.toNat).Frame).Head).A4).x0) (((((gd p1 v1_1.toNat).Frame).Head).A4).x1) (((((gd p1 v1_1.toNat).Frame).Head).A4).x2) (((((gd p1 v1_1.toNat).Frame).Head).A4).x3) (((((gd p1 v1_1.toNat).Frame).Head).A4).x4) (((((gd p1 v1_1.toNat).Frame).Head).A4).x5)) ((((gd p1 v1_1.toNat).Frame).Head).Seq) ((((gd p1 v1_1.toNat).Frame).Head).Frag) ((((gd p1 v1_1.toNat).Frame).Head).Tid) ((((gd p1 v1_1.toNat).Frame).Head).Ack) ((((gd p1 v1_1.toNat).Frame).Head).Amsdu) ((((gd p1 v1_1.toNat).Frame).Head).Eosp)) (((gd p1 v1_1.toNat).Frame).Body)))))) = false := by simpa using hc
      replace H := cond_f hc H
      refine rg ctNo_ok ?_
      simp only [go_sem, Nat.reduceLeDiff, Nat.reduceLT, Nat.reduceAdd, Nat.reduceMul, Nat.reduceSub, Nat.reduceEqDiff, Nat.reduceBEq, Int.reduceToNat, reduceCtorEq]
      refine rg ctNo_ok ?_
      simp only [go_sem, Nat.reduceLeDiff, Nat.reduceLT, Nat.reduceAdd, Nat.reduceMul, Nat.reduceSub, Nat.reduceEqDiff, Nat.reduceBEq, Int.reduceToNat, reduceCtorEq]
      refine ⟨_, (Option.some.inj H).symm, ?_⟩
      refine SubF_of ⟨[], ?_, ?_, by rfl, by rfl⟩
      · simp [CvL, Cv, getM, tp, tp, tpg, t8]
      · trivial
    · try dsimp only at H ⊢
      try simp only [tp]
      try simp only [m_normal, k_normal, b_normal, kL_normal, r_normal]
      refine sq ctNo_ok ?_
      simp only [go_sem, Nat.reduceLeDiff, Nat.reduceLT, Nat.reduceAdd, Nat.reduceMul, Nat.reduceSub, Nat.reduceEqDiff, Nat.reduceBEq, Int.reduceToNat, reduceCtorEq]
      refine rg ctNo_ok ?_
      simp only [go_sem, Nat.reduceLeDiff, Nat.reduceLT, Nat.reduceAdd, Nat.reduceMul, Nat.reduceSub, Nat.reduceEqDiff, Nat.reduceBEq, Int.reduceToNat, reduceCtorEq]
      obtain rfl := Option.some.inj H
      first | rfl | simp only [Bool.and_false, Bool.false_and, Bool.and_true, Bool.true_and]
  · cases hb
/-! hotspot/hotspotref34.Same -/
noncomputable def ct31t0 : Ct := tab [(59, pureC body59)]
theorem ct31t0_ok : CtOk Try.prog ct31t0 := tab_cons ok59 <| tab_nil
theorem ct31t0_59 (l : List AV) (h : List ABlk) : ct31t0 59 l h = pureC body59 l h := rfl
noncomputable def F31_L1 (p0 : TBuffer) (p1 : TBuffer) (v1_1 : Int) : Option (Lp (Int) ((Unit) ⊕ (Bool))) :=
  bif (bLt v1_1 (p0.List.length : Nat)) then (need (inb v1_1 p0.List.length) <| need (inb v1_1 p1.List.length) <| need (bif (!(!bEq ((gd p0.List v1_1.toNat).Aid) ((gd p1.List v1_1.toNat).Aid))) then inb v1_1 p0.List.length else true) <| need (bif (!(!bEq ((gd p0.List v1_1.toNat).Aid) ((gd p1.List v1_1.toNat).Aid))) then inb v1_1 p1.List.length else true) <| need (bif (!((!bEq ((gd p0.List v1_1.toNat).Aid) ((gd p1.List v1_1.toNat).Aid)) || (!bB ((gd p0.List v1_1.toNat).Asleep) ((gd p1.List v1_1.toNat).Asleep)))) then inb v1_1 p0.List.length else true) <| need (bif (!((!bEq ((gd p0.List v1_1.toNat).Aid) ((gd p1.List v1_1.toNat).Aid)) || (!bB ((gd p0.List v1_1.toNat).Asleep) ((gd p1.List v1_1.toNat).Asleep)))) then inb v1_1 p1.List.length else true) <| need (bif (!((!bEq ((gd p0.List v1_1.toNat).Aid) ((gd p1.List v1_1.toNat).Aid)) || (!bB ((gd p0.List v1_1.toNat).Asleep) ((gd p1.List v1_1.toNat).Asleep)))) then ((F59 ((gd p0.List v1_1.toNat).Held) ((gd p1.List v1_1.toNat).Held)).isSome) else true) <| bif (((!bEq ((gd p0.List v1_1.toNat).Aid) ((gd p1.List v1_1.toNat).Aid)) || (!bB ((gd p0.List v1_1.toNat).Asleep) ((gd p1.List v1_1.toNat).Asleep))) || (!(gt (F59 ((gd p0.List v1_1.toNat).Held) ((gd p1.List v1_1.toNat).Held))))) then (some (.done (.inr false))) else (some (.next (wr .i64 (v1_1 + 1))))) else (some (.done (.inl ())))
noncomputable def F31 (p0 : TBuffer) (p1 : TBuffer) : Option (Bool) :=
  need (bif (!(((!bEq p0.Limit p1.Limit) || (!bEq p0.Stay p1.Stay)) || (!bEq (p0.List.length : Nat) (p1.List.length : Nat)))) then ((F59 p0.Group p1.Group).isSome) else true) <| bif ((((!bEq p0.Limit p1.Limit) || (!bEq p0.Stay p1.Stay)) || (!bEq (p0.List.length : Nat) (p1.List.length : Nat))) || (!(gt (F59 p0.Group p1.Group)))) then (some false) else (lp (loopD (fun s => F31_L1 p0 p1 s) 0) (fun _ => some true) some)
noncomputable def body31 : List AV -> AR
  | [v0, v1] => .pure (aK 4 k_TBuffer v0 /\ aK 4 k_TBuffer v1 /\ (F31 (g_TBuffer (aL v0)) (g_TBuffer (aL v1))).isSome = true) (.bool (gt (F31 (g_TBuffer (aL v0)) (g_TBuffer (aL v1)))))
  | _ => .fail
set_option maxHeartbeats 4000000 in
set_option maxRecDepth 20000 in
theorem ok31 : FnOk Try.prog 31 (pureC body31) := by
  refine pure_fnM body31 (rs := [.tmp 4]) Try.func31 (by kernel_rfl) rfl rfl ?_
  intro l ob v hb hob
  unfold body31 at hb
  split at hb
  · rename_i v0 v1
    injection hb with q1 q2; subst q1 q2
    obtain ⟨hk0_0, hk1_0, hob⟩ := hob
    obtain ⟨r, H⟩ := Option.isSome_iff_exists.1 hob
    rw [H, gt_some]
    have hw0 := wA_TBuffer hk0_0
    have hw1 := wA_TBuffer hk1_0
    generalize g_TBuffer (aL v0) = p0 at H hw0
    generalize g_TBuffer (aL v1) = p1 at H hw1
    refine ⟨[.agg [.int .i64 p0.Limit, .int .i64 p0.Stay, .ro 3 p0.List.length false (enR c_TSleeper p0.List), .ro 43 p0.Group.length false (enR c_TStored p0.Group)], .agg [.int .i64 p1.Limit, .int .i64 p1.Stay, .ro 3 p1.List.length false (enR c_TSleeper p1.List), .ro 43 p1.Group.length false (enR c_TStored p1.Group)]], _, (fun E vs F => FR_wk1 hw0.1 F (fun vs F => FR_wk1 hw1.1 F (fun vs F => F))), rfl, rfl, ?_⟩
    rw [Try.ntmps31]
    simp only [List.length_cons, List.length_nil, Nat.reduceAdd, Nat.reduceSub, List.replicate_succ, List.replicate_zero, List.cons_append, List.nil_append]
    unfold F31 at H
    try dsimp only at H
    refine sq ctNo_ok ?_
    simp only [go_sem, Nat.reduceLeDiff, Nat.reduceLT, Nat.reduceAdd, Nat.reduceMul, Nat.reduceSub, Nat.reduceEqDiff, Nat.reduceBEq, Int.reduceToNat, reduceCtorEq]
    refine seqM ?_
    refine seqM ?_
    obtain ⟨f1, H⟩ := need_some.1 H
    replace f1 := g_iff.1 f1
    refine rg ct31t0_ok ?_
    simp only [go_sem, Nat.reduceLeDiff, Nat.reduceLT, Nat.reduceAdd, Nat.reduceMul, Nat.reduceSub, Nat.reduceEqDiff, Nat.reduceBEq, Int.reduceToNat, reduceCtorEq, ct31t0_59, body59]
    repeat ((with_reducible refine And.intro ?_ ?_); focus (first | (with_reducible trivial) | omega | exact f1 | (intro g; have q := f1 (by first | exact g | (rw [g]; rfl) | simpa using g); first | exact q | exact ⟨q.1, q.2.1⟩ | exact q.2.2 | omega | exact ⟨g, q⟩ | exact ⟨trivial, q⟩ | exact ⟨g, q.1, q.2.1⟩ | exact ⟨g, q.2.2⟩) | (intro g; (try have q0 := f1 (by first | exact g | (rw [g]; rfl) | simpa using g)); and_intros <;> first | (with_reducible trivial) | assumption | exact nfc | (intro g2; rw [g, g2]; rfl) | (intro g2; assumption) | (simp only [g, Bool.true_and, Bool.and_true, Bool.not_false, Bool.not_true]; assumption) | grind) | (and_intros <;> first | (with_reducible trivial) | omega | assumption | exact nfc | first | exact rfl | exact trivial | exact fitI | exact .inr rfl | exact .inl rfl | exact fun x hx => absurd hx (by omega)) | grind))
    refine condM rfl trivial (fun hc => ?_) (fun hc => ?_)
    · have hk2 : ((((!bEq p0.Limit p1.Limit) || (!bEq p0.Stay p1.Stay)) || (!bEq (p0.List.length : Nat) (p1.List.length : Nat))) || (!(gt (F59 p0.Group p1.Group)))) = true := by simpa using hc
      replace H := cond_t hc H
      refine sq ctNo_ok ?_
      simp only [go_sem, Nat.reduceLeDiff, Nat.reduceLT, Nat.reduceAdd, Nat.reduceMul, Nat.reduceSub, Nat.reduceEqDiff, Nat.reduceBEq, Int.reduceToNat, reduceCtorEq]
      refine rg ctNo_ok ?_
      simp only [go_sem, Nat.reduceLeDiff, Nat.reduceLT, Nat.reduceAdd, Nat.reduceMul, Nat.reduceSub, Nat.reduceEqDiff, Nat.reduceBEq, Int.reduceToNat, reduceCtorEq]
      obtain rfl := Option.some.inj H
      first | rfl | simp only [Bool.and_false, Bool.false_and, Bool.and_true, Bool.true_and]
    have hk2 : ((((!bEq p0.Limit p1.Limit) || (!bEq p0.Stay p1.Stay)) || (!bEq (p0.List.length : Nat) (p1.List.length : Nat))) || (!(gt (F59 p0.Group p1.Group)))) = false := by simpa using hc
    replace H := cond_f hc H
    refine rg ctNo_ok ?_
    simp only [go_sem, Nat.reduceLeDiff, Nat.reduceLT, Nat.reduceAdd, Nat.reduceMul, Nat.reduceSub, Nat.reduceEqDiff, Nat.reduceBEq, Int.reduceToNat, reduceCtorEq]
    refine seqM ?_
    refine sq ctNo_ok ?_
    simp only [go_sem, Nat.reduceLeDiff, Nat.reduceLT, Nat.reduceAdd, Nat.reduceMul, Nat.reduceSub, Nat.reduceEqDiff, Nat.reduceBEq, Int.reduceToNat, reduceCtorEq]
    refine blkM ?_
    refine loop_den (fun s : Int => (.top :: .top :: .ptr 0 0 0 0 :: .ptr 1 0 0 0 :: .top :: .int .i64 s :: tp 80 [])) (fun s => [.lit 52 [.int .i64 p0.Limit, .int .i64 p0.Stay, .ro 3 p0.List.length false (enR c_TSleeper p0.List), .ro 43 p0.Group.length false (enR c_TStored p0.Group)], .lit 52 [.int .i64 p1.Limit, .int .i64 p1.Stay, .ro 3 p1.List.length false (enR c_TSleeper p1.List), .ro 43 p1.Group.length false (enR c_TStored p1.Group)]]) (fun e : Unit => (tp 86 [])) (fun e => [.dead, .dead]) H ?_ (fun v1_1 o H hn1_1 hn2_1 => ?_) (fun e H => ?_)
    · refine SubF_of ⟨[some 0, some 1], ?_, ?_, by rfl, by rfl⟩
      · simp [CvL, Cv, getM, tp, tp, tpg, t8]
      · exact ⟨cv, cv, trivial⟩
    · unfold F31_L1 at H
      try dsimp only at H ⊢
      try simp only [tp]
      refine seqM ?_
      refine sq ctNo_ok ?_
      simp only [go_sem, Nat.reduceLeDiff, Nat.reduceLT, Nat.reduceAdd, Nat.reduceMul, Nat.reduceSub, Nat.reduceEqDiff, Nat.reduceBEq, Int.reduceToNat, reduceCtorEq]
      repeat ((with_reducible refine And.intro ?_ ?_); focus exact an0)
      refine condM' rfl trivial (fun hc => ?_) (fun hc => ?_)
      · have hk3 : (bLt v1_1 (p0.List.length : Nat)) = false := by simpa using hc
        replace H := cond_f hc H
        refine rg ctNo_ok ?_
        simp only [go_sem, Nat.reduceLeDiff, Nat.reduceLT, Nat.reduceAdd, Nat.reduceMul, Nat.reduceSub, Nat.reduceEqDiff, Nat.reduceBEq, Int.reduceToNat, reduceCtorEq]
        refine ⟨_, (Option.some.inj H).symm, ?_⟩
        refine SubF_of ⟨[some 0, some 1], ?_, ?_, by rfl, by rfl⟩
        · simp [CvL, Cv, getM, tp, tp, tpg, t8]
        · exact ⟨CvB_dead, CvB_dead, trivial⟩
      have hk3 : (bLt v1_1 (p0.List.length : Nat)) = true := by simpa using hc
      replace H := cond_t hc H
      refine rg ctNo_ok ?_
      simp only [go_sem, Nat.reduceLeDiff, Nat.reduceLT, Nat.reduceAdd, Nat.reduceMul, Nat.reduceSub, Nat.reduceEqDiff, Nat.reduceBEq, Int.reduceToNat, reduceCtorEq]
      refine seqM ?_
      refine blkM ?_
      refine seqM ?_
      obtain ⟨f4, H⟩ := need_some.1 H
      replace f4 := inb_iff.1 f4
      obtain ⟨f5, H⟩ := need_some.1 H
      replace f5 := inb_iff.1 f5
      obtain ⟨f6, H⟩ := need_some.1 H
      replace f6 := g_iff.1 f6
      replace f6 := fun g => inb_iff.1 (f6 g)
      obtain ⟨f7, H⟩ := need_some.1 H
      replace f7 := g_iff.1 f7
      replace f7 := fun g => inb_iff.1 (f7 g)
      obtain ⟨f8, H⟩ := need_some.1 H
      replace f8 := g_iff.1 f8
      replace f8 := fun g => inb_iff.1 (f8 g)
      obtain ⟨f9, H⟩ := need_some.1 H
      replace f9 := g_iff.1 f9
      replace f9 := fun g => inb_iff.1 (f9 g)
      obtain ⟨f10, H⟩ := need_some.1 H
      replace f10 := g_iff.1 f10
      refine draw_quiet shT_ok ct31t0_ok (by kernel_rfl) (by kernel_rfl) ?_
      simp only [go_sem, Nat.reduceLeDiff, Nat.reduceLT, Nat.reduceAdd, Nat.reduceMul, Nat.reduceSub, Nat.reduceEqDiff, Nat.reduceBEq, Int.reduceToNat, reduceCtorEq, ct31t0_59, body59, f4, f5]
      repeat ((with_reducible refine And.intro ?_ ?_); focus (first | (with_reducible trivial) | omega | exact f6 | exact f7 | exact f8 | exact f9 | exact f10 | (intro g; have q := f6 (by first | exact g | (rw [g]; rfl) | simpa using g); first | exact q | exact ⟨q.1, q.2.1⟩ | exact q.2.2 | omega | exact ⟨g, q⟩ | exact ⟨trivial, q⟩ | exact ⟨g, q.1, q.2.1⟩ | exact ⟨g, q.2.2⟩) | (intro g; have q := f7 (by first | exact g | (rw [g]; rfl) | simpa using g); first | exact q | exact ⟨q.1, q.2.1⟩ | exact q.2.2 | omega | exact ⟨g, q⟩ | exact ⟨trivial, q⟩ | exact ⟨g, q.1, q.2.1⟩ | exact ⟨g, q.2.2⟩) | (intro g; have q := f8 (by first | exact g | (rw [g]; rfl) | simpa using g); first | exact q | exact ⟨q.1, q.2.1⟩ | exact q.2.2 | omega | exact ⟨g, q⟩ | exact ⟨trivial, q⟩ | exact ⟨g, q.1, q.2.1⟩ | exact ⟨g, q.2.2⟩) | (intro g; have q := f9 (by first | exact g | (rw [g]; rfl) | simpa using g); first | exact q | exact ⟨q.1, q.2.1⟩ | exact q.2.2 | omega | exact ⟨g, q⟩ | exact ⟨trivial, q⟩ | exact ⟨g, q.1, q.2.1⟩ | exact ⟨g, q.2.2⟩) | (intro g; have q := f10 (by first | exact g | (rw [g]; rfl) | simpa using g); first | exact q | exact ⟨q.1, q.2.1⟩ | exact q.2.2 | omega | exact ⟨g, q⟩ | exact ⟨trivial, q⟩ | exact ⟨g, q.1, q.2.1⟩ | exact ⟨g, q.2.2⟩) | (intro g; (try have q0 := f6 (by first | exact g | (rw [g]; rfl) | simpa using g)); (try have q1 := f7 (by first | exact g | (rw [g]; rfl) | simpa using g)); (try have q2 := f8 (by first | exact g | (rw [g]; rfl) | simpa using g)); (try have q3 := f9 (by first | exact g | (rw [g]; rfl) | simpa using g)); (try have q4 := f10 (by first | exact g | (rw [g]; rfl) | simpa using g)); and_intros <;> first | (with_reducible trivial) | assumption | exact nfc | (intro g2; rw [g, g2]; rfl) | (intro g2; assumption) | (simp only [g, Bool.true_and, Bool.and_true, Bool.not_false, Bool.not_true]; assumption) | grind) | (and_intros <;> first | (with_reducible trivial) | omega | assumption | exact nfc | first | exact rfl | exact trivial | exact fitI | exact .inr rfl | exact .inl rfl | exact fun x hx => absurd hx (by omega)) | grind))
      refine condM rfl trivial (fun hc => ?_) (fun hc => ?_)
      · have hk11 : (((!bEq ((gd p0.List v1_1.toNat).Aid) ((gd p1.List v1_1.toNat).Aid)) || (!bB ((gd p0.List v1_1.toNat).Asleep) ((gd p1.List v1_1.toNat).Asleep))) || (!(gt (F59 ((gd p0.List v1_1.toNat).Held) ((gd p1.List v1_1.toNat).Held))))) = true := by simpa using hc
        replace H := cond_t hc H
        refine sq ctNo_ok ?_
        simp only [go_sem, Nat.reduceLeDiff, Nat.reduceLT, Nat.reduceAdd, Nat.reduceMul, Nat.reduceSub, Nat.reduceEqDiff, Nat.reduceBEq, Int.reduceToNat, reduceCtorEq]
        refine rg ctNo_ok ?_
        simp only [go_sem, Nat.reduceLeDiff, Nat.reduceLT, Nat.reduceAdd, Nat.reduceMul, Nat.reduceSub, Nat.reduceEqDiff, Nat.reduceBEq, Int.reduceToNat, reduceCtorEq]
        have H := hn2_1 _ (Option.some.inj H).symm
        obtain rfl := Option.some.inj H
        first | rfl | simp only [Bool.and_false, Bool.false_and, Bool.and_true, Bool.true_and]
      have hk11 : (((!bEq ((gd p0.List v1_1.toNat).Aid) ((gd p1.List v1_1.toNat).Aid)) || (!bB ((gd p0.List v1_1.toNat).Asleep) ((gd p1.List v1_1.toNat).Asleep))) || (!(gt (F59 ((gd p0.List v1_1.toNat).Held) ((gd p1.List v1_1.toNat).Held))))) = false := by simpa using hc
      replace H := cond_f hc H
      refine rg ctNo_ok ?_
      simp only [go_sem, Nat.reduceLeDiff, Nat.reduceLT, Nat.reduceAdd, Nat.reduceMul, Nat.reduceSub, Nat.reduceEqDiff, Nat.reduceBEq, Int.reduceToNat, reduceCtorEq]
      refine rg ctNo_ok ?_
      simp only [go_sem, Nat.reduceLeDiff, Nat.reduceLT, Nat.reduceAdd, Nat.reduceMul, Nat.reduceSub, Nat.reduceEqDiff, Nat.reduceBEq, Int.reduceToNat, reduceCtorEq]
      refine ⟨_, (Option.some.inj H).symm, ?_⟩
      refine SubF_of ⟨[some 0, some 1], ?_, ?_, by rfl, by rfl⟩
      · simp [CvL, Cv, getM, tp, tp, tpg, t8]
      · exact ⟨cv, cv, trivial⟩
    · try dsimp only at H ⊢
      try simp only [tp]
      try simp only [m_normal, k_normal, b_normal, kL_normal, r_normal]
      refine sq ctNo_ok ?_
      simp only [go_sem, Nat.reduceLeDiff, Nat.reduceLT, Nat.reduceAdd, Nat.reduceMul, Nat.reduceSub, Nat.reduceEqDiff, Nat.reduceBEq, Int.reduceToNat, reduceCtorEq]
      refine rg ctNo_ok ?_
      simp only [go_sem, Nat.reduceLeDiff, Nat.reduceLT, Nat.reduceAdd, Nat.reduceMul, Nat.reduceSub, Nat.reduceEqDiff, Nat.reduceBEq, Int.reduceToNat, reduceCtorEq]
      obtain rfl := Option.some.inj H
      first | rfl | simp only [Bool.and_false, Bool.false_and, Bool.and_true, Bool.true_and]
  · cases hb
/-! hotspot/hotspotlaw35.alive -/
noncomputable def ct32t0 : Ct := tab [(29, genC body29), (40, genC body40)]
theorem ct32t0_ok : CtOk Try.prog ct32t0 := tab_cons ok29 <| tab_cons ok40 <| tab_nil
theorem ct32t0_29 (l : List AV) (h : List ABlk) : ct32t0 29 l h = genC body29 l h := rfl
theorem ct32t0_40 (l : List AV) (h : List ABlk) : ct32t0 40 l h = genC body40 l h := rfl
noncomputable def F32 : Option (Bool) :=
  (F40).bind fun r1 => (F29 r1 (TTriggerPlan.mk 0 12 2) 3 (A6u8.mk 1 0 0 0 0 0) (A6u8.mk 2 0 0 0 0 0)).bind fun r3 => need (bif (!(((!bEq r3.2.2 0) || (!bEq (r3.1.Left.length : Nat) 2)) || (!bEq (r3.2.1.List.length : Nat) 1))) then inb 0 r3.2.1.List.length else true) <| bif ((((!bEq r3.2.2 0) || (!bEq (r3.1.Left.length : Nat) 2)) || (!bEq (r3.2.1.List.length : Nat) 1)) || (!bEq (((gd r3.2.1.List 0).Held).length : Nat) 2)) then (some false) else (need (inb 0 r3.1.Left.length) <| need (inb 1 r3.1.Left.length) <| some ((((((bEq (((gd r3.1.Left 0).Head).Seq) 2) && (bEq (((gd r3.1.Left 1).Head).Seq) 1)) && ((gd r3.1.Left 0).Head).MoreData) && ((gd r3.1.Left 1).Head).MoreData) && (!(((gd r3.1.Left 0).Head).Eosp))) && ((gd r3.1.Left 1).Head).Eosp))
noncomputable def body32 : List AV -> AR
  | [] => .pure ((F32).isSome = true) (.bool (gt F32))
  | _ => .fail
set_option maxHeartbeats 4000000 in
set_option maxRecDepth 20000 in
theorem ok32 : FnOk Try.prog 32 (pureC body32) := by
  refine pure_fnM body32 (rs := [.tmp 0]) Try.func32 (by kernel_rfl) rfl rfl ?_
  intro l ob v hb hob
  unfold body32 at hb
  split at hb
  · injection hb with q1 q2; subst q1 q2
    obtain ⟨r, H⟩ := Option.isSome_iff_exists.1 hob
    rw [H, gt_some]
    refine ⟨[], _, (fun E vs F => F), rfl, rfl, ?_⟩
    rw [Try.ntmps32]
    simp only [List.length_cons, List.length_nil, Nat.reduceAdd, Nat.reduceSub, List.replicate_succ, List.replicate_zero, List.cons_append, List.nil_append]
    unfold F32 at H
    try dsimp only at H
    refine sq ctNo_ok ?_
    simp only [go_sem, Nat.reduceLeDiff, Nat.reduceLT, Nat.reduceAdd, Nat.reduceMul, Nat.reduceSub, Nat.reduceEqDiff, Nat.reduceBEq, Int.reduceToNat, reduceCtorEq]
    refine seqM ?_
    obtain ⟨r1, e2, H⟩ := bsi H
    obtain ⟨r3, e4, H⟩ := bsi H
    refine rg ct32t0_ok ?_
    simp only [go_sem, Nat.reduceLeDiff, Nat.reduceLT, Nat.reduceAdd, Nat.reduceMul, Nat.reduceSub, Nat.reduceEqDiff, Nat.reduceBEq, Int.reduceToNat, reduceCtorEq, ct32t0_29, body29, ct32t0_40, body40, e2, e4]
    repeat ((with_reducible refine And.intro ?_ ?_); focus exact an0)
    refine seqM ?_
    refine seqM ?_
    obtain ⟨f5, H⟩ := need_some.1 H
    replace f5 := g_iff.1 f5
    replace f5 := fun g => inb_iff.1 (f5 g)
    refine rg ctNo_ok ?_
    simp only [go_sem, Nat.reduceLeDiff, Nat.reduceLT, Nat.reduceAdd, Nat.reduceMul, Nat.reduceSub, Nat.reduceEqDiff, Nat.reduceBEq, Int.reduceToNat, reduceCtorEq]
    repeat ((with_reducible refine And.intro ?_ ?_); focus (first | (with_reducible trivial) | omega | exact f5 | (intro g; have q := f5 (by first | exact g | (rw [g]; rfl) | simpa using g); first | exact q | exact ⟨q.1, q.2.1⟩ | exact q.2.2 | omega | exact ⟨g, q⟩ | exact ⟨trivial, q⟩ | exact ⟨g, q.1, q.2.1⟩ | exact ⟨g, q.2.2⟩) | (intro g; (try have q0 := f5 (by first | exact g | (rw [g]; rfl) | simpa using g)); and_intros <;> first | (with_reducible trivial) | assumption | exact nfc | (intro g2; rw [g, g2]; rfl) | (intro g2; assumption) | (simp only [g, Bool.true_and, Bool.and_true, Bool.not_false, Bool.not_true]; assumption) | grind) | (and_intros <;> first | (with_reducible trivial) | omega | assumption | exact nfc | first | exact rfl | exact trivial | exact fitI | exact .inr rfl | exact .inl rfl | exact fun x hx => absurd hx (by omega)) | grind))
    refine condM rfl trivial (fun hc => ?_) (fun hc => ?_)
    · have hk6 : ((((!bEq r3.2.2 0) || (!bEq (r3.1.Left.length : Nat) 2)) || (!bEq (r3.2.1.List.length : Nat) 1)) || (!bEq (((gd r3.2.1.List 0).Held).length : Nat) 2)) = true := by simpa using hc
      replace H := cond_t hc H
      refine sq ctNo_ok ?_
      simp only [go_sem, Nat.reduceLeDiff, Nat.reduceLT, Nat.reduceAdd, Nat.reduceMul, Nat.reduceSub, Nat.reduceEqDiff, Nat.reduceBEq, Int.reduceToNat, reduceCtorEq]
      refine rg ctNo_ok ?_
      simp only [go_sem, Nat.reduceLeDiff, Nat.reduceLT, Nat.reduceAdd, Nat.reduceMul, Nat.reduceSub, Nat.reduceEqDiff, Nat.reduceBEq, Int.reduceToNat, reduceCtorEq]
      obtain rfl := Option.some.inj H
      first | rfl | simp only [Bool.and_false, Bool.false_and, Bool.and_true, Bool.true_and]
    have hk6 : ((((!bEq r3.2.2 0) || (!bEq (r3.1.Left.length : Nat) 2)) || (!bEq (r3.2.1.List.length : Nat) 1)) || (!bEq (((gd r3.2.1.List 0).Held).length : Nat) 2)) = false := by simpa using hc
    replace H := cond_f hc H
    refine rg ctNo_ok ?_
    simp only [go_sem, Nat.reduceLeDiff, Nat.reduceLT, Nat.reduceAdd, Nat.reduceMul, Nat.reduceSub, Nat.reduceEqDiff, Nat.reduceBEq, Int.reduceToNat, reduceCtorEq]
    refine seqM ?_
    obtain ⟨f7, H⟩ := need_some.1 H
    replace f7 := inb_iff.1 f7
    obtain ⟨f8, H⟩ := need_some.1 H
    replace f8 := inb_iff.1 f8
    refine draw_rule shT_ok ctNo_ok 2 (by kernel_rfl) (by kernel_rfl) ?_
    intro an han
    simp only [d_nil, d_cons, nxtD, xrD, xoD, roEq, minL, List.append_nil, refsOp, refs, refsL, mask, maskF, place, placeF, okLog, pairOk, hit, inL, slotsF, ren, renL, rnN, nrH, nrB, nrL, nr, dead0, deadS, List.replicate_zero, List.replicate_succ, Nat.sub_self, Nat.add_zero, Nat.zero_add, Nat.reduceSub, Nat.not_lt_zero, Nat.zero_le, Nat.lt_add_one, go_sem, Nat.reduceLeDiff, Nat.reduceLT, Nat.reduceAdd, Nat.reduceMul, Nat.reduceSub, Nat.reduceEqDiff, Nat.reduceBEq, Int.reduceToNat, reduceCtorEq, f7, f8]
    repeat ((with_reducible refine And.intro ?_ ?_); focus exact an6)
    refine sq ctNo_ok ?_
    simp only [go_sem, Nat.reduceLeDiff, Nat.reduceLT, Nat.reduceAdd, Nat.reduceMul, Nat.reduceSub, Nat.reduceEqDiff, Nat.reduceBEq, Int.reduceToNat, reduceCtorEq]
    repeat ((with_reducible refine And.intro ?_ ?_); focus exact an5)
    refine rg ctNo_ok ?_
    simp only [go_sem, Nat.reduceLeDiff, Nat.reduceLT, Nat.reduceAdd, Nat.reduceMul, Nat.reduceSub, Nat.reduceEqDiff, Nat.reduceBEq, Int.reduceToNat, reduceCtorEq]
    obtain rfl := Option.some.inj H
    first | rfl | simp only [Bool.and_false, Bool.false_and, Bool.and_true, Bool.true_and]
  · cases hb
end Go.Proofs.Ytnclkplbeenmdaa
