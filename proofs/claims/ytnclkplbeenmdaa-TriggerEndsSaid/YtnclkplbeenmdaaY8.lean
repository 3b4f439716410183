/-
  What TriggerEnds reaches.
-/
import Derived.Test.YtnclkplbeenmdaaY8p2
namespace Go.Proofs.Ytnclkplbeenmdaa
open Go.Am
set_option linter.unusedVariables false
set_option linter.unusedSimpArgs false
/-! hotspot/trigger.Next -/
noncomputable def ct13t0 : Ct := tab [(22, pureC body22)]
theorem ct13t0_ok : CtOk Try.prog ct13t0 := tab_cons ok22 <| tab_nil
theorem ct13t0_22 (l : List AV) (h : List ABlk) : ct13t0 22 l h = pureC body22 l h := rfl
noncomputable def ct13t1 : Ct := tab [(44, genC body44_0)]
theorem ct13t1_ok : CtOk Try.prog ct13t1 := tab_cons ok44_0 <| tab_nil
theorem ct13t1_44 (l : List AV) (h : List ABlk) : ct13t1 44 l h = genC body44_0 l h := rfl
noncomputable def ct13t2 : Ct := tab [(44, edC body44)]
theorem ct13t2_ok : CtOk Try.prog ct13t2 := tab_cons ok44 <| tab_nil
theorem ct13t2_44 (l : List AV) (h : List ABlk) : ct13t2 44 l h = edC body44 l h := rfl
noncomputable def F13_L1 (p0 : TPeriod) (v1_1 : Int) (v1_2 : List TFrame) : Option (Lp (Int × (List TFrame)) ((List TFrame) ⊕ (TFrame × TPeriod × Int))) :=
  bif (bLt v1_1 (p0.Left.length - 1 : Nat)) then (need (inb v1_1 (p0.Left.length - 1)) <| (F44_0 (TFrame.mk (THeader.mk (((gd (p0.Left.drop 1) v1_1.toNat).Head).Kind) (((gd (p0.Left.drop 1) v1_1.toNat).Head).Sub) (((gd (p0.Left.drop 1) v1_1.toNat).Head).ToDs) (((gd (p0.Left.drop 1) v1_1.toNat).Head).FromDs) (((gd (p0.Left.drop 1) v1_1.toNat).Head).More) (((gd (p0.Left.drop 1) v1_1.toNat).Head).Retry) (((gd (p0.Left.drop 1) v1_1.toNat).Head).Sleep) (((gd (p0.Left.drop 1) v1_1.toNat).Head).MoreData) (((gd (p0.Left.drop 1) v1_1.toNat).Head).Protected) (((gd (p0.Left.drop 1) v1_1.toNat).Head).Duration) (A6u8.mk ((((gd (p0.Left.drop 1) v1_1.toNat).Head).A1).x0) ((((gd (p0.Left.drop 1) v1_1.toNat).Head).A1).x1) ((((gd (p0.Left.drop 1) v1_1.toNat).Head).A1).x2) ((((gd (p0.Left.drop 1) v1_1.toNat).Head).A1).x3) ((((gd (p0.Left.drop 1) v1_1.toNat).Head).A1).x4) ((((gd (p0.Left.drop 1) v1_1.toNat).Head).A1).x5)) (A6u8.mk ((((gd (p0.Left.drop 1) v1_1.toNat).Head).A2).x0) ((((gd (p0.Left.drop 1) v1_1.toNat).Head).A2).x1) ((((gd (p0.Left.drop 1) v1_1.toNat).Head).A2).x2) ((((gd (p0.Left.drop 1) v1_1.toNat).Head).A2).x3) ((((gd (p0.Left.drop 1) v1_1.toNat).Head).A2).x4) ((((gd (p0.Left.drop 1) v1_1.toNat).Head).A2).x5)) (A6u8.mk ((((gd (p0.Left.drop 1) v1_1.toNat).Head).A3).x0) ((((gd (p0.Left.drop 1) v1_1.toNat).Head).A3).x1) ((((gd (p0.Left.drop 1) v1_1.toNat).Head).A3).x2) ((((gd (p0.Left.drop 1) v1_1.toNat).Head).A3).x3) ((((gd (p0.Left.drop 1) v1_1.toNat).Head).A3).x4) ((((gd (p0.Left.drop 1) v1_1.toNat).Head).A3).x5)) (A6u8.mk ((((gd (p0.Left.drop 1) v1_1.toNat).Head).A4).x0) ((((gd (p0.Left.drop 1) v1_1.toNat).Head).A4).x1) ((((gd (p0.Left.drop 1) v1_1.toNat).Head).A4).x2) ((((gd (p0.Left.drop 1) v1_1.toNat).Head).A4).x3) ((((gd (p0.Left.drop 1) v1_1.toNat).Head).A4).x4) ((((gd (p0.Left.drop 1) v1_1.toNat).Head).A4).x5)) (((gd (p0.Left.drop 1) v1_1.toNat).Head).Seq) (((gd (p0.Left.drop 1) v1_1.toNat).Head).Frag) (((gd (p0.Left.drop 1) v1_1.toNat).Head).Tid) (((gd (p0.Left.drop 1) v1_1.toNat).Head).Ack) (((gd (p0.Left.drop 1) v1_1.toNat).Head).Amsdu) (((gd (p0.Left.drop 1) v1_1.toNat).Head).Eosp)) ((gd (p0.Left.drop 1) v1_1.toNat).Body))).bind fun r5 => need (capb 104 (v1_2.length + 1)) <| some (.next (wr .i64 (v1_1 + 1), (v1_2 ++ [r5])))) else (some (.done (.inl v1_2)))
noncomputable def F13 (p0 : TPeriod) : Option (TFrame × TPeriod × Int) :=
  (F22 p0).bind fun r1 => bif (!bEq r1 0) then (some ((TFrame.mk (THeader.mk 0 0 false false false false false false false 0 (A6u8.mk 0 0 0 0 0 0) (A6u8.mk 0 0 0 0 0 0) (A6u8.mk 0 0 0 0 0 0) (A6u8.mk 0 0 0 0 0 0) 0 0 0 0 false false) []), (TPeriod.mk 0 []), r1)) else (bif (bEq (p0.Left.length : Nat) 0) then (some ((TFrame.mk (THeader.mk 0 0 false false false false false false false 0 (A6u8.mk 0 0 0 0 0 0) (A6u8.mk 0 0 0 0 0 0) (A6u8.mk 0 0 0 0 0 0) (A6u8.mk 0 0 0 0 0 0) 0 0 0 0 false false) []), (TPeriod.mk 0 []), 6)) else (need (slb 1 (p0.Left.length : Nat) p0.Left.length) <| lp (loopD (fun s => F13_L1 p0 s.1 s.2) (0, [])) (fun w1_3 => need (inb 0 p0.Left.length) <| (F44 (TFrame.mk (THeader.mk (((gd p0.Left 0).Head).Kind) (((gd p0.Left 0).Head).Sub) (((gd p0.Left 0).Head).ToDs) (((gd p0.Left 0).Head).FromDs) (((gd p0.Left 0).Head).More) (((gd p0.Left 0).Head).Retry) (((gd p0.Left 0).Head).Sleep) (((gd p0.Left 0).Head).MoreData) (((gd p0.Left 0).Head).Protected) (((gd p0.Left 0).Head).Duration) (A6u8.mk ((((gd p0.Left 0).Head).A1).x0) ((((gd p0.Left 0).Head).A1).x1) ((((gd p0.Left 0).Head).A1).x2) ((((gd p0.Left 0).Head).A1).x3) ((((gd p0.Left 0).Head).A1).x4) ((((gd p0.Left 0).Head).A1).x5)) (A6u8.mk ((((gd p0.Left 0).Head).A2).x0) ((((gd p0.Left 0).Head).A2).x1) ((((gd p0.Left 0).Head).A2).x2) ((((gd p0.Left 0).Head).A2).x3) ((((gd p0.Left 0).Head).A2).x4) ((((gd p0.Left 0).Head).A2).x5)) (A6u8.mk ((((gd p0.Left 0).Head).A3).x0) ((((gd p0.Left 0).Head).A3).x1) ((((gd p0.Left 0).Head).A3).x2) ((((gd p0.Left 0).Head).A3).x3) ((((gd p0.Left 0).Head).A3).x4) ((((gd p0.Left 0).Head).A3).x5)) (A6u8.mk ((((gd p0.Left 0).Head).A4).x0) ((((gd p0.Left 0).Head).A4).x1) ((((gd p0.Left 0).Head).A4).x2) ((((gd p0.Left 0).Head).A4).x3) ((((gd p0.Left 0).Head).A4).x4) ((((gd p0.Left 0).Head).A4).x5)) (((gd p0.Left 0).Head).Seq) (((gd p0.Left 0).Head).Frag) (((gd p0.Left 0).Head).Tid) (((gd p0.Left 0).Head).Ack) (((gd p0.Left 0).Head).Amsdu) (((gd p0.Left 0).Head).Eosp)) ((gd p0.Left 0).Body))).bind fun r9 => some ((TFrame.mk (THeader.mk r9.Head.Kind r9.Head.Sub r9.Head.ToDs r9.Head.FromDs r9.Head.More r9.Head.Retry r9.Head.Sleep r9.Head.MoreData r9.Head.Protected r9.Head.Duration (A6u8.mk r9.Head.A1.x0 r9.Head.A1.x1 r9.Head.A1.x2 r9.Head.A1.x3 r9.Head.A1.x4 r9.Head.A1.x5) (A6u8.mk r9.Head.A2.x0 r9.Head.A2.x1 r9.Head.A2.x2 r9.Head.A2.x3 r9.Head.A2.x4 r9.Head.A2.x5) (A6u8.mk r9.Head.A3.x0 r9.Head.A3.x1 r9.Head.A3.x2 r9.Head.A3.x3 r9.Head.A3.x4 r9.Head.A3.x5) (A6u8.mk r9.Head.A4.x0 r9.Head.A4.x1 r9.Head.A4.x2 r9.Head.A4.x3 r9.Head.A4.x4 r9.Head.A4.x5) r9.Head.Seq r9.Head.Frag r9.Head.Tid r9.Head.Ack r9.Head.Amsdu r9.Head.Eosp) r9.Body), (TPeriod.mk p0.Aid w1_3), 0)) some))
noncomputable def body13 : List AV -> Nat -> AR
  | [v0], _ => .pure (aK 2 k_TPeriod v0 /\ (F13 (g_TPeriod (aL v0))).isSome = true) (.tup [.agg (.int .u8 ((((gt (F13 (g_TPeriod (aL v0)))).1).Head).Kind) :: .int .u8 ((((gt (F13 (g_TPeriod (aL v0)))).1).Head).Sub) :: .bool ((((gt (F13 (g_TPeriod (aL v0)))).1).Head).ToDs) :: .bool ((((gt (F13 (g_TPeriod (aL v0)))).1).Head).FromDs) :: .bool ((((gt (F13 (g_TPeriod (aL v0)))).1).Head).More) :: .bool ((((gt (F13 (g_TPeriod (aL v0)))).1).Head).Retry) :: .bool ((((gt (F13 (g_TPeriod (aL v0)))).1).Head).Sleep) :: .bool ((((gt (F13 (g_TPeriod (aL v0)))).1).Head).MoreData) :: .bool ((((gt (F13 (g_TPeriod (aL v0)))).1).Head).Protected) :: .int .i64 ((((gt (F13 (g_TPeriod (aL v0)))).1).Head).Duration) :: .int .u8 (((((gt (F13 (g_TPeriod (aL v0)))).1).Head).A1).x0) :: .int .u8 (((((gt (F13 (g_TPeriod (aL v0)))).1).Head).A1).x1) :: .int .u8 (((((gt (F13 (g_TPeriod (aL v0)))).1).Head).A1).x2) :: .int .u8 (((((gt (F13 (g_TPeriod (aL v0)))).1).Head).A1).x3) :: .int .u8 (((((gt (F13 (g_TPeriod (aL v0)))).1).Head).A1).x4) :: .int .u8 (((((gt (F13 (g_TPeriod (aL v0)))).1).Head).A1).x5) :: .int .u8 (((((gt (F13 (g_TPeriod (aL v0)))).1).Head).A2).x0) :: .int .u8 (((((gt (F13 (g_TPeriod (aL v0)))).1).Head).A2).x1) :: .int .u8 (((((gt (F13 (g_TPeriod (aL v0)))).1).Head).A2).x2) :: .int .u8 (((((gt (F13 (g_TPeriod (aL v0)))).1).Head).A2).x3) :: .int .u8 (((((gt (F13 (g_TPeriod (aL v0)))).1).Head).A2).x4) :: .int .u8 (((((gt (F13 (g_TPeriod (aL v0)))).1).Head).A2).x5) :: .int .u8 (((((gt (F13 (g_TPeriod (aL v0)))).1).Head).A3).x0) :: .int .u8 (((((gt (F13 (g_TPeriod (aL v0)))).1).Head).A3).x1) :: .int .u8 (((((gt (F13 (g_TPeriod (aL v0)))).1).Head).A3).x2) :: .int .u8 (((((gt (F13 (g_TPeriod (aL v0)))).1).Head).A3).x3) :: .int .u8 (((((gt (F13 (g_TPeriod (aL v0)))).1).Head).A3).x4) :: .int .u8 (((((gt (F13 (g_TPeriod (aL v0)))).1).Head).A3).x5) :: .int .u8 (((((gt (F13 (g_TPeriod (aL v0)))).1).Head).A4).x0) :: .int .u8 (((((gt (F13 (g_TPeriod (aL v0)))).1).Head).A4).x1) :: .int .u8 (((((gt (F13 (g_TPeriod (aL v0)))).1).Head).A4).x2) :: .int .u8 (((((gt (F13 (g_TPeriod (aL v0)))).1).Head).A4).x3) :: .int .u8 (((((gt (F13 (g_TPeriod (aL v0)))).1).Head).A4).x4) :: .int .u8 (((((gt (F13 (g_TPeriod (aL v0)))).1).Head).A4).x5) :: .int .i64 ((((gt (F13 (g_TPeriod (aL v0)))).1).Head).Seq) :: .int .i64 ((((gt (F13 (g_TPeriod (aL v0)))).1).Head).Frag) :: .int .i64 ((((gt (F13 (g_TPeriod (aL v0)))).1).Head).Tid) :: .int .u8 ((((gt (F13 (g_TPeriod (aL v0)))).1).Head).Ack) :: .bool ((((gt (F13 (g_TPeriod (aL v0)))).1).Head).Amsdu) :: .bool ((((gt (F13 (g_TPeriod (aL v0)))).1).Head).Eosp) :: .ro 1 ((((gt (F13 (g_TPeriod (aL v0)))).1).Body).length) false (enR c_u8 (((gt (F13 (g_TPeriod (aL v0)))).1).Body)) :: []), .agg [.int .i64 (((gt (F13 (g_TPeriod (aL v0)))).2.1).Aid), .ro 41 ((((gt (F13 (g_TPeriod (aL v0)))).2.1).Left).length) false (enR c_TFrame (((gt (F13 (g_TPeriod (aL v0)))).2.1).Left))], .int .i64 ((gt (F13 (g_TPeriod (aL v0)))).2.2)])
  | _, _ => .fail
set_option maxHeartbeats 4000000 in
set_option maxRecDepth 20000 in
theorem ok13 : FnOk Try.prog 13 (genC body13) := by
  refine gen_fn body13 (rs := [.cell 2 30, .cell 3 33, .tmp 4]) Try.func13 (by kernel_rfl) rfl rfl ?_
  intro l s ob v ns hb hob
  rcases hb with ⟨hb, rfl⟩ | hb
  · unfold body13 at hb
    split at hb
    · rename_i v0
      injection hb with q1 q2; subst q1 q2
      obtain ⟨hk0_0, hob⟩ := hob
      obtain ⟨r, H⟩ := Option.isSome_iff_exists.1 hob
      rw [H, gt_some]
      have hw0 := wA_TPeriod hk0_0
      generalize g_TPeriod (aL v0) = p0 at H hw0
      refine ⟨[.agg [.int .i64 p0.Aid, .ro 41 p0.Left.length false (enR c_TFrame p0.Left)]], .tup [.agg (.int .u8 r.1.Head.Kind :: .int .u8 r.1.Head.Sub :: .bool r.1.Head.ToDs :: .bool r.1.Head.FromDs :: .bool r.1.Head.More :: .bool r.1.Head.Retry :: .bool r.1.Head.Sleep :: .bool r.1.Head.MoreData :: .bool r.1.Head.Protected :: .int .i64 r.1.Head.Duration :: .int .u8 r.1.Head.A1.x0 :: .int .u8 r.1.Head.A1.x1 :: .int .u8 r.1.Head.A1.x2 :: .int .u8 r.1.Head.A1.x3 :: .int .u8 r.1.Head.A1.x4 :: .int .u8 r.1.Head.A1.x5 :: .int .u8 r.1.Head.A2.x0 :: .int .u8 r.1.Head.A2.x1 :: .int .u8 r.1.Head.A2.x2 :: .int .u8 r.1.Head.A2.x3 :: .int .u8 r.1.Head.A2.x4 :: .int .u8 r.1.Head.A2.x5 :: .int .u8 r.1.Head.A3.x0 :: .int .u8 r.1.Head.A3.x1 :: .int .u8 r.1.Head.A3.x2 :: .int .u8 r.1.Head.A3.x3 :: .int .u8 r.1.Head.A3.x4 :: .int .u8 r.1.Head.A3.x5 :: .int .u8 r.1.Head.A4.x0 :: .int .u8 r.1.Head.A4.x1 :: .int .u8 r.1.Head.A4.x2 :: .int .u8 r.1.Head.A4.x3 :: .int .u8 r.1.Head.A4.x4 :: .int .u8 r.1.Head.A4.x5 :: .int .i64 r.1.Head.Seq :: .int .i64 r.1.Head.Frag :: .int .i64 r.1.Head.Tid :: .int .u8 r.1.Head.Ack :: .bool r.1.Head.Amsdu :: .bool r.1.Head.Eosp :: .ro 1 r.1.Body.length false (enR c_u8 r.1.Body) :: []), .agg [.int .i64 r.2.1.Aid, .ro 41 r.2.1.Left.length false (enR c_TFrame r.2.1.Left)], .int .i64 r.2.2], [], (fun E vs F => FR_wk1 hw0.1 F (fun vs F => F)), by simp only [ren, renL], trivial, ?_⟩
      rw [Try.ntmps13]
      simp only [List.length_cons, List.length_nil, Nat.reduceAdd, Nat.reduceSub, List.replicate_succ, List.replicate_zero, List.cons_append, List.nil_append]
      unfold F13 at H
      try dsimp only at H
      refine sq ctNo_ok ?_
      simp only [go_sem, Nat.reduceLeDiff, Nat.reduceLT, Nat.reduceAdd, Nat.reduceMul, Nat.reduceSub, Nat.reduceEqDiff, Nat.reduceBEq, Int.reduceToNat, reduceCtorEq]
      refine seqM ?_
      refine seqM ?_
      obtain ⟨r1, e2, H⟩ := bsi H
      refine rg ct13t0_ok ?_
      simp only [go_sem, Nat.reduceLeDiff, Nat.reduceLT, Nat.reduceAdd, Nat.reduceMul, Nat.reduceSub, Nat.reduceEqDiff, Nat.reduceBEq, Int.reduceToNat, reduceCtorEq, ct13t0_22, body22, e2]
      repeat ((with_reducible refine And.intro ?_ ?_); focus (first | (and_intros <;> first | (with_reducible trivial) | omega | assumption | exact nfc | first | exact rfl | exact trivial | exact fitI | exact .inr rfl | exact .inl rfl | exact fun x hx => absurd hx (by omega)) | grind))
      refine sq ctNo_ok ?_
      simp only [go_sem, Nat.reduceLeDiff, Nat.reduceLT, Nat.reduceAdd, Nat.reduceMul, Nat.reduceSub, Nat.reduceEqDiff, Nat.reduceBEq, Int.reduceToNat, reduceCtorEq]
      refine condM rfl trivial (fun hc => ?_) (fun hc => ?_)
      · replace H := cond_t hc H
        refine sq ctNo_ok ?_
        simp only [go_sem, Nat.reduceLeDiff, Nat.reduceLT, Nat.reduceAdd, Nat.reduceMul, Nat.reduceSub, Nat.reduceEqDiff, Nat.reduceBEq, Int.reduceToNat, reduceCtorEq]
        repeat ((with_reducible refine And.intro ?_ ?_); focus (first | (with_reducible trivial) | omega | grind))
        refine rg ctNo_ok ?_
        simp only [go_sem, Nat.reduceLeDiff, Nat.reduceLT, Nat.reduceAdd, Nat.reduceMul, Nat.reduceSub, Nat.reduceEqDiff, Nat.reduceBEq, Int.reduceToNat, reduceCtorEq]
        obtain rfl := Option.some.inj H
        refine ⟨[0, 1, 2], ?_, ?_, [], ?_, ?_, rfl⟩
        · simp only [go_sem, Nat.reduceEqDiff, Nat.reduceBEq, Nat.reduceAdd]
          try (and_intros <;> first | (with_reducible trivial) | omega | exact nfc | trivial)
        · simp only [go_sem, Nat.reduceEqDiff, Nat.reduceBEq, Nat.reduceAdd]
          try (and_intros <;> first | (with_reducible trivial) | omega | exact nfc | trivial)
        · simp only [go_sem, Nat.reduceEqDiff, Nat.reduceBEq, Nat.reduceAdd]
          exact Cv_tup (CvL_cons (Cv_agg (CvL_cons Cv_int (CvL_cons Cv_int (CvL_cons Cv_bool (CvL_cons Cv_bool (CvL_cons Cv_bool (CvL_cons Cv_bool (CvL_cons Cv_bool (CvL_cons Cv_bool (CvL_cons Cv_bool (CvL_cons Cv_int (CvL_cons Cv_int (CvL_cons Cv_int (CvL_cons Cv_int (CvL_cons Cv_int (CvL_cons Cv_int (CvL_cons Cv_int (CvL_cons Cv_int (CvL_cons Cv_int (CvL_cons Cv_int (CvL_cons Cv_int (CvL_cons Cv_int (CvL_cons Cv_int (CvL_cons Cv_int (CvL_cons Cv_int (CvL_cons Cv_int (CvL_cons Cv_int (CvL_cons Cv_int (CvL_cons Cv_int (CvL_cons Cv_int (CvL_cons Cv_int (CvL_cons Cv_int (CvL_cons Cv_int (CvL_cons Cv_int (CvL_cons Cv_int (CvL_cons Cv_int (CvL_cons Cv_int (CvL_cons Cv_int (CvL_cons Cv_int (CvL_cons Cv_bool (CvL_cons Cv_bool (CvL_cons (Cv_ronil (α := Int)) CvL_nil)))))))))))))))))))))))))))))))))))))))))) (CvL_cons (Cv_agg (CvL_cons Cv_int (CvL_cons (Cv_ronil (α := TFrame)) CvL_nil))) (CvL_cons Cv_int CvL_nil)))
        · simp only [go_sem, Nat.reduceEqDiff, Nat.reduceBEq, Nat.reduceAdd, CvH]
      replace H := cond_f hc H
      refine rg ctNo_ok ?_
      simp only [go_sem, Nat.reduceLeDiff, Nat.reduceLT, Nat.reduceAdd, Nat.reduceMul, Nat.reduceSub, Nat.reduceEqDiff, Nat.reduceBEq, Int.reduceToNat, reduceCtorEq]
      refine seqM ?_
      refine sq ctNo_ok ?_
      simp only [go_sem, Nat.reduceLeDiff, Nat.reduceLT, Nat.reduceAdd, Nat.reduceMul, Nat.reduceSub, Nat.reduceEqDiff, Nat.reduceBEq, Int.reduceToNat, reduceCtorEq]
      repeat ((with_reducible refine And.intro ?_ ?_); focus (first | (and_intros <;> first | (with_reducible trivial) | omega | assumption | exact nfc | first | exact rfl | exact trivial | exact fitI | exact .inr rfl | exact .inl rfl | exact fun x hx => absurd hx (by omega)) | grind))
      refine condM rfl trivial (fun hc => ?_) (fun hc => ?_)
      · replace H := cond_t hc H
        refine sq ctNo_ok ?_
        simp only [go_sem, Nat.reduceLeDiff, Nat.reduceLT, Nat.reduceAdd, Nat.reduceMul, Nat.reduceSub, Nat.reduceEqDiff, Nat.reduceBEq, Int.reduceToNat, reduceCtorEq]
        repeat ((with_reducible refine And.intro ?_ ?_); focus (first | (with_reducible trivial) | omega | grind))
        refine rg ctNo_ok ?_
        simp only [go_sem, Nat.reduceLeDiff, Nat.reduceLT, Nat.reduceAdd, Nat.reduceMul, Nat.reduceSub, Nat.reduceEqDiff, Nat.reduceBEq, Int.reduceToNat, reduceCtorEq]
        obtain rfl := Option.some.inj H
        refine ⟨[0, 1, 2], ?_, ?_, [], ?_, ?_, rfl⟩
        · simp only [go_sem, Nat.reduceEqDiff, Nat.reduceBEq, Nat.reduceAdd]
          try (and_intros <;> first | (with_reducible trivial) | omega | exact nfc | trivial)
        · simp only [go_sem, Nat.reduceEqDiff, Nat.reduceBEq, Nat.reduceAdd]
          try (and_intros <;> first | (with_reducible trivial) | omega | exact nfc | trivial)
        · simp only [go_sem, Nat.reduceEqDiff, Nat.reduceBEq, Nat.reduceAdd]
          exact Cv_tup (CvL_cons (Cv_agg (CvL_cons Cv_int (CvL_cons Cv_int (CvL_cons Cv_bool (CvL_cons Cv_bool (CvL_cons Cv_bool (CvL_cons Cv_bool (CvL_cons Cv_bool (CvL_cons Cv_bool (CvL_cons Cv_bool (CvL_cons Cv_int (CvL_cons Cv_int (CvL_cons Cv_int (CvL_cons Cv_int (CvL_cons Cv_int (CvL_cons Cv_int (CvL_cons Cv_int (CvL_cons Cv_int (CvL_cons Cv_int (CvL_cons Cv_int (CvL_cons Cv_int (CvL_cons Cv_int (CvL_cons Cv_int (CvL_cons Cv_int (CvL_cons Cv_int (CvL_cons Cv_int (CvL_cons Cv_int (CvL_cons Cv_int (CvL_cons Cv_int (CvL_cons Cv_int (CvL_cons Cv_int (CvL_cons Cv_int (CvL_cons Cv_int (CvL_cons Cv_int (CvL_cons Cv_int (CvL_cons Cv_int (CvL_cons Cv_int (CvL_cons Cv_int (CvL_cons Cv_int (CvL_cons Cv_bool (CvL_cons Cv_bool (CvL_cons (Cv_ronil (α := Int)) CvL_nil)))))))))))))))))))))))))))))))))))))))))) (CvL_cons (Cv_agg (CvL_cons Cv_int (CvL_cons (Cv_ronil (α := TFrame)) CvL_nil))) (CvL_cons Cv_int CvL_nil)))
        · simp only [go_sem, Nat.reduceEqDiff, Nat.reduceBEq, Nat.reduceAdd, CvH]
      replace H := cond_f hc H
      refine rg ctNo_ok ?_
      simp only [go_sem, Nat.reduceLeDiff, Nat.reduceLT, Nat.reduceAdd, Nat.reduceMul, Nat.reduceSub, Nat.reduceEqDiff, Nat.reduceBEq, Int.reduceToNat, reduceCtorEq]
      refine sq ctNo_ok ?_
      simp only [go_sem, Nat.reduceLeDiff, Nat.reduceLT, Nat.reduceAdd, Nat.reduceMul, Nat.reduceSub, Nat.reduceEqDiff, Nat.reduceBEq, Int.reduceToNat, reduceCtorEq]
      repeat ((with_reducible refine And.intro ?_ ?_); focus (first | (with_reducible trivial) | omega | grind))
      refine seqM ?_
      refine seqM ?_
      obtain ⟨f3, H⟩ := need_some.1 H
      replace f3 := slb_iff.1 f3
      refine rg ctNo_ok ?_
      simp only [go_sem, Nat.reduceLeDiff, Nat.reduceLT, Nat.reduceAdd, Nat.reduceMul, Nat.reduceSub, Nat.reduceEqDiff, Nat.reduceBEq, Int.reduceToNat, reduceCtorEq, f3]
      repeat ((with_reducible refine And.intro ?_ ?_); focus (first | (and_intros <;> first | (with_reducible trivial) | omega | assumption | exact nfc | first | exact rfl | exact trivial | exact fitI | exact .inr rfl | exact .inl rfl | exact fun x hx => absurd hx (by omega)) | grind))
      refine blkM ?_
      refine loop_den (fun s : Int × (List TFrame) => (.top :: .ptr 0 0 0 0 :: .ptr 1 0 0 0 :: .ptr 2 0 0 0 :: tp 22 (.ro 41 (p0.Left.length - 1) false (enR c_TFrame (p0.Left.drop 1)) :: .int .i64 (p0.Left.length - 1 : Nat) :: .int .i64 s.1 :: tp 17 []))) (fun s => [.lit 33 [.int .i64 p0.Aid, .ro 41 p0.Left.length false (enR c_TFrame p0.Left)], .lit 30 (.int .u8 0 :: .int .u8 0 :: .bool false :: .bool false :: .bool false :: .bool false :: .bool false :: .bool false :: .bool false :: .int .i64 0 :: .int .u8 0 :: .int .u8 0 :: .int .u8 0 :: .int .u8 0 :: .int .u8 0 :: .int .u8 0 :: .int .u8 0 :: .int .u8 0 :: .int .u8 0 :: .int .u8 0 :: .int .u8 0 :: .int .u8 0 :: .int .u8 0 :: .int .u8 0 :: .int .u8 0 :: .int .u8 0 :: .int .u8 0 :: .int .u8 0 :: .int .u8 0 :: .int .u8 0 :: .int .u8 0 :: .int .u8 0 :: .int .u8 0 :: .int .u8 0 :: .int .i64 0 :: .int .i64 0 :: .int .i64 0 :: .int .u8 0 :: .bool false :: .bool false :: .ro 0 0 true (fun _ _ => .top) :: []), .lit 33 [.int .i64 p0.Aid, .sl 3 41 0 s.2.length false], .row 30 41 s.2.length (enR c_TFrame s.2)]) (fun e : List TFrame => (.top :: .ptr 0 0 0 0 :: .ptr 1 0 0 0 :: .ptr 2 0 0 0 :: tp 42 [])) (fun e => [.lit 33 [.int .i64 p0.Aid, .ro 41 p0.Left.length false (enR c_TFrame p0.Left)], .lit 30 (.int .u8 0 :: .int .u8 0 :: .bool false :: .bool false :: .bool false :: .bool false :: .bool false :: .bool false :: .bool false :: .int .i64 0 :: .int .u8 0 :: .int .u8 0 :: .int .u8 0 :: .int .u8 0 :: .int .u8 0 :: .int .u8 0 :: .int .u8 0 :: .int .u8 0 :: .int .u8 0 :: .int .u8 0 :: .int .u8 0 :: .int .u8 0 :: .int .u8 0 :: .int .u8 0 :: .int .u8 0 :: .int .u8 0 :: .int .u8 0 :: .int .u8 0 :: .int .u8 0 :: .int .u8 0 :: .int .u8 0 :: .int .u8 0 :: .int .u8 0 :: .int .u8 0 :: .int .i64 0 :: .int .i64 0 :: .int .i64 0 :: .int .u8 0 :: .bool false :: .bool false :: .ro 0 0 true (fun _ _ => .top) :: []), .lit 33 [.int .i64 p0.Aid, .sl 3 41 0 e.length false], .row 30 41 e.length (enR c_TFrame e)]) H ?_ (fun s o H hn1_1 hn2_1 => ?_) (fun w1_3 H => ?_)
      · refine SubF_of ⟨[some 0, some 1, some 2, none], ?_, ?_, by rfl, by rfl⟩
        · simp [CvL, Cv, getM, tp]
        · exact ⟨(by simp [CvB, CvL, Cv, blkAt, geth, getM]), (by simp [CvB, CvL, Cv, blkAt, geth, getM]), (by simp [CvB, CvL, Cv, blkAt, geth, getM]), CvB_none, trivial⟩
      · obtain ⟨v1_1, v1_2⟩ := s
        unfold F13_L1 at H
        try dsimp only at H ⊢
        try simp only [tp]
        refine sq ctNo_ok ?_
        simp only [go_sem, Nat.reduceLeDiff, Nat.reduceLT, Nat.reduceAdd, Nat.reduceMul, Nat.reduceSub, Nat.reduceEqDiff, Nat.reduceBEq, Int.reduceToNat, reduceCtorEq]
        refine seqM ?_
        refine condM' rfl trivial (fun hc => ?_) (fun hc => ?_)
        · replace H := cond_f hc H
          refine rg ctNo_ok ?_
          simp only [go_sem, Nat.reduceLeDiff, Nat.reduceLT, Nat.reduceAdd, Nat.reduceMul, Nat.reduceSub, Nat.reduceEqDiff, Nat.reduceBEq, Int.reduceToNat, reduceCtorEq]
          refine ⟨_, (Option.some.inj H).symm, ?_⟩
          refine SubF_of ⟨[some 0, some 1, some 2, some 3], ?_, ?_, by rfl, by rfl⟩
          · simp [CvL, Cv, getM, tp]
          · exact ⟨(by simp [CvB, CvL, Cv, blkAt, geth, getM]), (by simp [CvB, CvL, Cv, blkAt, geth, getM]), (by simp [CvB, CvL, Cv, blkAt, geth, getM]), CvB_row nr_TFrame (by first | rfl | (simp; done) | (simp; omega)) (fun _ _ _ _ => rfl), trivial⟩
        replace H := cond_t hc H
        refine rg ctNo_ok ?_
        simp only [go_sem, Nat.reduceLeDiff, Nat.reduceLT, Nat.reduceAdd, Nat.reduceMul, Nat.reduceSub, Nat.reduceEqDiff, Nat.reduceBEq, Int.reduceToNat, reduceCtorEq]
        refine seqM ?_
        refine blkM ?_
        refine seqM ?_
        obtain ⟨f4, H⟩ := need_some.1 H
        replace f4 := inb_iff.1 f4
        refine rg ctNo_ok ?_
        simp only [go_sem, Nat.reduceLeDiff, Nat.reduceLT, Nat.reduceAdd, Nat.reduceMul, Nat.reduceSub, Nat.reduceEqDiff, Nat.reduceBEq, Int.reduceToNat, reduceCtorEq, f4]
        repeat ((with_reducible refine And.intro ?_ ?_); focus (first | (with_reducible trivial) | omega | grind))
        obtain ⟨r5, e6, H⟩ := bsi H
        obtain ⟨f7, H⟩ := need_some.1 H
        replace f7 := capb_iff.1 f7
        refine draw_rule shT_ok ct13t1_ok 2 (by kernel_rfl) (by kernel_rfl) ?_
        intro an han
        simp only [d_nil, d_cons, nxtD, xrD, xoD, roEq, minL, List.append_nil, refsOp, refs, refsL, mask, maskF, place, placeF, okLog, pairOk, hit, inL, slotsF, ren, renL, rnN, nrH, nrB, nrL, nr, dead0, deadS, List.replicate_zero, List.replicate_succ, Nat.sub_self, Nat.add_zero, Nat.zero_add, Nat.reduceSub, Nat.not_lt_zero, Nat.zero_le, Nat.lt_add_one, go_sem, Nat.reduceLeDiff, Nat.reduceLT, Nat.reduceAdd, Nat.reduceMul, Nat.reduceSub, Nat.reduceEqDiff, Nat.reduceBEq, Int.reduceToNat, reduceCtorEq, ct13t1_44, body44_0, e6, f7]
        repeat ((with_reducible refine And.intro ?_ ?_); focus (and_intros <;> first | (with_reducible trivial) | (show anB _ _ _ = true; subst han; kernel_rfl) | (show (anB _ _ _ && _) = true; subst han; kernel_rfl) | omega | assumption | exact nrc | exact nfc | first | exact rfl | exact trivial | exact fitI | exact .inr rfl | exact .inl rfl | exact fun x hx => absurd hx (by omega) | (intro x hx; (repeat (first | (and_intros <;> (first | exact rfl | exact trivial | exact fitI | exact .inr rfl | exact .inl rfl | exact fun x hx => absurd hx (by omega))) | (exfalso; omega) | (rcases x with _ | x))); done) | (refine Fit_app ?_ ?_ <;> first | exact fitI | (intro x hx; (repeat (first | (and_intros <;> (first | exact rfl | exact trivial | exact fitI | exact .inr rfl | exact .inl rfl | exact fun x hx => absurd hx (by omega))) | (exfalso; omega) | (rcases x with _ | x))); done) | (refine Fit_app ?_ ?_ <;> first | exact fitI | (intro x hx; (repeat (first | (and_intros <;> (first | exact rfl | exact trivial | exact fitI | exact .inr rfl | exact .inl rfl | exact fun x hx => absurd hx (by omega))) | (exfalso; omega) | (rcases x with _ | x))); done)))))
        refine rg ctNo_ok ?_
        simp only [go_sem, Nat.reduceLeDiff, Nat.reduceLT, Nat.reduceAdd, Nat.reduceMul, Nat.reduceSub, Nat.reduceEqDiff, Nat.reduceBEq, Int.reduceToNat, reduceCtorEq]
        refine ⟨_, (Option.some.inj H).symm, ?_⟩
        refine SubF_of ⟨[some 0, some 1, some 2, some 6], ?_, ?_, by rfl, by rfl⟩
        · simp [CvL, Cv, getM, tp]
        · exact ⟨(by simp [CvB, CvL, Cv, blkAt, geth, getM]), (by simp [CvB, CvL, Cv, blkAt, geth, getM]), (by simp [CvB, CvL, Cv, blkAt, geth, getM]), CvB_row nr_TFrame (by first | rfl | (simp; done) | (simp; omega)) (app_row (f := c_TFrame) v1_2 [r5] (fun _ _ _ _ => rfl) (lit_row (f := c_TFrame) [r5] (fun _ _ => rfl) rfl)), trivial⟩
      · try dsimp only at H ⊢
        try simp only [tp]
        try simp only [m_normal, k_normal, b_normal, kL_normal, r_normal]
        refine seqM ?_
        obtain ⟨f8, H⟩ := need_some.1 H
        replace f8 := inb_iff.1 f8
        obtain ⟨r9, e10, H⟩ := bsi H
        refine draw_rule shT_ok ct13t2_ok 1 (by kernel_rfl) (by kernel_rfl) ?_
        intro an han
        simp only [d_nil, d_cons, nxtD, xrD, xoD, roEq, minL, List.append_nil, refsOp, refs, refsL, mask, maskF, place, placeF, okLog, pairOk, hit, inL, slotsF, ren, renL, rnN, nrH, nrB, nrL, nr, dead0, deadS, List.replicate_zero, List.replicate_succ, Nat.sub_self, Nat.add_zero, Nat.zero_add, Nat.reduceSub, Nat.not_lt_zero, Nat.zero_le, Nat.lt_add_one, go_sem, Nat.reduceLeDiff, Nat.reduceLT, Nat.reduceAdd, Nat.reduceMul, Nat.reduceSub, Nat.reduceEqDiff, Nat.reduceBEq, Int.reduceToNat, reduceCtorEq, ct13t2_44, body44, f8, e10]
        repeat ((with_reducible refine And.intro ?_ ?_); focus (and_intros <;> first | (with_reducible trivial) | (show anB _ _ _ = true; subst han; kernel_rfl) | (show (anB _ _ _ && _) = true; subst han; kernel_rfl) | omega | assumption | exact nrc | exact nfc | first | exact rfl | exact trivial | exact fitI | exact .inr rfl | exact .inl rfl | exact fun x hx => absurd hx (by omega)))
        refine rg ctNo_ok ?_
        simp only [go_sem, Nat.reduceLeDiff, Nat.reduceLT, Nat.reduceAdd, Nat.reduceMul, Nat.reduceSub, Nat.reduceEqDiff, Nat.reduceBEq, Int.reduceToNat, reduceCtorEq]
        obtain rfl := Option.some.inj H
        refine ⟨[4, 3, 0, 1, 2], ?_, ?_, [], ?_, ?_, rfl⟩
        · simp only [go_sem, Nat.reduceEqDiff, Nat.reduceBEq, Nat.reduceAdd]
          try (and_intros <;> first | (with_reducible trivial) | omega | exact nfc | trivial)
        · simp only [go_sem, Nat.reduceEqDiff, Nat.reduceBEq, Nat.reduceAdd]
          try (and_intros <;> first | (with_reducible trivial) | omega | exact nfc | trivial)
        · simp only [go_sem, Nat.reduceEqDiff, Nat.reduceBEq, Nat.reduceAdd]
          exact Cv_tup (CvL_cons (Cv_agg (CvL_cons Cv_int (CvL_cons Cv_int (CvL_cons Cv_bool (CvL_cons Cv_bool (CvL_cons Cv_bool (CvL_cons Cv_bool (CvL_cons Cv_bool (CvL_cons Cv_bool (CvL_cons Cv_bool (CvL_cons Cv_int (CvL_cons Cv_int (CvL_cons Cv_int (CvL_cons Cv_int (CvL_cons Cv_int (CvL_cons Cv_int (CvL_cons Cv_int (CvL_cons Cv_int (CvL_cons Cv_int (CvL_cons Cv_int (CvL_cons Cv_int (CvL_cons Cv_int (CvL_cons Cv_int (CvL_cons Cv_int (CvL_cons Cv_int (CvL_cons Cv_int (CvL_cons Cv_int (CvL_cons Cv_int (CvL_cons Cv_int (CvL_cons Cv_int (CvL_cons Cv_int (CvL_cons Cv_int (CvL_cons Cv_int (CvL_cons Cv_int (CvL_cons Cv_int (CvL_cons Cv_int (CvL_cons Cv_int (CvL_cons Cv_int (CvL_cons Cv_int (CvL_cons Cv_bool (CvL_cons Cv_bool (CvL_cons (ro_row (by first | rfl | simp) (fun _ _ _ _ => rfl)) CvL_nil)))))))))))))))))))))))))))))))))))))))))) (CvL_cons (Cv_agg (CvL_cons Cv_int (CvL_cons (ro_row (by first | rfl | simp) (fun _ _ _ _ => rfl)) CvL_nil))) (CvL_cons Cv_int CvL_nil)))
        · simp only [go_sem, Nat.reduceEqDiff, Nat.reduceBEq, Nat.reduceAdd, CvH]
    · cases hb
  · unfold body13 at hb
    split at hb <;> cases hb
/-! hotspot/hotspotlaw35.TriggerEnds -/
noncomputable def ct8t0 : Ct := tab [(32, pureC body32)]
theorem ct8t0_ok : CtOk Try.prog ct8t0 := tab_cons ok32 <| tab_nil
theorem ct8t0_32 (l : List AV) (h : List ABlk) : ct8t0 32 l h = pureC body32 l h := rfl
noncomputable def ct8t1 : Ct := tab [(24, pureC body24)]
theorem ct8t1_ok : CtOk Try.prog ct8t1 := tab_cons ok24 <| tab_nil
theorem ct8t1_24 (l : List AV) (h : List ABlk) : ct8t1 24 l h = pureC body24 l h := rfl
noncomputable def ct8t2 : Ct := tab [(29, genC body29)]
theorem ct8t2_ok : CtOk Try.prog ct8t2 := tab_cons ok29 <| tab_nil
theorem ct8t2_29 (l : List AV) (h : List ABlk) : ct8t2 29 l h = genC body29 l h := rfl
noncomputable def ct8t3 : Ct := tab [(31, pureC body31)]
theorem ct8t3_ok : CtOk Try.prog ct8t3 := tab_cons ok31 <| tab_nil
theorem ct8t3_31 (l : List AV) (h : List ABlk) : ct8t3 31 l h = pureC body31 l h := rfl
noncomputable def ct8t4 : Ct := tab [(13, genC body13)]
theorem ct8t4_ok : CtOk Try.prog ct8t4 := tab_cons ok13 <| tab_nil
theorem ct8t4_13 (l : List AV) (h : List ABlk) : ct8t4 13 l h = genC body13 l h := rfl
noncomputable def F8_L1 (p1 : TTriggerPlan) (p2 : Int) (r1 : Bool) (v1_1 : Int) (v1_2 : Int) (v1_3 : TPeriod) : Option (Lp (Int × Int × TPeriod) ((Unit) ⊕ (Bool))) :=
  bif (bLt v1_2 100) then ((F13 v1_3).bind fun r8 => bif (!bEq r8.2.2 0) then (some (.done (.inr (((r1 && (bEq r8.2.2 6)) && (bLt 0 v1_1)) && (bEq (v1_3.Left.length : Nat) 0))))) else (bif (((!bB r8.1.Head.Eosp (bEq (r8.2.1.Left.length : Nat) 0)) || ((bLt 0 p1.Most) && (bLt p1.Most (wr .i64 (v1_1 + 1))))) || (!bEq r8.2.1.Aid p2)) then (some (.done (.inr false))) else (some (.next (wr .i64 (v1_1 + 1), wr .i64 (v1_2 + 1), r8.2.1))))) else (some (.done (.inl ())))
noncomputable def F8 (p0 : TBuffer) (p1 : TTriggerPlan) (p2 : Int) (p3 : A6u8) (p4 : A6u8) : Option (Bool) :=
  (F32).bind fun r1 => (F24 p0 (TFrame.mk (THeader.mk 0 0 false false false false false false false 0 (A6u8.mk 0 0 0 0 0 0) (A6u8.mk 0 0 0 0 0 0) (A6u8.mk 0 0 0 0 0 0) (A6u8.mk 0 0 0 0 0 0) 0 0 0 0 false false) [])).bind fun r3 => bif (r3 || (!r1)) then (some r1) else ((F29 p0 p1 p2 p3 p4).bind fun r5 => bif (!bEq r5.2.2 0) then (need (bif (r1 && (bEq (r5.1.Left.length : Nat) 0)) then ((F31 r5.2.1 (TBuffer.mk 0 0 [] [])).isSome) else true) <| some ((r1 && (bEq (r5.1.Left.length : Nat) 0)) && (gt (F31 r5.2.1 (TBuffer.mk 0 0 [] []))))) else (lp (loopD (fun s => F8_L1 p1 p2 r1 s.1 s.2.1 s.2.2) (0, 0, r5.1)) (fun e => some false) some))
noncomputable def body8 : List AV -> AR
  | [v0, v1, v2, v3, v4] => .pure (aK 4 k_TBuffer v0 /\ aK 3 k_TTriggerPlan v1 /\ iK .i64 v2 /\ aK 6 k_A6u8 v3 /\ aK 6 k_A6u8 v4 /\ (F8 (g_TBuffer (aL v0)) (g_TTriggerPlan (aL v1)) (iA v2) (g_A6u8 (aL v3)) (g_A6u8 (aL v4))).isSome = true) (.bool (gt (F8 (g_TBuffer (aL v0)) (g_TTriggerPlan (aL v1)) (iA v2) (g_A6u8 (aL v3)) (g_A6u8 (aL v4)))))
  | _ => .fail
set_option maxHeartbeats 4000000 in
set_option maxRecDepth 20000 in
theorem ok8 : FnOk Try.prog 8 (pureC body8) := by
  refine pure_fnM body8 (rs := [.tmp 10]) Try.func8 (by kernel_rfl) rfl rfl ?_
  intro l ob v hb hob
  unfold body8 at hb
  split at hb
  · rename_i v0 v1 v2 v3 v4
    injection hb with q1 q2; subst q1 q2
    obtain ⟨hk0_0, hk1_0, hk2_0, hk3_0, hk4_0, hob⟩ := hob
    obtain ⟨r, H⟩ := Option.isSome_iff_exists.1 hob
    rw [H, gt_some]
    have hw0 := wA_TBuffer hk0_0
    have hw1 := wA_TTriggerPlan hk1_0
    have hw2 := iK_wk hk2_0
    have hw3 := wA_A6u8 hk3_0
    have hw4 := wA_A6u8 hk4_0
    generalize g_TBuffer (aL v0) = p0 at H hw0
    generalize g_TTriggerPlan (aL v1) = p1 at H hw1
    generalize iA v2 = p2 at H hw2
    generalize g_A6u8 (aL v3) = p3 at H hw3
    generalize g_A6u8 (aL v4) = p4 at H hw4
    refine ⟨[.agg [.int .i64 p0.Limit, .int .i64 p0.Stay, .ro 3 p0.List.length false (enR c_TSleeper p0.List), .ro 43 p0.Group.length false (enR c_TStored p0.Group)], .agg [.int .u8 p1.Start, .int .u8 p1.Deliver, .int .i64 p1.Most], .int .i64 p2, .agg [.int .u8 p3.x0, .int .u8 p3.x1, .int .u8 p3.x2, .int .u8 p3.x3, .int .u8 p3.x4, .int .u8 p3.x5], .agg [.int .u8 p4.x0, .int .u8 p4.x1, .int .u8 p4.x2, .int .u8 p4.x3, .int .u8 p4.x4, .int .u8 p4.x5]], _, (fun E vs F => FR_wk1 hw0.1 F (fun vs F => FR_wk1 hw1.1 F (fun vs F => FR_wk1 hw2.1 F (fun vs F => FR_wk1 hw3.1 F (fun vs F => FR_wk1 hw4.1 F (fun vs F => F)))))), rfl, rfl, ?_⟩
    rw [Try.ntmps8]
    simp only [List.length_cons, List.length_nil, Nat.reduceAdd, Nat.reduceSub, List.replicate_succ, List.replicate_zero, List.cons_append, List.nil_append]
    unfold F8 at H
    try dsimp only at H
    refine sq ctNo_ok ?_
    simp only [go_sem, Nat.reduceLeDiff, Nat.reduceLT, Nat.reduceAdd, Nat.reduceMul, Nat.reduceSub, Nat.reduceEqDiff, Nat.reduceBEq, Int.reduceToNat, reduceCtorEq]
    refine seqM ?_
    obtain ⟨r1, e2, H⟩ := bsi H
    refine rg ct8t0_ok ?_
    simp only [go_sem, Nat.reduceLeDiff, Nat.reduceLT, Nat.reduceAdd, Nat.reduceMul, Nat.reduceSub, Nat.reduceEqDiff, Nat.reduceBEq, Int.reduceToNat, reduceCtorEq, ct8t0_32, body32, e2]
    repeat ((with_reducible refine And.intro ?_ ?_); focus (first | (and_intros <;> first | (with_reducible trivial) | omega | assumption | exact nfc | first | exact rfl | exact trivial | exact fitI | exact .inr rfl | exact .inl rfl | exact fun x hx => absurd hx (by omega)) | grind))
    refine seqM ?_
    refine seqM ?_
    obtain ⟨r3, e4, H⟩ := bsi H
    refine rg ct8t1_ok ?_
    simp only [go_sem, Nat.reduceLeDiff, Nat.reduceLT, Nat.reduceAdd, Nat.reduceMul, Nat.reduceSub, Nat.reduceEqDiff, Nat.reduceBEq, Int.reduceToNat, reduceCtorEq, ct8t1_24, body24, e4]
    repeat ((with_reducible refine And.intro ?_ ?_); focus (first | (with_reducible trivial) | omega | (intro g; and_intros <;> first | (with_reducible trivial) | assumption | exact nfc | (intro g2; rw [g, g2]; rfl) | (intro g2; assumption) | (simp only [g, Bool.true_and, Bool.and_true, Bool.not_false, Bool.not_true]; assumption) | grind) | (and_intros <;> first | (with_reducible trivial) | omega | assumption | exact nfc | first | exact rfl | exact trivial | exact fitI | exact .inr rfl | exact .inl rfl | exact fun x hx => absurd hx (by omega)) | grind))
    refine condM rfl trivial (fun hc => ?_) (fun hc => ?_)
    · replace H := cond_t hc H
      refine sq ctNo_ok ?_
      simp only [go_sem, Nat.reduceLeDiff, Nat.reduceLT, Nat.reduceAdd, Nat.reduceMul, Nat.reduceSub, Nat.reduceEqDiff, Nat.reduceBEq, Int.reduceToNat, reduceCtorEq]
      refine rg ctNo_ok ?_
      simp only [go_sem, Nat.reduceLeDiff, Nat.reduceLT, Nat.reduceAdd, Nat.reduceMul, Nat.reduceSub, Nat.reduceEqDiff, Nat.reduceBEq, Int.reduceToNat, reduceCtorEq]
      obtain rfl := Option.some.inj H
      first | rfl | simp only [Bool.and_false, Bool.false_and, Bool.and_true, Bool.true_and]
    replace H := cond_f hc H
    refine rg ctNo_ok ?_
    simp only [go_sem, Nat.reduceLeDiff, Nat.reduceLT, Nat.reduceAdd, Nat.reduceMul, Nat.reduceSub, Nat.reduceEqDiff, Nat.reduceBEq, Int.reduceToNat, reduceCtorEq]
    refine seqM ?_
    obtain ⟨r5, e6, H⟩ := bsi H
    refine rg ct8t2_ok ?_
    simp only [go_sem, Nat.reduceLeDiff, Nat.reduceLT, Nat.reduceAdd, Nat.reduceMul, Nat.reduceSub, Nat.reduceEqDiff, Nat.reduceBEq, Int.reduceToNat, reduceCtorEq, ct8t2_29, body29, e6]
    repeat ((with_reducible refine And.intro ?_ ?_); focus (first | (and_intros <;> first | (with_reducible trivial) | omega | assumption | exact nfc | first | exact rfl | exact trivial | exact fitI | exact .inr rfl | exact .inl rfl | exact fun x hx => absurd hx (by omega)) | grind))
    refine seqM ?_
    refine sq ctNo_ok ?_
    simp only [go_sem, Nat.reduceLeDiff, Nat.reduceLT, Nat.reduceAdd, Nat.reduceMul, Nat.reduceSub, Nat.reduceEqDiff, Nat.reduceBEq, Int.reduceToNat, reduceCtorEq]
    refine condM rfl trivial (fun hc => ?_) (fun hc => ?_)
    · replace H := cond_t hc H
      refine seqM ?_
      obtain ⟨f7, H⟩ := need_some.1 H
      replace f7 := g_iff.1 f7
      refine rg ct8t3_ok ?_
      simp only [go_sem, Nat.reduceLeDiff, Nat.reduceLT, Nat.reduceAdd, Nat.reduceMul, Nat.reduceSub, Nat.reduceEqDiff, Nat.reduceBEq, Int.reduceToNat, reduceCtorEq, ct8t3_31, body31]
      repeat ((with_reducible refine And.intro ?_ ?_); focus (first | (with_reducible trivial) | omega | exact f7 | (intro g; have q := f7 (by first | exact g | (rw [g]; rfl) | simpa using g); first | exact q | exact ⟨q.1, q.2.1⟩ | exact q.2.2 | omega | exact ⟨g, q⟩ | exact ⟨trivial, q⟩ | exact ⟨g, q.1, q.2.1⟩ | exact ⟨g, q.2.2⟩) | (intro g; (try have q0 := f7 (by first | exact g | (rw [g]; rfl) | simpa using g)); and_intros <;> first | (with_reducible trivial) | assumption | exact nfc | (intro g2; rw [g, g2]; rfl) | (intro g2; assumption) | (simp only [g, Bool.true_and, Bool.and_true, Bool.not_false, Bool.not_true]; assumption) | grind) | (and_intros <;> first | (with_reducible trivial) | omega | assumption | exact nfc | first | exact rfl | exact trivial | exact fitI | exact .inr rfl | exact .inl rfl | exact fun x hx => absurd hx (by omega)) | grind))
      refine rg ctNo_ok ?_
      simp only [go_sem, Nat.reduceLeDiff, Nat.reduceLT, Nat.reduceAdd, Nat.reduceMul, Nat.reduceSub, Nat.reduceEqDiff, Nat.reduceBEq, Int.reduceToNat, reduceCtorEq]
      obtain rfl := Option.some.inj H
      first | rfl | simp only [Bool.and_false, Bool.false_and, Bool.and_true, Bool.true_and]
    replace H := cond_f hc H
    refine rg ctNo_ok ?_
    simp only [go_sem, Nat.reduceLeDiff, Nat.reduceLT, Nat.reduceAdd, Nat.reduceMul, Nat.reduceSub, Nat.reduceEqDiff, Nat.reduceBEq, Int.reduceToNat, reduceCtorEq]
    refine sq ctNo_ok ?_
    simp only [go_sem, Nat.reduceLeDiff, Nat.reduceLT, Nat.reduceAdd, Nat.reduceMul, Nat.reduceSub, Nat.reduceEqDiff, Nat.reduceBEq, Int.reduceToNat, reduceCtorEq]
    refine seqM ?_
    refine sq ctNo_ok ?_
    simp only [go_sem, Nat.reduceLeDiff, Nat.reduceLT, Nat.reduceAdd, Nat.reduceMul, Nat.reduceSub, Nat.reduceEqDiff, Nat.reduceBEq, Int.reduceToNat, reduceCtorEq]
    refine blkM ?_
    refine loop_den (fun s : Int × Int × TPeriod => (.top :: .top :: .int .i64 p2 :: .top :: .top :: .top :: .ptr 1 0 0 0 :: tp 4 (.bool r1 :: .ptr 4 0 0 0 :: .top :: .top :: .int .i64 s.1 :: .int .i64 s.2.1 :: tp 91 []))) (fun s => [.dead, .lit 23 [.int .u8 p1.Start, .int .u8 p1.Deliver, .int .i64 p1.Most], .dead, .dead, .lit 33 [.int .i64 s.2.2.Aid, .ro 41 s.2.2.Left.length false (enR c_TFrame s.2.2.Left)], .dead]) (fun e : Unit => (tp 108 [])) (fun e => [.dead, .dead, .dead, .dead, .dead, .dead]) H ?_ (fun s o H hn1_1 hn2_1 => ?_) (fun e H => ?_)
    · refine SubF_of ⟨[some 0, some 1, some 2, some 3, some 4, some 5], ?_, ?_, by rfl, by rfl⟩
      · simp [CvL, Cv, getM, tp]
      · exact ⟨CvB_dead, (by simp [CvB, CvL, Cv, blkAt, geth, getM]), CvB_dead, CvB_dead, (by simp [CvB, CvL, Cv, blkAt, geth, getM]), CvB_dead, trivial⟩
    · obtain ⟨v1_1, v1_2, v1_3⟩ := s
      unfold F8_L1 at H
      try dsimp only at H ⊢
      try simp only [tp]
      refine seqM ?_
      refine sq ctNo_ok ?_
      simp only [go_sem, Nat.reduceLeDiff, Nat.reduceLT, Nat.reduceAdd, Nat.reduceMul, Nat.reduceSub, Nat.reduceEqDiff, Nat.reduceBEq, Int.reduceToNat, reduceCtorEq]
      refine condM' rfl trivial (fun hc => ?_) (fun hc => ?_)
      · replace H := cond_f hc H
        refine rg ctNo_ok ?_
        simp only [go_sem, Nat.reduceLeDiff, Nat.reduceLT, Nat.reduceAdd, Nat.reduceMul, Nat.reduceSub, Nat.reduceEqDiff, Nat.reduceBEq, Int.reduceToNat, reduceCtorEq]
        refine ⟨_, (Option.some.inj H).symm, ?_⟩
        refine SubF_of ⟨[some 0, some 1, some 2, some 3, some 4, some 5], ?_, ?_, by rfl, by rfl⟩
        · simp [CvL, Cv, getM, tp]
        · exact ⟨CvB_dead, CvB_dead, CvB_dead, CvB_dead, CvB_dead, CvB_dead, trivial⟩
      replace H := cond_t hc H
      refine rg ctNo_ok ?_
      simp only [go_sem, Nat.reduceLeDiff, Nat.reduceLT, Nat.reduceAdd, Nat.reduceMul, Nat.reduceSub, Nat.reduceEqDiff, Nat.reduceBEq, Int.reduceToNat, reduceCtorEq]
      refine seqM ?_
      refine blkM ?_
      refine seqM ?_
      obtain ⟨r8, e9, H⟩ := bsi H
      refine rg ct8t4_ok ?_
      simp only [go_sem, Nat.reduceLeDiff, Nat.reduceLT, Nat.reduceAdd, Nat.reduceMul, Nat.reduceSub, Nat.reduceEqDiff, Nat.reduceBEq, Int.reduceToNat, reduceCtorEq, ct8t4_13, body13, e9]
      repeat ((with_reducible refine And.intro ?_ ?_); focus (first | (and_intros <;> first | (with_reducible trivial) | omega | assumption | exact nfc | first | exact rfl | exact trivial | exact fitI | exact .inr rfl | exact .inl rfl | exact fun x hx => absurd hx (by omega)) | grind))
      refine seqM ?_
      refine sq ctNo_ok ?_
      simp only [go_sem, Nat.reduceLeDiff, Nat.reduceLT, Nat.reduceAdd, Nat.reduceMul, Nat.reduceSub, Nat.reduceEqDiff, Nat.reduceBEq, Int.reduceToNat, reduceCtorEq]
      refine condM rfl trivial (fun hc => ?_) (fun hc => ?_)
      · replace H := cond_t hc H
        refine sq ctNo_ok ?_
        simp only [go_sem, Nat.reduceLeDiff, Nat.reduceLT, Nat.reduceAdd, Nat.reduceMul, Nat.reduceSub, Nat.reduceEqDiff, Nat.reduceBEq, Int.reduceToNat, reduceCtorEq]
        repeat ((with_reducible refine And.intro ?_ ?_); focus (first | (with_reducible trivial) | omega | (intro g; and_intros <;> first | (with_reducible trivial) | assumption | exact nfc | (intro g2; rw [g, g2]; rfl) | (intro g2; assumption) | (simp only [g, Bool.true_and, Bool.and_true, Bool.not_false, Bool.not_true]; assumption) | grind) | (and_intros <;> first | (with_reducible trivial) | omega | assumption | exact nfc | first | exact rfl | exact trivial | exact fitI | exact .inr rfl | exact .inl rfl | exact fun x hx => absurd hx (by omega)) | grind))
        refine rg ctNo_ok ?_
        simp only [go_sem, Nat.reduceLeDiff, Nat.reduceLT, Nat.reduceAdd, Nat.reduceMul, Nat.reduceSub, Nat.reduceEqDiff, Nat.reduceBEq, Int.reduceToNat, reduceCtorEq]
        have H := hn2_1 _ (Option.some.inj H).symm
        obtain rfl := Option.some.inj H
        first | rfl | simp only [Bool.and_false, Bool.false_and, Bool.and_true, Bool.true_and]
      replace H := cond_f hc H
      refine rg ctNo_ok ?_
      simp only [go_sem, Nat.reduceLeDiff, Nat.reduceLT, Nat.reduceAdd, Nat.reduceMul, Nat.reduceSub, Nat.reduceEqDiff, Nat.reduceBEq, Int.reduceToNat, reduceCtorEq]
      refine sq ctNo_ok ?_
      simp only [go_sem, Nat.reduceLeDiff, Nat.reduceLT, Nat.reduceAdd, Nat.reduceMul, Nat.reduceSub, Nat.reduceEqDiff, Nat.reduceBEq, Int.reduceToNat, reduceCtorEq]
      refine seqM ?_
      refine sq ctNo_ok ?_
      simp only [go_sem, Nat.reduceLeDiff, Nat.reduceLT, Nat.reduceAdd, Nat.reduceMul, Nat.reduceSub, Nat.reduceEqDiff, Nat.reduceBEq, Int.reduceToNat, reduceCtorEq]
      repeat ((with_reducible refine And.intro ?_ ?_); focus (first | (with_reducible trivial) | omega | (intro g; and_intros <;> first | (with_reducible trivial) | assumption | exact nfc | (intro g2; rw [g, g2]; rfl) | (intro g2; assumption) | (simp only [g, Bool.true_and, Bool.and_true, Bool.not_false, Bool.not_true]; assumption) | grind) | (and_intros <;> first | (with_reducible trivial) | omega | assumption | exact nfc | first | exact rfl | exact trivial | exact fitI | exact .inr rfl | exact .inl rfl | exact fun x hx => absurd hx (by omega)) | grind))
      refine condM rfl trivial (fun hc => ?_) (fun hc => ?_)
      · replace H := cond_t hc H
        refine sq ctNo_ok ?_
        simp only [go_sem, Nat.reduceLeDiff, Nat.reduceLT, Nat.reduceAdd, Nat.reduceMul, Nat.reduceSub, Nat.reduceEqDiff, Nat.reduceBEq, Int.reduceToNat, reduceCtorEq]
        refine rg ctNo_ok ?_
        simp only [go_sem, Nat.reduceLeDiff, Nat.reduceLT, Nat.reduceAdd, Nat.reduceMul, Nat.reduceSub, Nat.reduceEqDiff, Nat.reduceBEq, Int.reduceToNat, reduceCtorEq]
        have H := hn2_1 _ (Option.some.inj H).symm
        obtain rfl := Option.some.inj H
        first | rfl | simp only [Bool.and_false, Bool.false_and, Bool.and_true, Bool.true_and]
      replace H := cond_f hc H
      refine rg ctNo_ok ?_
      simp only [go_sem, Nat.reduceLeDiff, Nat.reduceLT, Nat.reduceAdd, Nat.reduceMul, Nat.reduceSub, Nat.reduceEqDiff, Nat.reduceBEq, Int.reduceToNat, reduceCtorEq]
      refine rg ctNo_ok ?_
      simp only [go_sem, Nat.reduceLeDiff, Nat.reduceLT, Nat.reduceAdd, Nat.reduceMul, Nat.reduceSub, Nat.reduceEqDiff, Nat.reduceBEq, Int.reduceToNat, reduceCtorEq]
      repeat ((with_reducible refine And.intro ?_ ?_); focus (first | (with_reducible trivial) | omega | grind))
      refine rg ctNo_ok ?_
      simp only [go_sem, Nat.reduceLeDiff, Nat.reduceLT, Nat.reduceAdd, Nat.reduceMul, Nat.reduceSub, Nat.reduceEqDiff, Nat.reduceBEq, Int.reduceToNat, reduceCtorEq]
      refine ⟨_, (Option.some.inj H).symm, ?_⟩
      refine SubF_of ⟨[some 0, some 1, some 2, some 3, some 4, some 5], ?_, ?_, by rfl, by rfl⟩
      · simp [CvL, Cv, getM, tp]
      · exact ⟨CvB_dead, (by simp [CvB, CvL, Cv, blkAt, geth, getM]), CvB_dead, CvB_dead, (by simp [CvB, CvL, Cv, blkAt, geth, getM]), CvB_dead, trivial⟩
    · try dsimp only at H ⊢
      try simp only [tp]
      try simp only [m_normal, k_normal, b_normal, kL_normal, r_normal]
      refine sq ctNo_ok ?_
      simp only [go_sem, Nat.reduceLeDiff, Nat.reduceLT, Nat.reduceAdd, Nat.reduceMul, Nat.reduceSub, Nat.reduceEqDiff, Nat.reduceBEq, Int.reduceToNat, reduceCtorEq]
      refine rg ctNo_ok ?_
      simp only [go_sem, Nat.reduceLeDiff, Nat.reduceLT, Nat.reduceAdd, Nat.reduceMul, Nat.reduceSub, Nat.reduceEqDiff, Nat.reduceBEq, Int.reduceToNat, reduceCtorEq]
      obtain rfl := Option.some.inj H
      first | rfl | simp only [Bool.and_false, Bool.false_and, Bool.and_true, Bool.true_and]
  · cases hb
end Go.Proofs.Ytnclkplbeenmdaa
