/-
  What TriggerMap reaches.
-/
import Derived.Test.YtnclkplbeenmdaaY9p2
namespace Go.Proofs.Ytnclkplbeenmdaa
open Go.Am
set_option linter.unusedVariables false
set_option linter.unusedSimpArgs false
/-! hotspot/hotspotref35.Count -/
noncomputable def ct35t0 : Ct := tab [(36, pureC body36)]
theorem ct35t0_ok : CtOk Try.prog ct35t0 := tab_cons ok36 <| tab_nil
theorem ct35t0_36 (l : List AV) (h : List ABlk) : ct35t0 36 l h = pureC body36 l h := rfl
noncomputable def F35_L1 (p0 : List TStored) (p1 : Int) (v1_1 : Int) (v1_2 : Int) : Option (Lp (Int × Int) ((Int) ⊕ (Int))) :=
  bif (bLt v1_2 (p0.length : Nat)) then (need (inb v1_2 p0.length) <| (F36 p1 ((gd p0 v1_2.toNat).Cat)).bind fun r2 => bif r2 then (some (.next (wr .i64 (v1_1 + 1), wr .i64 (v1_2 + 1)))) else (some (.next (v1_1, wr .i64 (v1_2 + 1))))) else (some (.done (.inl v1_1)))
noncomputable def F35 (p0 : List TStored) (p1 : Int) : Option (Int) :=
  lp (loopD (fun s => F35_L1 p0 p1 s.1 s.2) (0, 0)) (fun w1_3 => some w1_3) some
noncomputable def body35 : List AV -> AR
  | [v0, v1] => .pure (lK k_TStored 43 v0 /\ iK .u8 v1 /\ (F35 (lA g_TStored v0) (iA v1)).isSome = true) (.int .i64 (gt (F35 (lA g_TStored v0) (iA v1))))
  | _ => .fail
set_option maxHeartbeats 4000000 in
set_option maxRecDepth 20000 in
theorem ok35 : FnOk Try.prog 35 (pureC body35) := by
  refine pure_fnM body35 (rs := [.tmp 4]) Try.func35 (by kernel_rfl) rfl rfl ?_
  intro l ob v hb hob
  unfold body35 at hb
  split at hb
  · rename_i v0 v1
    injection hb with q1 q2; subst q1 q2
    obtain ⟨hk0_0, hk1_0, hob⟩ := hob
    obtain ⟨r, H⟩ := Option.isSome_iff_exists.1 hob
    rw [H, gt_some]
    have hw0 := lK_wk (fun r h => w_TStored h) hk0_0
    have hw1 := iK_wk hk1_0
    generalize lA g_TStored v0 = p0 at H hw0
    generalize iA v1 = p1 at H hw1
    refine ⟨[.ro 43 p0.length false (enR c_TStored p0), .int .u8 p1], _, (fun E vs F => FR_wk1 hw0.1 F (fun vs F => FR_wk1 hw1.1 F (fun vs F => F))), rfl, rfl, ?_⟩
    rw [Try.ntmps35]
    simp only [List.length_cons, List.length_nil, Nat.reduceAdd, Nat.reduceSub, List.replicate_succ, List.replicate_zero, List.cons_append, List.nil_append]
    unfold F35 at H
    try dsimp only at H
    refine sq ctNo_ok ?_
    simp only [go_sem, Nat.reduceLeDiff, Nat.reduceLT, Nat.reduceAdd, Nat.reduceMul, Nat.reduceSub, Nat.reduceEqDiff, Nat.reduceBEq, Int.reduceToNat, reduceCtorEq]
    refine sq ctNo_ok ?_
    simp only [go_sem, Nat.reduceLeDiff, Nat.reduceLT, Nat.reduceAdd, Nat.reduceMul, Nat.reduceSub, Nat.reduceEqDiff, Nat.reduceBEq, Int.reduceToNat, reduceCtorEq]
    refine seqM ?_
    refine sq ctNo_ok ?_
    simp only [go_sem, Nat.reduceLeDiff, Nat.reduceLT, Nat.reduceAdd, Nat.reduceMul, Nat.reduceSub, Nat.reduceEqDiff, Nat.reduceBEq, Int.reduceToNat, reduceCtorEq]
    refine blkM ?_
    refine loop_den (fun s : Int × Int => (.ro 43 p0.length false (enR c_TStored p0) :: .int .u8 p1 :: .top :: .top :: .top :: .int .i64 s.1 :: .int .i64 s.2 :: tp 16 [])) (fun s => []) (fun e : Int => (tp 5 (.int .i64 e :: tp 17 []))) (fun e => []) H ?_ (fun s o H hn1_1 hn2_1 => ?_) (fun w1_3 H => ?_)
    · refine SubF_of ⟨[], ?_, ?_, by rfl, by rfl⟩
      · simp [CvL, Cv, getM, tp]
      · trivial
    · obtain ⟨v1_1, v1_2⟩ := s
      unfold F35_L1 at H
      try dsimp only at H ⊢
      try simp only [tp]
      refine seqM ?_
      refine sq ctNo_ok ?_
      simp only [go_sem, Nat.reduceLeDiff, Nat.reduceLT, Nat.reduceAdd, Nat.reduceMul, Nat.reduceSub, Nat.reduceEqDiff, Nat.reduceBEq, Int.reduceToNat, reduceCtorEq]
      repeat ((with_reducible refine And.intro ?_ ?_); focus (first | (and_intros <;> first | (with_reducible trivial) | omega | assumption | exact nfc | first | exact rfl | exact trivial | exact fitI | exact .inr rfl | exact .inl rfl | exact fun x hx => absurd hx (by omega)) | grind))
      refine condM' rfl trivial (fun hc => ?_) (fun hc => ?_)
      · replace H := cond_f hc H
        refine rg ctNo_ok ?_
        simp only [go_sem, Nat.reduceLeDiff, Nat.reduceLT, Nat.reduceAdd, Nat.reduceMul, Nat.reduceSub, Nat.reduceEqDiff, Nat.reduceBEq, Int.reduceToNat, reduceCtorEq]
        refine ⟨_, (Option.some.inj H).symm, ?_⟩
        refine SubF_of ⟨[], ?_, ?_, by rfl, by rfl⟩
        · simp [CvL, Cv, getM, tp]
        · trivial
      replace H := cond_t hc H
      refine rg ctNo_ok ?_
      simp only [go_sem, Nat.reduceLeDiff, Nat.reduceLT, Nat.reduceAdd, Nat.reduceMul, Nat.reduceSub, Nat.reduceEqDiff, Nat.reduceBEq, Int.reduceToNat, reduceCtorEq]
      refine seqM ?_
      refine blkM ?_
      refine seqM ?_
      obtain ⟨f1, H⟩ := need_some.1 H
      replace f1 := inb_iff.1 f1
      obtain ⟨r2, e3, H⟩ := bsi H
      refine rg ct35t0_ok ?_
      simp only [go_sem, Nat.reduceLeDiff, Nat.reduceLT, Nat.reduceAdd, Nat.reduceMul, Nat.reduceSub, Nat.reduceEqDiff, Nat.reduceBEq, Int.reduceToNat, reduceCtorEq, ct35t0_36, body36, f1, e3]
      repeat ((with_reducible refine And.intro ?_ ?_); focus (first | (and_intros <;> first | (with_reducible trivial) | omega | assumption | exact nfc | first | exact rfl | exact trivial | exact fitI | exact .inr rfl | exact .inl rfl | exact fun x hx => absurd hx (by omega)) | grind))
      refine condM rfl trivial (fun hc => ?_) (fun hc => ?_)
      · replace H := cond_t hc H
        refine rg ctNo_ok ?_
        simp only [go_sem, Nat.reduceLeDiff, Nat.reduceLT, Nat.reduceAdd, Nat.reduceMul, Nat.reduceSub, Nat.reduceEqDiff, Nat.reduceBEq, Int.reduceToNat, reduceCtorEq]
        refine rg ctNo_ok ?_
        simp only [go_sem, Nat.reduceLeDiff, Nat.reduceLT, Nat.reduceAdd, Nat.reduceMul, Nat.reduceSub, Nat.reduceEqDiff, Nat.reduceBEq, Int.reduceToNat, reduceCtorEq]
        refine ⟨_, (Option.some.inj H).symm, ?_⟩
        refine SubF_of ⟨[], ?_, ?_, by rfl, by rfl⟩
        · simp [CvL, Cv, getM, tp]
        · trivial
      replace H := cond_f hc H
      refine rg ctNo_ok ?_
      simp only [go_sem, Nat.reduceLeDiff, Nat.reduceLT, Nat.reduceAdd, Nat.reduceMul, Nat.reduceSub, Nat.reduceEqDiff, Nat.reduceBEq, Int.reduceToNat, reduceCtorEq]
      refine rg ctNo_ok ?_
      simp only [go_sem, Nat.reduceLeDiff, Nat.reduceLT, Nat.reduceAdd, Nat.reduceMul, Nat.reduceSub, Nat.reduceEqDiff, Nat.reduceBEq, Int.reduceToNat, reduceCtorEq]
      refine ⟨_, (Option.some.inj H).symm, ?_⟩
      refine SubF_of ⟨[], ?_, ?_, by rfl, by rfl⟩
      · simp [CvL, Cv, getM, tp]
      · trivial
    · try dsimp only at H ⊢
      try simp only [tp]
      try simp only [m_normal, k_normal, b_normal, kL_normal, r_normal]
      refine sq ctNo_ok ?_
      simp only [go_sem, Nat.reduceLeDiff, Nat.reduceLT, Nat.reduceAdd, Nat.reduceMul, Nat.reduceSub, Nat.reduceEqDiff, Nat.reduceBEq, Int.reduceToNat, reduceCtorEq]
      refine rg ctNo_ok ?_
      simp only [go_sem, Nat.reduceLeDiff, Nat.reduceLT, Nat.reduceAdd, Nat.reduceMul, Nat.reduceSub, Nat.reduceEqDiff, Nat.reduceBEq, Int.reduceToNat, reduceCtorEq]
      obtain rfl := Option.some.inj H
      first | rfl | simp only [Bool.and_false, Bool.false_and, Bool.and_true, Bool.true_and]
  · cases hb
/-! hotspot/hotspotlaw35.TriggerMap -/
noncomputable def ct9t0 : Ct := tab [(32, pureC body32)]
theorem ct9t0_ok : CtOk Try.prog ct9t0 := tab_cons ok32 <| tab_nil
theorem ct9t0_32 (l : List AV) (h : List ABlk) : ct9t0 32 l h = pureC body32 l h := rfl
noncomputable def ct9t1 : Ct := tab [(24, pureC body24)]
theorem ct9t1_ok : CtOk Try.prog ct9t1 := tab_cons ok24 <| tab_nil
theorem ct9t1_24 (l : List AV) (h : List ABlk) : ct9t1 24 l h = pureC body24 l h := rfl
noncomputable def ct9t2 : Ct := tab [(25, edC body25)]
theorem ct9t2_ok : CtOk Try.prog ct9t2 := tab_cons ok25 <| tab_nil
theorem ct9t2_25 (l : List AV) (h : List ABlk) : ct9t2 25 l h = edC body25 l h := rfl
noncomputable def ct9t3 : Ct := tab [(37, edC body37)]
theorem ct9t3_ok : CtOk Try.prog ct9t3 := tab_cons ok37 <| tab_nil
theorem ct9t3_37 (l : List AV) (h : List ABlk) : ct9t3 37 l h = edC body37 l h := rfl
noncomputable def ct9t4 : Ct := tab [(20, pureC body20)]
theorem ct9t4_ok : CtOk Try.prog ct9t4 := tab_cons ok20 <| tab_nil
theorem ct9t4_20 (l : List AV) (h : List ABlk) : ct9t4 20 l h = pureC body20 l h := rfl
noncomputable def ct9t5 : Ct := tab [(38, pureC body38)]
theorem ct9t5_ok : CtOk Try.prog ct9t5 := tab_cons ok38 <| tab_nil
theorem ct9t5_38 (l : List AV) (h : List ABlk) : ct9t5 38 l h = pureC body38 l h := rfl
noncomputable def ct9t6 : Ct := tab [(39, pureC body39)]
theorem ct9t6_ok : CtOk Try.prog ct9t6 := tab_cons ok39 <| tab_nil
theorem ct9t6_39 (l : List AV) (h : List ABlk) : ct9t6 39 l h = pureC body39 l h := rfl
noncomputable def ct9t7 : Ct := tab [(35, pureC body35)]
theorem ct9t7_ok : CtOk Try.prog ct9t7 := tab_cons ok35 <| tab_nil
theorem ct9t7_35 (l : List AV) (h : List ABlk) : ct9t7 35 l h = pureC body35 l h := rfl
noncomputable def F9_L1 (p0 : TBuffer) (p2 : Int) (r11 : TTraffic × Int) (r13 : TTraffic × Int) (v1_1 : Int) : Option (Lp (Int) ((Unit) ⊕ (Bool))) :=
  bif (bLt v1_1 (p0.List.length : Nat)) then (need (inb v1_1 p0.List.length) <| (F39 (TTraffic.mk r11.1.Group r11.1.Aids) ((gd p0.List v1_1.toNat).Aid)).bind fun r18 => (F39 (TTraffic.mk r13.1.Group r13.1.Aids) ((gd p0.List v1_1.toNat).Aid)).bind fun r20 => bif (((!bEq v1_1 p2) && (!bB r18 r20)) || (r18 && (!r20))) then (some (.done (.inr false))) else (some (.next (wr .i64 (v1_1 + 1))))) else (some (.done (.inl ())))
noncomputable def F9 (p0 : TBuffer) (p1 : TTriggerPlan) (p2 : Int) : Option (Bool) :=
  (F32).bind fun r1 => (F24 p0 (TFrame.mk (THeader.mk 0 0 false false false false false false false 0 (A6u8.mk 0 0 0 0 0 0) (A6u8.mk 0 0 0 0 0 0) (A6u8.mk 0 0 0 0 0 0) (A6u8.mk 0 0 0 0 0 0) 0 0 0 0 false false) [])).bind fun r3 => bif (((r3 || (bLt p2 0)) || (bLe (p0.List.length : Nat) p2)) || (!r1)) then (some r1) else (need (mkb 16 (p0.List.length : Nat) (p0.List.length : Nat)) <| (some (List.replicate p0.List.length ((TTriggerPlan.mk 0 0 0) : TTriggerPlan))).bind fun w6 => need (inb p2 w6.length) <| (some (w6.set p2.toNat p1)).bind fun w9 => (F25 p0 w9).bind fun r11 => (F37 p0).bind fun r13 => bif (!bEq r11.2 0) then (need (bif (r1 && (!(!bEq r13.2 0))) then ((F20 p1).isSome) else true) <| some (r1 && ((!bEq r13.2 0) || (bEq (gt (F20 p1)) r11.2)))) else (need (bif (!((!bEq r13.2 0) || (!bB r11.1.Group r13.1.Group))) then ((F38 (TTraffic.mk r11.1.Group r11.1.Aids)).isSome) else true) <| bif (((!bEq r13.2 0) || (!bB r11.1.Group r13.1.Group)) || (!bEq (gt (F38 (TTraffic.mk r11.1.Group r11.1.Aids))) 0)) then (some false) else (lp (loopD (fun s => F9_L1 p0 p2 r11 r13 s) 0) (fun e => need (inb p2 p0.List.length) <| (F35 ((gd p0.List p2.toNat).Held) p1.Deliver).bind fun r23 => need (bif r1 then inb p2 p0.List.length else true) <| need (bif r1 then ((F39 (TTraffic.mk r11.1.Group r11.1.Aids) ((gd p0.List p2.toNat).Aid)).isSome) else true) <| some (r1 && (bB (gt (F39 (TTraffic.mk r11.1.Group r11.1.Aids) ((gd p0.List p2.toNat).Aid))) ((bLt 0 (wr .i64 ((((gd p0.List p2.toNat).Held).length : Nat) - r23))) || ((bEq p1.Deliver 15) && (bLt 0 (((gd p0.List p2.toNat).Held).length : Nat))))))) some)))
noncomputable def body9 : List AV -> AR
  | [v0, v1, v2] => .pure (aK 4 k_TBuffer v0 /\ aK 3 k_TTriggerPlan v1 /\ iK .i64 v2 /\ (F9 (g_TBuffer (aL v0)) (g_TTriggerPlan (aL v1)) (iA v2)).isSome = true) (.bool (gt (F9 (g_TBuffer (aL v0)) (g_TTriggerPlan (aL v1)) (iA v2))))
  | _ => .fail
set_option maxHeartbeats 4000000 in
set_option maxRecDepth 20000 in
theorem ok9 : FnOk Try.prog 9 (pureC body9) := by
  refine pure_fnM body9 (rs := [.tmp 6]) Try.func9 (by kernel_rfl) rfl rfl ?_
  intro l ob v hb hob
  unfold body9 at hb
  split at hb
  · rename_i v0 v1 v2
    injection hb with q1 q2; subst q1 q2
    obtain ⟨hk0_0, hk1_0, hk2_0, hob⟩ := hob
    obtain ⟨r, H⟩ := Option.isSome_iff_exists.1 hob
    rw [H, gt_some]
    have hw0 := wA_TBuffer hk0_0
    have hw1 := wA_TTriggerPlan hk1_0
    have hw2 := iK_wk hk2_0
    generalize g_TBuffer (aL v0) = p0 at H hw0
    generalize g_TTriggerPlan (aL v1) = p1 at H hw1
    generalize iA v2 = p2 at H hw2
    refine ⟨[.agg [.int .i64 p0.Limit, .int .i64 p0.Stay, .ro 3 p0.List.length false (enR c_TSleeper p0.List), .ro 43 p0.Group.length false (enR c_TStored p0.Group)], .agg [.int .u8 p1.Start, .int .u8 p1.Deliver, .int .i64 p1.Most], .int .i64 p2], _, (fun E vs F => FR_wk1 hw0.1 F (fun vs F => FR_wk1 hw1.1 F (fun vs F => FR_wk1 hw2.1 F (fun vs F => F)))), rfl, rfl, ?_⟩
    rw [Try.ntmps9]
    simp only [List.length_cons, List.length_nil, Nat.reduceAdd, Nat.reduceSub, List.replicate_succ, List.replicate_zero, List.cons_append, List.nil_append]
    unfold F9 at H
    try dsimp only at H
    refine sq ctNo_ok ?_
    simp only [go_sem, Nat.reduceLeDiff, Nat.reduceLT, Nat.reduceAdd, Nat.reduceMul, Nat.reduceSub, Nat.reduceEqDiff, Nat.reduceBEq, Int.reduceToNat, reduceCtorEq]
    refine seqM ?_
    obtain ⟨r1, e2, H⟩ := bsi H
    refine rg ct9t0_ok ?_
    simp only [go_sem, Nat.reduceLeDiff, Nat.reduceLT, Nat.reduceAdd, Nat.reduceMul, Nat.reduceSub, Nat.reduceEqDiff, Nat.reduceBEq, Int.reduceToNat, reduceCtorEq, ct9t0_32, body32, e2]
    repeat ((with_reducible refine And.intro ?_ ?_); focus (first | (and_intros <;> first | (with_reducible trivial) | omega | assumption | exact nfc | first | exact rfl | exact trivial | exact fitI | exact .inr rfl | exact .inl rfl | exact fun x hx => absurd hx (by omega)) | grind))
    refine seqM ?_
    refine seqM ?_
    obtain ⟨r3, e4, H⟩ := bsi H
    refine rg ct9t1_ok ?_
    simp only [go_sem, Nat.reduceLeDiff, Nat.reduceLT, Nat.reduceAdd, Nat.reduceMul, Nat.reduceSub, Nat.reduceEqDiff, Nat.reduceBEq, Int.reduceToNat, reduceCtorEq, ct9t1_24, body24, e4]
    repeat ((with_reducible refine And.intro ?_ ?_); focus (first | (with_reducible trivial) | omega | (intro g; and_intros <;> first | (with_reducible trivial) | assumption | exact nfc | (intro g2; rw [g, g2]; rfl) | (intro g2; assumption) | (simp only [g, Bool.true_and, Bool.and_true, Bool.not_false, Bool.not_true]; assumption) | grind) | (and_intros <;> first | (with_reducible trivial) | omega | assumption | exact nfc | first | exact rfl | exact trivial | exact fitI | exact .inr rfl | exact .inl rfl | exact fun x hx => absurd hx (by omega)) | grind))
    refine condM rfl trivial (fun hc => ?_) (fun hc => ?_)
    · replace H := cond_t hc H
      refine sq ctNo_ok ?_
      simp only [go_sem, Nat.reduceLeDiff, Nat.reduceLT, Nat.reduceAdd, Nat.reduceMul, Nat.reduceSub, Nat.reduceEqDiff, Nat.reduceBEq, Int.reduceToNat, reduceCtorEq]
      refine rg ctNo_ok ?_
      simp only [go_sem, Nat.reduceLeDiff, Nat.reduceLT, Nat.reduceAdd, Nat.reduceMul, Nat.reduceSub, Nat.reduceEqDiff, Nat.reduceBEq, Int.reduceToNat, reduceCtorEq]
      obtain rfl := Option.some.inj H
      first | rfl | simp only [Bool.and_false, Bool.false_and, Bool.and_true, Bool.true_and]
    replace H := cond_f hc H
    refine rg ctNo_ok ?_
    simp only [go_sem, Nat.reduceLeDiff, Nat.reduceLT, Nat.reduceAdd, Nat.reduceMul, Nat.reduceSub, Nat.reduceEqDiff, Nat.reduceBEq, Int.reduceToNat, reduceCtorEq]
    refine seqM ?_
    obtain ⟨f5, H⟩ := need_some.1 H
    replace f5 := mkb_iff.1 f5
    refine rg ctNo_ok ?_
    simp only [go_sem, Nat.reduceLeDiff, Nat.reduceLT, Nat.reduceAdd, Nat.reduceMul, Nat.reduceSub, Nat.reduceEqDiff, Nat.reduceBEq, Int.reduceToNat, reduceCtorEq, f5]
    repeat ((with_reducible refine And.intro ?_ ?_); focus (first | (and_intros <;> first | (with_reducible trivial) | omega | assumption | exact nfc | first | exact rfl | exact trivial | exact fitI | exact .inr rfl | exact .inl rfl | exact fun x hx => absurd hx (by omega) | (intro x hx; (repeat (first | (and_intros <;> (first | exact rfl | exact trivial | exact fitI | exact .inr rfl | exact .inl rfl | exact fun x hx => absurd hx (by omega))) | (exfalso; omega) | (rcases x with _ | x))); done)) | grind))
    refine seqM ?_
    obtain ⟨w6, hw7, H⟩ := bsi H
    replace hw7 := Option.some.inj hw7
    have lhw7 : w6.length = p0.List.length := by rw [← hw7]; exact (by simp)
    refine subF_mean (t2 := (.top :: .top :: .int .i64 p2 :: .ptr 0 0 0 0 :: .ptr 1 0 0 0 :: .top :: .top :: .bool r1 :: .sl 2 3 0 w6.length false :: tp 147 [])) (h2 := [.lit 52 [.int .i64 p0.Limit, .int .i64 p0.Stay, .ro 3 p0.List.length false (enR c_TSleeper p0.List), .ro 43 p0.Group.length false (enR c_TStored p0.Group)], .lit 23 [.int .u8 p1.Start, .int .u8 p1.Deliver, .int .i64 p1.Most], .row 23 3 w6.length (enR c_TTriggerPlan w6)]) ?_ ?_
    · refine SubF_of ⟨[some 0, some 1, some 2], ?_, ?_, by rfl, by rfl⟩
      · simp [CvL, Cv, getM, tp, lhw7]
      · exact ⟨(by simp [CvB, CvL, Cv, blkAt, geth, getM, lhw7]), (by simp [CvB, CvL, Cv, blkAt, geth, getM, lhw7]), CvB_row nr_TTriggerPlan lhw7 (hw7 ▸ (rep_row (f := c_TTriggerPlan) p0.List.length (TTriggerPlan.mk 0 0 0) rfl)), trivial⟩
    simp only [tp]
    obtain ⟨f8, H⟩ := need_some.1 H
    replace f8 := inb_iff.1 f8
    refine rg ctNo_ok ?_
    simp only [go_sem, Nat.reduceLeDiff, Nat.reduceLT, Nat.reduceAdd, Nat.reduceMul, Nat.reduceSub, Nat.reduceEqDiff, Nat.reduceBEq, Int.reduceToNat, reduceCtorEq, f8]
    repeat ((with_reducible refine And.intro ?_ ?_); focus (first | (with_reducible trivial) | omega | grind))
    refine seqM ?_
    obtain ⟨w9, hw10, H⟩ := bsi H
    replace hw10 := Option.some.inj hw10
    have lhw10 : w9.length = w6.length := by rw [← hw10]; exact (by first | rfl | (simp; done) | (simp; omega))
    refine subF_mean (t2 := (.top :: .top :: .int .i64 p2 :: .ptr 0 0 0 0 :: .ptr 1 0 0 0 :: .top :: .top :: .bool r1 :: .sl 2 3 0 w9.length false :: tp 147 [])) (h2 := [.lit 52 [.int .i64 p0.Limit, .int .i64 p0.Stay, .ro 3 p0.List.length false (enR c_TSleeper p0.List), .ro 43 p0.Group.length false (enR c_TStored p0.Group)], .lit 23 [.int .u8 p1.Start, .int .u8 p1.Deliver, .int .i64 p1.Most], .row 23 3 w9.length (enR c_TTriggerPlan w9)]) ?_ ?_
    · refine SubF_of ⟨[some 0, some 1, some 2], ?_, ?_, by rfl, by rfl⟩
      · simp [CvL, Cv, getM, tp, lhw10]
      · exact ⟨(by simp [CvB, CvL, Cv, blkAt, geth, getM, lhw10]), (by simp [CvB, CvL, Cv, blkAt, geth, getM, lhw10]), CvB_row nr_TTriggerPlan lhw10 (hw10 ▸ (upc_row (f := c_TTriggerPlan) w6 p2.toNat 0 p1 (fun _ _ _ _ => rfl) (fun y hy => match y, hy with | 0, _ => rfl | 1, _ => rfl | 2, _ => rfl | (y+3), h => absurd h (by omega)))), trivial⟩
    simp only [tp]
    obtain ⟨r11, e12, H⟩ := bsi H
    refine rg ct9t2_ok ?_
    simp only [go_sem, Nat.reduceLeDiff, Nat.reduceLT, Nat.reduceAdd, Nat.reduceMul, Nat.reduceSub, Nat.reduceEqDiff, Nat.reduceBEq, Int.reduceToNat, reduceCtorEq, ct9t2_25, body25, e12]
    repeat ((with_reducible refine And.intro ?_ ?_); focus (first | (and_intros <;> first | (with_reducible trivial) | omega | assumption | exact nfc | first | exact rfl | exact trivial | exact fitI | exact .inr rfl | exact .inl rfl | exact fun x hx => absurd hx (by omega)) | grind))
    refine seqM ?_
    obtain ⟨r13, e14, H⟩ := bsi H
    refine rg ct9t3_ok ?_
    simp only [go_sem, Nat.reduceLeDiff, Nat.reduceLT, Nat.reduceAdd, Nat.reduceMul, Nat.reduceSub, Nat.reduceEqDiff, Nat.reduceBEq, Int.reduceToNat, reduceCtorEq, ct9t3_37, body37, e14]
    repeat ((with_reducible refine And.intro ?_ ?_); focus (first | (and_intros <;> first | (with_reducible trivial) | omega | assumption | exact nfc | first | exact rfl | exact trivial | exact fitI | exact .inr rfl | exact .inl rfl | exact fun x hx => absurd hx (by omega)) | grind))
    refine seqM ?_
    refine sq ctNo_ok ?_
    simp only [go_sem, Nat.reduceLeDiff, Nat.reduceLT, Nat.reduceAdd, Nat.reduceMul, Nat.reduceSub, Nat.reduceEqDiff, Nat.reduceBEq, Int.reduceToNat, reduceCtorEq]
    refine condM rfl trivial (fun hc => ?_) (fun hc => ?_)
    · replace H := cond_t hc H
      refine seqM ?_
      obtain ⟨f15, H⟩ := need_some.1 H
      replace f15 := g_iff.1 f15
      refine rg ct9t4_ok ?_
      simp only [go_sem, Nat.reduceLeDiff, Nat.reduceLT, Nat.reduceAdd, Nat.reduceMul, Nat.reduceSub, Nat.reduceEqDiff, Nat.reduceBEq, Int.reduceToNat, reduceCtorEq, ct9t4_20, body20]
      repeat ((with_reducible refine And.intro ?_ ?_); focus (first | (with_reducible trivial) | omega | exact f15 | (intro g; have q := f15 (by first | exact g | (rw [g]; rfl) | simpa using g); first | exact q | exact ⟨q.1, q.2.1⟩ | exact q.2.2 | omega | exact ⟨g, q⟩ | exact ⟨trivial, q⟩ | exact ⟨g, q.1, q.2.1⟩ | exact ⟨g, q.2.2⟩) | (intro g; (try have q0 := f15 (by first | exact g | (rw [g]; rfl) | simpa using g)); and_intros <;> first | (with_reducible trivial) | assumption | exact nfc | (intro g2; rw [g, g2]; rfl) | (intro g2; assumption) | (simp only [g, Bool.true_and, Bool.and_true, Bool.not_false, Bool.not_true]; assumption) | grind) | (and_intros <;> first | (with_reducible trivial) | omega | assumption | exact nfc | first | exact rfl | exact trivial | exact fitI | exact .inr rfl | exact .inl rfl | exact fun x hx => absurd hx (by omega)) | grind))
      refine rg ctNo_ok ?_
      simp only [go_sem, Nat.reduceLeDiff, Nat.reduceLT, Nat.reduceAdd, Nat.reduceMul, Nat.reduceSub, Nat.reduceEqDiff, Nat.reduceBEq, Int.reduceToNat, reduceCtorEq]
      obtain rfl := Option.some.inj H
      first | rfl | simp only [Bool.and_false, Bool.false_and, Bool.and_true, Bool.true_and]
    replace H := cond_f hc H
    refine rg ctNo_ok ?_
    simp only [go_sem, Nat.reduceLeDiff, Nat.reduceLT, Nat.reduceAdd, Nat.reduceMul, Nat.reduceSub, Nat.reduceEqDiff, Nat.reduceBEq, Int.reduceToNat, reduceCtorEq]
    refine seqM ?_
    refine seqM ?_
    obtain ⟨f16, H⟩ := need_some.1 H
    replace f16 := g_iff.1 f16
    refine rg ct9t5_ok ?_
    simp only [go_sem, Nat.reduceLeDiff, Nat.reduceLT, Nat.reduceAdd, Nat.reduceMul, Nat.reduceSub, Nat.reduceEqDiff, Nat.reduceBEq, Int.reduceToNat, reduceCtorEq, ct9t5_38, body38]
    repeat ((with_reducible refine And.intro ?_ ?_); focus (first | (with_reducible trivial) | omega | exact f16 | (intro g; have q := f16 (by first | exact g | (rw [g]; rfl) | simpa using g); first | exact q | exact ⟨q.1, q.2.1⟩ | exact q.2.2 | omega | exact ⟨g, q⟩ | exact ⟨trivial, q⟩ | exact ⟨g, q.1, q.2.1⟩ | exact ⟨g, q.2.2⟩) | (intro g; (try have q0 := f16 (by first | exact g | (rw [g]; rfl) | simpa using g)); and_intros <;> first | (with_reducible trivial) | assumption | exact nfc | (intro g2; rw [g, g2]; rfl) | (intro g2; assumption) | (simp only [g, Bool.true_and, Bool.and_true, Bool.not_false, Bool.not_true]; assumption) | grind) | (and_intros <;> first | (with_reducible trivial) | omega | assumption | exact nfc | first | exact rfl | exact trivial | exact fitI | exact .inr rfl | exact .inl rfl | exact fun x hx => absurd hx (by omega)) | grind))
    refine condM rfl trivial (fun hc => ?_) (fun hc => ?_)
    · replace H := cond_t hc H
      refine sq ctNo_ok ?_
      simp only [go_sem, Nat.reduceLeDiff, Nat.reduceLT, Nat.reduceAdd, Nat.reduceMul, Nat.reduceSub, Nat.reduceEqDiff, Nat.reduceBEq, Int.reduceToNat, reduceCtorEq]
      refine rg ctNo_ok ?_
      simp only [go_sem, Nat.reduceLeDiff, Nat.reduceLT, Nat.reduceAdd, Nat.reduceMul, Nat.reduceSub, Nat.reduceEqDiff, Nat.reduceBEq, Int.reduceToNat, reduceCtorEq]
      obtain rfl := Option.some.inj H
      first | rfl | simp only [Bool.and_false, Bool.false_and, Bool.and_true, Bool.true_and]
    replace H := cond_f hc H
    refine rg ctNo_ok ?_
    simp only [go_sem, Nat.reduceLeDiff, Nat.reduceLT, Nat.reduceAdd, Nat.reduceMul, Nat.reduceSub, Nat.reduceEqDiff, Nat.reduceBEq, Int.reduceToNat, reduceCtorEq]
    refine seqM ?_
    refine sq ctNo_ok ?_
    simp only [go_sem, Nat.reduceLeDiff, Nat.reduceLT, Nat.reduceAdd, Nat.reduceMul, Nat.reduceSub, Nat.reduceEqDiff, Nat.reduceBEq, Int.reduceToNat, reduceCtorEq]
    refine blkM ?_
    refine loop_den (fun s : Int => (.top :: .top :: .int .i64 p2 :: .ptr 0 0 0 0 :: .ptr 1 0 0 0 :: .top :: .top :: .bool r1 :: .top :: .ptr 4 0 0 0 :: .top :: .ptr 6 0 0 0 :: .top :: .int .i64 s :: tp 142 [])) (fun s => [.lit 52 [.int .i64 p0.Limit, .int .i64 p0.Stay, .ro 3 p0.List.length false (enR c_TSleeper p0.List), .ro 43 p0.Group.length false (enR c_TStored p0.Group)], .lit 23 [.int .u8 p1.Start, .int .u8 p1.Deliver, .int .i64 p1.Most], .dead, .row 3 1 r11.1.Aids.length (enR c_i64 r11.1.Aids), .lit 57 [.bool r11.1.Group, .sl 3 1 0 r11.1.Aids.length false], .row 3 1 r13.1.Aids.length (enR c_i64 r13.1.Aids), .lit 57 [.bool r13.1.Group, .sl 5 1 0 r13.1.Aids.length false]]) (fun e : Unit => (.top :: .top :: .int .i64 p2 :: .ptr 0 0 0 0 :: .ptr 1 0 0 0 :: .top :: .top :: .bool r1 :: .top :: .ptr 4 0 0 0 :: tp 146 [])) (fun e => [.lit 52 [.int .i64 p0.Limit, .int .i64 p0.Stay, .ro 3 p0.List.length false (enR c_TSleeper p0.List), .ro 43 p0.Group.length false (enR c_TStored p0.Group)], .lit 23 [.int .u8 p1.Start, .int .u8 p1.Deliver, .int .i64 p1.Most], .dead, .row 3 1 r11.1.Aids.length (enR c_i64 r11.1.Aids), .lit 57 [.bool r11.1.Group, .sl 3 1 0 r11.1.Aids.length false], .dead, .dead]) H ?_ (fun v1_1 o H hn1_1 hn2_1 => ?_) (fun e H => ?_)
    · refine SubF_of ⟨[some 0, some 1, some 2, some 3, some 4, some 5, some 6], ?_, ?_, by rfl, by rfl⟩
      · simp [CvL, Cv, getM, tp]
      · exact ⟨(by simp [CvB, CvL, Cv, blkAt, geth, getM]), (by simp [CvB, CvL, Cv, blkAt, geth, getM]), CvB_dead, (CvB_same nfA), (by simp [CvB, CvL, Cv, blkAt, geth, getM]), (CvB_same nfA), (by simp [CvB, CvL, Cv, blkAt, geth, getM]), trivial⟩
    · unfold F9_L1 at H
      try dsimp only at H ⊢
      try simp only [tp]
      refine seqM ?_
      refine sq ctNo_ok ?_
      simp only [go_sem, Nat.reduceLeDiff, Nat.reduceLT, Nat.reduceAdd, Nat.reduceMul, Nat.reduceSub, Nat.reduceEqDiff, Nat.reduceBEq, Int.reduceToNat, reduceCtorEq]
      repeat ((with_reducible refine And.intro ?_ ?_); focus (first | (and_intros <;> first | (with_reducible trivial) | omega | assumption | exact nfc | first | exact rfl | exact trivial | exact fitI | exact .inr rfl | exact .inl rfl | exact fun x hx => absurd hx (by omega)) | grind))
      refine condM' rfl trivial (fun hc => ?_) (fun hc => ?_)
      · replace H := cond_f hc H
        refine rg ctNo_ok ?_
        simp only [go_sem, Nat.reduceLeDiff, Nat.reduceLT, Nat.reduceAdd, Nat.reduceMul, Nat.reduceSub, Nat.reduceEqDiff, Nat.reduceBEq, Int.reduceToNat, reduceCtorEq]
        refine ⟨_, (Option.some.inj H).symm, ?_⟩
        refine SubF_of ⟨[some 0, some 1, some 2, some 3, some 4, some 5, some 6], ?_, ?_, by rfl, by rfl⟩
        · simp [CvL, Cv, getM, tp]
        · exact ⟨(by simp [CvB, CvL, Cv, blkAt, geth, getM]), (by simp [CvB, CvL, Cv, blkAt, geth, getM]), CvB_dead, (CvB_same nfA), (by simp [CvB, CvL, Cv, blkAt, geth, getM]), CvB_dead, CvB_dead, trivial⟩
      replace H := cond_t hc H
      refine rg ctNo_ok ?_
      simp only [go_sem, Nat.reduceLeDiff, Nat.reduceLT, Nat.reduceAdd, Nat.reduceMul, Nat.reduceSub, Nat.reduceEqDiff, Nat.reduceBEq, Int.reduceToNat, reduceCtorEq]
      refine seqM ?_
      refine blkM ?_
      refine seqM ?_
      obtain ⟨f17, H⟩ := need_some.1 H
      replace f17 := inb_iff.1 f17
      refine rg ctNo_ok ?_
      simp only [go_sem, Nat.reduceLeDiff, Nat.reduceLT, Nat.reduceAdd, Nat.reduceMul, Nat.reduceSub, Nat.reduceEqDiff, Nat.reduceBEq, Int.reduceToNat, reduceCtorEq, f17]
      repeat ((with_reducible refine And.intro ?_ ?_); focus (first | (with_reducible trivial) | omega | grind))
      refine seqM ?_
      obtain ⟨r18, e19, H⟩ := bsi H
      obtain ⟨r20, e21, H⟩ := bsi H
      refine draw_quiet shT_ok ct9t6_ok (by kernel_rfl) (by kernel_rfl) ?_
      simp only [go_sem, Nat.reduceLeDiff, Nat.reduceLT, Nat.reduceAdd, Nat.reduceMul, Nat.reduceSub, Nat.reduceEqDiff, Nat.reduceBEq, Int.reduceToNat, reduceCtorEq, ct9t6_39, body39, e19, e21]
      repeat ((with_reducible refine And.intro ?_ ?_); focus (first | (and_intros <;> first | (with_reducible trivial) | omega | assumption | exact nfc | first | exact rfl | exact trivial | exact fitI | exact .inr rfl | exact .inl rfl | exact fun x hx => absurd hx (by omega)) | grind))
      refine sq ctNo_ok ?_
      simp only [go_sem, Nat.reduceLeDiff, Nat.reduceLT, Nat.reduceAdd, Nat.reduceMul, Nat.reduceSub, Nat.reduceEqDiff, Nat.reduceBEq, Int.reduceToNat, reduceCtorEq]
      repeat ((with_reducible refine And.intro ?_ ?_); focus (first | (with_reducible trivial) | omega | grind))
      refine condM rfl trivial (fun hc => ?_) (fun hc => ?_)
      · replace H := cond_t hc H
        refine sq ctNo_ok ?_
        simp only [go_sem, Nat.reduceLeDiff, Nat.reduceLT, Nat.reduceAdd, Nat.reduceMul, Nat.reduceSub, Nat.reduceEqDiff, Nat.reduceBEq, Int.reduceToNat, reduceCtorEq]
        refine rg ctNo_ok ?_
        simp only [go_sem, Nat.reduceLeDiff, Nat.reduceLT, Nat.reduceAdd, Nat.reduceMul, Nat.reduceSub, Nat.reduceEqDiff, Nat.reduceBEq, Int.reduceToNat, reduceCtorEq]
        have H := hn2_1 _ (Option.some.inj H).symm
        obtain rfl := Option.some.inj H
        first | rfl | simp only [Bool.and_false, Bool.false_and, Bool.and_true, Bool.true_and]
      replace H := cond_f hc H
      refine rg ctNo_ok ?_
      simp only [go_sem, Nat.reduceLeDiff, Nat.reduceLT, Nat.reduceAdd, Nat.reduceMul, Nat.reduceSub, Nat.reduceEqDiff, Nat.reduceBEq, Int.reduceToNat, reduceCtorEq]
      refine rg ctNo_ok ?_
      simp only [go_sem, Nat.reduceLeDiff, Nat.reduceLT, Nat.reduceAdd, Nat.reduceMul, Nat.reduceSub, Nat.reduceEqDiff, Nat.reduceBEq, Int.reduceToNat, reduceCtorEq]
      refine ⟨_, (Option.some.inj H).symm, ?_⟩
      refine SubF_of ⟨[some 0, some 1, some 2, some 3, some 4, some 5, some 6], ?_, ?_, by rfl, by rfl⟩
      · simp [CvL, Cv, getM, tp]
      · exact ⟨(by simp [CvB, CvL, Cv, blkAt, geth, getM]), (by simp [CvB, CvL, Cv, blkAt, geth, getM]), CvB_dead, (CvB_same nfA), (by simp [CvB, CvL, Cv, blkAt, geth, getM]), (CvB_same nfA), (by simp [CvB, CvL, Cv, blkAt, geth, getM]), trivial⟩
    · try dsimp only at H ⊢
      try simp only [tp]
      try simp only [m_normal, k_normal, b_normal, kL_normal, r_normal]
      refine seqM ?_
      obtain ⟨f22, H⟩ := need_some.1 H
      replace f22 := inb_iff.1 f22
      refine rg ctNo_ok ?_
      simp only [go_sem, Nat.reduceLeDiff, Nat.reduceLT, Nat.reduceAdd, Nat.reduceMul, Nat.reduceSub, Nat.reduceEqDiff, Nat.reduceBEq, Int.reduceToNat, reduceCtorEq, f22]
      repeat ((with_reducible refine And.intro ?_ ?_); focus (first | (with_reducible trivial) | omega | grind))
      refine seqM ?_
      obtain ⟨r23, e24, H⟩ := bsi H
      refine rg ct9t7_ok ?_
      simp only [go_sem, Nat.reduceLeDiff, Nat.reduceLT, Nat.reduceAdd, Nat.reduceMul, Nat.reduceSub, Nat.reduceEqDiff, Nat.reduceBEq, Int.reduceToNat, reduceCtorEq, ct9t7_35, body35, e24]
      repeat ((with_reducible refine And.intro ?_ ?_); focus (first | (and_intros <;> first | (with_reducible trivial) | omega | assumption | exact nfc | first | exact rfl | exact trivial | exact fitI | exact .inr rfl | exact .inl rfl | exact fun x hx => absurd hx (by omega)) | grind))
      refine seqM ?_
      obtain ⟨f25, H⟩ := need_some.1 H
      replace f25 := g_iff.1 f25
      replace f25 := fun g => inb_iff.1 (f25 g)
      obtain ⟨f26, H⟩ := need_some.1 H
      replace f26 := g_iff.1 f26
      refine draw_quiet shT_ok ct9t6_ok (by kernel_rfl) (by kernel_rfl) ?_
      simp only [go_sem, Nat.reduceLeDiff, Nat.reduceLT, Nat.reduceAdd, Nat.reduceMul, Nat.reduceSub, Nat.reduceEqDiff, Nat.reduceBEq, Int.reduceToNat, reduceCtorEq, ct9t6_39, body39]
      repeat ((with_reducible refine And.intro ?_ ?_); focus (first | (with_reducible trivial) | omega | exact f25 | exact f26 | (intro g; have q := f25 (by first | exact g | (rw [g]; rfl) | simpa using g); first | exact q | exact ⟨q.1, q.2.1⟩ | exact q.2.2 | omega | exact ⟨g, q⟩ | exact ⟨trivial, q⟩ | exact ⟨g, q.1, q.2.1⟩ | exact ⟨g, q.2.2⟩) | (intro g; have q := f26 (by first | exact g | (rw [g]; rfl) | simpa using g); first | exact q | exact ⟨q.1, q.2.1⟩ | exact q.2.2 | omega | exact ⟨g, q⟩ | exact ⟨trivial, q⟩ | exact ⟨g, q.1, q.2.1⟩ | exact ⟨g, q.2.2⟩) | (intro g; (try have q0 := f25 (by first | exact g | (rw [g]; rfl) | simpa using g)); (try have q1 := f26 (by first | exact g | (rw [g]; rfl) | simpa using g)); and_intros <;> first | (with_reducible trivial) | assumption | exact nfc | (intro g2; rw [g, g2]; rfl) | (intro g2; assumption) | (simp only [g, Bool.true_and, Bool.and_true, Bool.not_false, Bool.not_true]; assumption) | grind) | (and_intros <;> first | (with_reducible trivial) | omega | assumption | exact nfc | first | exact rfl | exact trivial | exact fitI | exact .inr rfl | exact .inl rfl | exact fun x hx => absurd hx (by omega)) | grind))
      refine rg ctNo_ok ?_
      simp only [go_sem, Nat.reduceLeDiff, Nat.reduceLT, Nat.reduceAdd, Nat.reduceMul, Nat.reduceSub, Nat.reduceEqDiff, Nat.reduceBEq, Int.reduceToNat, reduceCtorEq]
      obtain rfl := Option.some.inj H
      first | rfl | simp only [Bool.and_false, Bool.false_and, Bool.and_true, Bool.true_and]
  · cases hb
end Go.Proofs.Ytnclkplbeenmdaa
