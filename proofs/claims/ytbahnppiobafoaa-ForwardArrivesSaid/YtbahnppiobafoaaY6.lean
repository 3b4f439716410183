/-
  What ForwardArrives reaches.
-/
import Derived.Test.YtbahnppiobafoaaY6p2
namespace Go.Proofs.Ytbahnppiobafoaa
open Go.Am
set_option linter.unusedVariables false
set_option linter.unusedSimpArgs false
/-! hotspot/hotspotref22.Same -/
noncomputable def F16_L1 (p0 : List Int) (p1 : List Int) (v1_1 : Int) : Option (Lp (Int) ((Unit) ⊕ (Bool))) :=
  bif (bLt v1_1 (p0.length : Nat)) then (need (inb v1_1 p0.length) <| need (inb v1_1 p1.length) <| bif (!bEq (gd p0 v1_1.toNat) (gd p1 v1_1.toNat)) then (some (.done (.inr false))) else (some (.next (wr .i64 (v1_1 + 1))))) else (some (.done (.inl ())))
noncomputable def F16 (p0 : List Int) (p1 : List Int) : Option (Bool) :=
  bif (!bEq (p0.length : Nat) (p1.length : Nat)) then (some false) else (lp (loopD (fun s => F16_L1 p0 p1 s) 0) (fun _ => some true) some)
noncomputable def body16 : List AV -> AR
  | [v0, v1] => .pure (lK k_u8 1 v0 /\ lK k_u8 1 v1 /\ (F16 (lA g_u8 v0) (lA g_u8 v1)).isSome = true) (.bool (gt (F16 (lA g_u8 v0) (lA g_u8 v1))))
  | _ => .fail
set_option maxHeartbeats 4000000 in
set_option maxRecDepth 20000 in
theorem ok16 : FnOk Try.prog 16 (pureC body16) := by
  refine pure_fnM body16 (rs := [.tmp 4]) Try.func16 (by kernel_rfl) rfl rfl ?_
  intro l ob v hb hob
  unfold body16 at hb
  split at hb
  · rename_i v0 v1
    injection hb with q1 q2; subst q1 q2
    obtain ⟨hk0_0, hk1_0, hob⟩ := hob
    obtain ⟨r, H⟩ := Option.isSome_iff_exists.1 hob
    rw [H, gt_some]
    have hw0 := lK_wk (fun r h => w_u8 h) hk0_0
    have hw1 := lK_wk (fun r h => w_u8 h) hk1_0
    generalize lA g_u8 v0 = p0 at H hw0
    generalize lA g_u8 v1 = p1 at H hw1
    refine ⟨[.ro 1 p0.length false (enR c_u8 p0), .ro 1 p1.length false (enR c_u8 p1)], _, (fun E vs F => FR_wk1 hw0.1 F (fun vs F => FR_wk1 hw1.1 F (fun vs F => F))), rfl, rfl, ?_⟩
    rw [Try.ntmps16]
    simp only [List.length_cons, List.length_nil, Nat.reduceAdd, Nat.reduceSub, List.replicate_succ, List.replicate_zero, List.cons_append, List.nil_append]
    unfold F16 at H
    try dsimp only at H
    refine sq ctNo_ok ?_
    simp only [go_sem, Nat.reduceLeDiff, Nat.reduceLT, Nat.reduceAdd, Nat.reduceMul, Nat.reduceSub, Nat.reduceEqDiff, Nat.reduceBEq, Int.reduceToNat, reduceCtorEq]
    refine seqM ?_
    refine sq ctNo_ok ?_
    simp only [go_sem, Nat.reduceLeDiff, Nat.reduceLT, Nat.reduceAdd, Nat.reduceMul, Nat.reduceSub, Nat.reduceEqDiff, Nat.reduceBEq, Int.reduceToNat, reduceCtorEq]
    repeat ((with_reducible refine And.intro ?_ ?_); focus exact an0)
    refine condM rfl trivial (fun hc => ?_) (fun hc => ?_)
    · replace H := cond_t hc H
      refine sq ctNo_ok ?_
      simp only [go_sem, Nat.reduceLeDiff, Nat.reduceLT, Nat.reduceAdd, Nat.reduceMul, Nat.reduceSub, Nat.reduceEqDiff, Nat.reduceBEq, Int.reduceToNat, reduceCtorEq]
      refine rg ctNo_ok ?_
      simp only [go_sem, Nat.reduceLeDiff, Nat.reduceLT, Nat.reduceAdd, Nat.reduceMul, Nat.reduceSub, Nat.reduceEqDiff, Nat.reduceBEq, Int.reduceToNat, reduceCtorEq]
      obtain rfl := Option.some.inj H
      first | rfl | simp only [Bool.and_false, Bool.false_and, Bool.and_true, Bool.true_and]
    replace H := cond_f hc H
    refine rg ctNo_ok ?_
    simp only [go_sem, Nat.reduceLeDiff, Nat.reduceLT, Nat.reduceAdd, Nat.reduceMul, Nat.reduceSub, Nat.reduceEqDiff, Nat.reduceBEq, Int.reduceToNat, reduceCtorEq]
    refine seqM ?_
    refine sq ctNo_ok ?_
    simp only [go_sem, Nat.reduceLeDiff, Nat.reduceLT, Nat.reduceAdd, Nat.reduceMul, Nat.reduceSub, Nat.reduceEqDiff, Nat.reduceBEq, Int.reduceToNat, reduceCtorEq]
    refine blkM ?_
    refine loop_den (fun s : Int => (.ro 1 p0.length false (enR c_u8 p0) :: .ro 1 p1.length false (enR c_u8 p1) :: .top :: .top :: .top :: .int .i64 s :: tp 20 [])) (fun s => []) (fun e : Unit => (tp 26 [])) (fun e => []) H ?_ (fun v1_1 o H hn1_1 hn2_1 => ?_) (fun e H => ?_)
    · refine SubF_of ⟨[], ?_, ?_, by rfl, by rfl⟩
      · simp [CvL, Cv, getM, tp]
      · trivial
    · unfold F16_L1 at H
      try dsimp only at H ⊢
      try simp only [tp]
      refine seqM ?_
      refine sq ctNo_ok ?_
      simp only [go_sem, Nat.reduceLeDiff, Nat.reduceLT, Nat.reduceAdd, Nat.reduceMul, Nat.reduceSub, Nat.reduceEqDiff, Nat.reduceBEq, Int.reduceToNat, reduceCtorEq]
      repeat ((with_reducible refine And.intro ?_ ?_); focus exact an0)
      refine condM' rfl trivial (fun hc => ?_) (fun hc => ?_)
      · replace H := cond_f hc H
        refine rg ctNo_ok ?_
        simp only [go_sem, Nat.reduceLeDiff, Nat.reduceLT, Nat.reduceAdd, Nat.reduceMul, Nat.reduceSub, Nat.reduceEqDiff, Nat.reduceBEq, Int.reduceToNat, reduceCtorEq]
        refine ⟨_, (Option.some.inj H).symm, ?_⟩
        refine SubF_of ⟨[], ?_, ?_, by rfl, by rfl⟩
        · simp [CvL, Cv, getM, tp]
        · trivial
      replace H := cond_t hc H
      refine rg ctNo_ok ?_
      simp only [go_sem, Nat.reduceLeDiff, Nat.reduceLT, Nat.reduceAdd, Nat.reduceMul, Nat.reduceSub, Nat.reduceEqDiff, Nat.reduceBEq, Int.reduceToNat, reduceCtorEq]
      refine seqM ?_
      refine blkM ?_
      refine seqM ?_
      obtain ⟨f1, H⟩ := need_some.1 H
      replace f1 := inb_iff.1 f1
      obtain ⟨f2, H⟩ := need_some.1 H
      replace f2 := inb_iff.1 f2
      refine draw_quiet shT_ok ctNo_ok (by kernel_rfl) (by kernel_rfl) ?_
      simp only [go_sem, Nat.reduceLeDiff, Nat.reduceLT, Nat.reduceAdd, Nat.reduceMul, Nat.reduceSub, Nat.reduceEqDiff, Nat.reduceBEq, Int.reduceToNat, reduceCtorEq, f1, f2]
      repeat ((with_reducible refine And.intro ?_ ?_); focus exact an2)
      refine condM rfl trivial (fun hc => ?_) (fun hc => ?_)
      · replace H := cond_t hc H
        refine sq ctNo_ok ?_
        simp only [go_sem, Nat.reduceLeDiff, Nat.reduceLT, Nat.reduceAdd, Nat.reduceMul, Nat.reduceSub, Nat.reduceEqDiff, Nat.reduceBEq, Int.reduceToNat, reduceCtorEq]
        refine rg ctNo_ok ?_
        simp only [go_sem, Nat.reduceLeDiff, Nat.reduceLT, Nat.reduceAdd, Nat.reduceMul, Nat.reduceSub, Nat.reduceEqDiff, Nat.reduceBEq, Int.reduceToNat, reduceCtorEq]
        have H := hn2_1 _ (Option.some.inj H).symm
        obtain rfl := Option.some.inj H
        first | rfl | simp only [Bool.and_false, Bool.false_and, Bool.and_true, Bool.true_and]
      replace H := cond_f hc H
      refine rg ctNo_ok ?_
      simp only [go_sem, Nat.reduceLeDiff, Nat.reduceLT, Nat.reduceAdd, Nat.reduceMul, Nat.reduceSub, Nat.reduceEqDiff, Nat.reduceBEq, Int.reduceToNat, reduceCtorEq]
      refine rg ctNo_ok ?_
      simp only [go_sem, Nat.reduceLeDiff, Nat.reduceLT, Nat.reduceAdd, Nat.reduceMul, Nat.reduceSub, Nat.reduceEqDiff, Nat.reduceBEq, Int.reduceToNat, reduceCtorEq]
      refine ⟨_, (Option.some.inj H).symm, ?_⟩
      refine SubF_of ⟨[], ?_, ?_, by rfl, by rfl⟩
      · simp [CvL, Cv, getM, tp]
      · trivial
    · try dsimp only at H ⊢
      try simp only [tp]
      try simp only [m_normal, k_normal, b_normal, kL_normal, r_normal]
      refine sq ctNo_ok ?_
      simp only [go_sem, Nat.reduceLeDiff, Nat.reduceLT, Nat.reduceAdd, Nat.reduceMul, Nat.reduceSub, Nat.reduceEqDiff, Nat.reduceBEq, Int.reduceToNat, reduceCtorEq]
      refine rg ctNo_ok ?_
      simp only [go_sem, Nat.reduceLeDiff, Nat.reduceLT, Nat.reduceAdd, Nat.reduceMul, Nat.reduceSub, Nat.reduceEqDiff, Nat.reduceBEq, Int.reduceToNat, reduceCtorEq]
      obtain rfl := Option.some.inj H
      first | rfl | simp only [Bool.and_false, Bool.false_and, Bool.and_true, Bool.true_and]
  · cases hb
/-! hotspot/hotspotlaw41.ForwardArrives -/
noncomputable def ct6t0 : Ct := tab [(26, pureC body26)]
theorem ct6t0_ok : CtOk Try.prog ct6t0 := tab_cons ok26 <| tab_nil
theorem ct6t0_26 (l : List AV) (h : List ABlk) : ct6t0 26 l h = pureC body26 l h := rfl
noncomputable def ct6t1 : Ct := tab [(29, genC body29)]
theorem ct6t1_ok : CtOk Try.prog ct6t1 := tab_cons ok29 <| tab_nil
theorem ct6t1_29 (l : List AV) (h : List ABlk) : ct6t1 29 l h = genC body29 l h := rfl
noncomputable def ct6t2 : Ct := tab [(31, pureC body31), (32, genC body32)]
theorem ct6t2_ok : CtOk Try.prog ct6t2 := tab_cons ok31 <| tab_cons ok32 <| tab_nil
theorem ct6t2_31 (l : List AV) (h : List ABlk) : ct6t2 31 l h = pureC body31 l h := rfl
theorem ct6t2_32 (l : List AV) (h : List ABlk) : ct6t2 32 l h = genC body32 l h := rfl
noncomputable def ct6t3 : Ct := tab [(31, pureC body31)]
theorem ct6t3_ok : CtOk Try.prog ct6t3 := tab_cons ok31 <| tab_nil
theorem ct6t3_31 (l : List AV) (h : List ABlk) : ct6t3 31 l h = pureC body31 l h := rfl
noncomputable def ct6t4 : Ct := tab [(33, genC body33)]
theorem ct6t4_ok : CtOk Try.prog ct6t4 := tab_cons ok33 <| tab_nil
theorem ct6t4_33 (l : List AV) (h : List ABlk) : ct6t4 33 l h = genC body33 l h := rfl
noncomputable def ct6t5 : Ct := tab [(16, pureC body16), (31, pureC body31)]
theorem ct6t5_ok : CtOk Try.prog ct6t5 := tab_cons ok16 <| tab_cons ok31 <| tab_nil
theorem ct6t5_16 (l : List AV) (h : List ABlk) : ct6t5 16 l h = pureC body16 l h := rfl
theorem ct6t5_31 (l : List AV) (h : List ABlk) : ct6t5 31 l h = pureC body31 l h := rfl
noncomputable def ct6t6 : Ct := tab [(30, edC body30), (31, pureC body31)]
theorem ct6t6_ok : CtOk Try.prog ct6t6 := tab_cons ok30 <| tab_cons ok31 <| tab_nil
theorem ct6t6_30 (l : List AV) (h : List ABlk) : ct6t6 30 l h = edC body30 l h := rfl
theorem ct6t6_31 (l : List AV) (h : List ABlk) : ct6t6 31 l h = pureC body31 l h := rfl
noncomputable def F6_L1 (p0 : List Int) (p2 : Int) (v1_1 : List Int) (v1_2 : Int) (v1_3 : List TForward) : Option (Lp ((List Int) × Int × (List TForward)) (((List TForward) × (List Int)) ⊕ (Bool))) :=
  bif (bLt v1_2 8) then (need (inb v1_2 p0.length) <| need (inb v1_2 8) <| need (inb v1_2 v1_1.length) <| (some (v1_1.set v1_2.toNat (wr .i64 ((gd p0 v1_2.toNat).tmod 9)))).bind fun w17 => need (bif (!(bEq v1_2 (wr .i64 (p2.tmod 8)))) then inb v1_2 8 else true) <| need (bif (!(bEq v1_2 (wr .i64 (p2.tmod 8)))) then inb v1_2 w17.length else true) <| need (bif (!((bEq v1_2 (wr .i64 (p2.tmod 8))) || (bEq (gd w17 v1_2.toNat) v1_2))) then inb v1_2 8 else true) <| need (bif (!((bEq v1_2 (wr .i64 (p2.tmod 8))) || (bEq (gd w17 v1_2.toNat) v1_2))) then inb v1_2 w17.length else true) <| bif (((bEq v1_2 (wr .i64 (p2.tmod 8))) || (bEq (gd w17 v1_2.toNat) v1_2)) || (bEq (gd w17 v1_2.toNat) 8)) then (need (inb v1_2 8) <| need (inb v1_2 w17.length) <| some (.next ((w17.set v1_2.toNat (-1)), wr .i64 (v1_2 + 1), v1_3))) else (need (inb v1_2 8) <| need (inb v1_2 v1_3.length) <| (F31 (wr .i64 (p2.tmod 8))).bind fun r27 => need (inb v1_2 8) <| need (inb v1_2 w17.length) <| (F31 (gd w17 v1_2.toNat)).bind fun r31 => (F30 (TForward.mk (A6u8.mk (((gd v1_3 v1_2.toNat).Own).x0) (((gd v1_3 v1_2.toNat).Own).x1) (((gd v1_3 v1_2.toNat).Own).x2) (((gd v1_3 v1_2.toNat).Own).x3) (((gd v1_3 v1_2.toNat).Own).x4) (((gd v1_3 v1_2.toNat).Own).x5)) ((gd v1_3 v1_2.toNat).Seq) ((gd v1_3 v1_2.toNat).Seen) ((gd v1_3 v1_2.toNat).Nexts)) r27 r31).bind fun r33 => bif (!bEq r33.2 0) then (some (.done (.inr false))) else (need (inb v1_2 8) <| need (inb v1_2 v1_3.length) <| some (.next (w17, wr .i64 (v1_2 + 1), (v1_3.set v1_2.toNat r33.1)))))) else (some (.done (.inl (v1_3, v1_1))))
noncomputable def F6_L2 (p2 : Int) (w1_5 : List Int) (r57 : (List Int) × Int × TMeshFrame × Bool) (v2_1 : List Bool) (v2_2 : Int) (v2_3 : Int) : Option (Lp ((List Bool) × Int × Int) ((Int × Int) ⊕ (Bool))) :=
  need (bif ((!bEq v2_2 (wr .i64 (p2.tmod 8))) && (bLe 0 v2_2)) then inb v2_2 8 else true) <| need (bif ((!bEq v2_2 (wr .i64 (p2.tmod 8))) && (bLe 0 v2_2)) then inb v2_2 v2_1.length else true) <| bif (((!bEq v2_2 (wr .i64 (p2.tmod 8))) && (bLe 0 v2_2)) && (!(gd v2_1 v2_2.toNat))) then (need (bif (!(bLe (r57.1.length : Nat) v2_3)) then inb v2_3 r57.1.length else true) <| bif ((bLe (r57.1.length : Nat) v2_3) || (!bEq (gd r57.1 v2_3.toNat) v2_2)) then (some (.done (.inr false))) else (need (inb v2_2 8) <| need (inb v2_2 v2_1.length) <| need (inb v2_2 8) <| need (inb v2_2 w1_5.length) <| some (.next ((v2_1.set v2_2.toNat true), (gd w1_5 v2_2.toNat), wr .i64 (v2_3 + 1))))) else (some (.done (.inl (v2_2, v2_3))))
noncomputable def F6 (p0 : List Int) (p1 : Int) (p2 : Int) (p3 : List Int) : Option (Bool) :=
  (F26).bind fun r1 => bif ((((!bEq (p0.length : Nat) 8) || (bEq (wr .i64 (p1.tmod 8)) (wr .i64 (p2.tmod 8)))) || (bLt 100 (p3.length : Nat))) || (!r1)) then (some r1) else ((F29).bind fun r3 => (some [r3.x0, r3.x1, r3.x2, r3.x3, r3.x4, r3.x5, r3.x6, r3.x7]).bind fun w5 => (some (List.replicate 8 0 : List Int)).bind fun w7 => need (decide (w7.length = 8)) <| (some ([0, 0, 0, 0, 0, 0, 0, 0] : List Int)).bind fun w10 => lp (loopD (fun s => F6_L1 p0 p2 s.1 s.2.1 s.2.2) (w10, 0, w5)) (fun e1 => need (inb (wr .i64 (p1.tmod 8)) 8) <| need (inb (wr .i64 (p1.tmod 8)) e1.1.length) <| (F31 (wr .i64 (p2.tmod 8))).bind fun r39 => (F31 100).bind fun r41 => (F31 101).bind fun r43 => (F32 (TForward.mk (A6u8.mk (((gd e1.1 ((wr .i64 (p1.tmod 8)).toNat)).Own).x0) (((gd e1.1 ((wr .i64 (p1.tmod 8)).toNat)).Own).x1) (((gd e1.1 ((wr .i64 (p1.tmod 8)).toNat)).Own).x2) (((gd e1.1 ((wr .i64 (p1.tmod 8)).toNat)).Own).x3) (((gd e1.1 ((wr .i64 (p1.tmod 8)).toNat)).Own).x4) (((gd e1.1 ((wr .i64 (p1.tmod 8)).toNat)).Own).x5)) ((gd e1.1 ((wr .i64 (p1.tmod 8)).toNat)).Seq) ((gd e1.1 ((wr .i64 (p1.tmod 8)).toNat)).Seen) ((gd e1.1 ((wr .i64 (p1.tmod 8)).toNat)).Nexts)) r39 r41 r43 p3).bind fun r45 => need (inb (wr .i64 (p1.tmod 8)) 8) <| need (inb (wr .i64 (p1.tmod 8)) e1.2.length) <| bif (bLt (gd e1.2 ((wr .i64 (p1.tmod 8)).toNat)) 0) then (some (r1 && (bEq r45.2.2 6))) else (need (inb (wr .i64 (p1.tmod 8)) 8) <| need (inb (wr .i64 (p1.tmod 8)) e1.1.length) <| need (bif (!(!bEq r45.2.2 0)) then inb (wr .i64 (p1.tmod 8)) 8 else true) <| need (bif (!(!bEq r45.2.2 0)) then inb (wr .i64 (p1.tmod 8)) e1.2.length else true) <| need (bif (!(!bEq r45.2.2 0)) then ((F31 (gd e1.2 ((wr .i64 (p1.tmod 8)).toNat))).isSome) else true) <| bif ((!bEq r45.2.2 0) || (!(bEq r45.2.1.To.x0 ((gt (F31 (gd e1.2 ((wr .i64 (p1.tmod 8)).toNat)))).x0) && (bEq r45.2.1.To.x1 ((gt (F31 (gd e1.2 ((wr .i64 (p1.tmod 8)).toNat)))).x1) && (bEq r45.2.1.To.x2 ((gt (F31 (gd e1.2 ((wr .i64 (p1.tmod 8)).toNat)))).x2) && (bEq r45.2.1.To.x3 ((gt (F31 (gd e1.2 ((wr .i64 (p1.tmod 8)).toNat)))).x3) && (bEq r45.2.1.To.x4 ((gt (F31 (gd e1.2 ((wr .i64 (p1.tmod 8)).toNat)))).x4) && (bEq r45.2.1.To.x5 ((gt (F31 (gd e1.2 ((wr .i64 (p1.tmod 8)).toNat)))).x5))))))))) then (some false) else ((some (e1.1.set ((wr .i64 (p1.tmod 8)).toNat) r45.1)).bind fun w54 => need (decide (w54.length = 8)) <| (F33 (A8TForward.mk (TForward.mk (A6u8.mk (((gd w54 0).Own).x0) (((gd w54 0).Own).x1) (((gd w54 0).Own).x2) (((gd w54 0).Own).x3) (((gd w54 0).Own).x4) (((gd w54 0).Own).x5)) ((gd w54 0).Seq) ((gd w54 0).Seen) ((gd w54 0).Nexts)) (TForward.mk (A6u8.mk (((gd w54 1).Own).x0) (((gd w54 1).Own).x1) (((gd w54 1).Own).x2) (((gd w54 1).Own).x3) (((gd w54 1).Own).x4) (((gd w54 1).Own).x5)) ((gd w54 1).Seq) ((gd w54 1).Seen) ((gd w54 1).Nexts)) (TForward.mk (A6u8.mk (((gd w54 2).Own).x0) (((gd w54 2).Own).x1) (((gd w54 2).Own).x2) (((gd w54 2).Own).x3) (((gd w54 2).Own).x4) (((gd w54 2).Own).x5)) ((gd w54 2).Seq) ((gd w54 2).Seen) ((gd w54 2).Nexts)) (TForward.mk (A6u8.mk (((gd w54 3).Own).x0) (((gd w54 3).Own).x1) (((gd w54 3).Own).x2) (((gd w54 3).Own).x3) (((gd w54 3).Own).x4) (((gd w54 3).Own).x5)) ((gd w54 3).Seq) ((gd w54 3).Seen) ((gd w54 3).Nexts)) (TForward.mk (A6u8.mk (((gd w54 4).Own).x0) (((gd w54 4).Own).x1) (((gd w54 4).Own).x2) (((gd w54 4).Own).x3) (((gd w54 4).Own).x4) (((gd w54 4).Own).x5)) ((gd w54 4).Seq) ((gd w54 4).Seen) ((gd w54 4).Nexts)) (TForward.mk (A6u8.mk (((gd w54 5).Own).x0) (((gd w54 5).Own).x1) (((gd w54 5).Own).x2) (((gd w54 5).Own).x3) (((gd w54 5).Own).x4) (((gd w54 5).Own).x5)) ((gd w54 5).Seq) ((gd w54 5).Seen) ((gd w54 5).Nexts)) (TForward.mk (A6u8.mk (((gd w54 6).Own).x0) (((gd w54 6).Own).x1) (((gd w54 6).Own).x2) (((gd w54 6).Own).x3) (((gd w54 6).Own).x4) (((gd w54 6).Own).x5)) ((gd w54 6).Seq) ((gd w54 6).Seen) ((gd w54 6).Nexts)) (TForward.mk (A6u8.mk (((gd w54 7).Own).x0) (((gd w54 7).Own).x1) (((gd w54 7).Own).x2) (((gd w54 7).Own).x3) (((gd w54 7).Own).x4) (((gd w54 7).Own).x5)) ((gd w54 7).Seq) ((gd w54 7).Seen) ((gd w54 7).Nexts))) r45.2.1).bind fun r57 => bif (!r57.2.2.2) then (some false) else ((some (List.replicate 8 false : List Bool)).bind fun w59 => need (inb (wr .i64 (p1.tmod 8)) 8) <| need (inb (wr .i64 (p1.tmod 8)) w59.length) <| need (inb (wr .i64 (p1.tmod 8)) 8) <| need (inb (wr .i64 (p1.tmod 8)) e1.2.length) <| lp (loopD (fun s => F6_L2 p2 e1.2 r57 s.1 s.2.1 s.2.2) ((w59.set ((wr .i64 (p1.tmod 8)).toNat) true), (gd e1.2 ((wr .i64 (p1.tmod 8)).toNat)), 0)) (fun e2 => bif (bEq e2.1 (wr .i64 (p2.tmod 8))) then (need (bif ((bEq r57.2.1 1) && (bEq (r57.1.length : Nat) (wr .i64 (e2.2 + 1)))) then inb e2.2 r57.1.length else true) <| need (bif (r1 && ((((bEq r57.2.1 1) && (bEq (r57.1.length : Nat) (wr .i64 (e2.2 + 1)))) && (bEq (gd r57.1 e2.2.toNat) (wr .i64 (p2.tmod 8)))) && (bEq r57.2.2.1.Ttl (wr .i64 (31 - e2.2))))) then ((F31 (wr .i64 (p1.tmod 8))).isSome) else true) <| need (bif ((r1 && ((((bEq r57.2.1 1) && (bEq (r57.1.length : Nat) (wr .i64 (e2.2 + 1)))) && (bEq (gd r57.1 e2.2.toNat) (wr .i64 (p2.tmod 8)))) && (bEq r57.2.2.1.Ttl (wr .i64 (31 - e2.2))))) && (bEq r57.2.2.1.Enter.x0 ((gt (F31 (wr .i64 (p1.tmod 8)))).x0) && (bEq r57.2.2.1.Enter.x1 ((gt (F31 (wr .i64 (p1.tmod 8)))).x1) && (bEq r57.2.2.1.Enter.x2 ((gt (F31 (wr .i64 (p1.tmod 8)))).x2) && (bEq r57.2.2.1.Enter.x3 ((gt (F31 (wr .i64 (p1.tmod 8)))).x3) && (bEq r57.2.2.1.Enter.x4 ((gt (F31 (wr .i64 (p1.tmod 8)))).x4) && (bEq r57.2.2.1.Enter.x5 ((gt (F31 (wr .i64 (p1.tmod 8)))).x5)))))))) then ((F31 (wr .i64 (p2.tmod 8))).isSome) else true) <| need (bif (((r1 && ((((bEq r57.2.1 1) && (bEq (r57.1.length : Nat) (wr .i64 (e2.2 + 1)))) && (bEq (gd r57.1 e2.2.toNat) (wr .i64 (p2.tmod 8)))) && (bEq r57.2.2.1.Ttl (wr .i64 (31 - e2.2))))) && (bEq r57.2.2.1.Enter.x0 ((gt (F31 (wr .i64 (p1.tmod 8)))).x0) && (bEq r57.2.2.1.Enter.x1 ((gt (F31 (wr .i64 (p1.tmod 8)))).x1) && (bEq r57.2.2.1.Enter.x2 ((gt (F31 (wr .i64 (p1.tmod 8)))).x2) && (bEq r57.2.2.1.Enter.x3 ((gt (F31 (wr .i64 (p1.tmod 8)))).x3) && (bEq r57.2.2.1.Enter.x4 ((gt (F31 (wr .i64 (p1.tmod 8)))).x4) && (bEq r57.2.2.1.Enter.x5 ((gt (F31 (wr .i64 (p1.tmod 8)))).x5)))))))) && (bEq r57.2.2.1.Leave.x0 ((gt (F31 (wr .i64 (p2.tmod 8)))).x0) && (bEq r57.2.2.1.Leave.x1 ((gt (F31 (wr .i64 (p2.tmod 8)))).x1) && (bEq r57.2.2.1.Leave.x2 ((gt (F31 (wr .i64 (p2.tmod 8)))).x2) && (bEq r57.2.2.1.Leave.x3 ((gt (F31 (wr .i64 (p2.tmod 8)))).x3) && (bEq r57.2.2.1.Leave.x4 ((gt (F31 (wr .i64 (p2.tmod 8)))).x4) && (bEq r57.2.2.1.Leave.x5 ((gt (F31 (wr .i64 (p2.tmod 8)))).x5)))))))) then ((F31 100).isSome) else true) <| need (bif ((((r1 && ((((bEq r57.2.1 1) && (bEq (r57.1.length : Nat) (wr .i64 (e2.2 + 1)))) && (bEq (gd r57.1 e2.2.toNat) (wr .i64 (p2.tmod 8)))) && (bEq r57.2.2.1.Ttl (wr .i64 (31 - e2.2))))) && (bEq r57.2.2.1.Enter.x0 ((gt (F31 (wr .i64 (p1.tmod 8)))).x0) && (bEq r57.2.2.1.Enter.x1 ((gt (F31 (wr .i64 (p1.tmod 8)))).x1) && (bEq r57.2.2.1.Enter.x2 ((gt (F31 (wr .i64 (p1.tmod 8)))).x2) && (bEq r57.2.2.1.Enter.x3 ((gt (F31 (wr .i64 (p1.tmod 8)))).x3) && (bEq r57.2.2.1.Enter.x4 ((gt (F31 (wr .i64 (p1.tmod 8)))).x4) && (bEq r57.2.2.1.Enter.x5 ((gt (F31 (wr .i64 (p1.tmod 8)))).x5)))))))) && (bEq r57.2.2.1.Leave.x0 ((gt (F31 (wr .i64 (p2.tmod 8)))).x0) && (bEq r57.2.2.1.Leave.x1 ((gt (F31 (wr .i64 (p2.tmod 8)))).x1) && (bEq r57.2.2.1.Leave.x2 ((gt (F31 (wr .i64 (p2.tmod 8)))).x2) && (bEq r57.2.2.1.Leave.x3 ((gt (F31 (wr .i64 (p2.tmod 8)))).x3) && (bEq r57.2.2.1.Leave.x4 ((gt (F31 (wr .i64 (p2.tmod 8)))).x4) && (bEq r57.2.2.1.Leave.x5 ((gt (F31 (wr .i64 (p2.tmod 8)))).x5)))))))) && (bEq r57.2.2.1.Source.x0 ((gt (F31 100)).x0) && (bEq r57.2.2.1.Source.x1 ((gt (F31 100)).x1) && (bEq r57.2.2.1.Source.x2 ((gt (F31 100)).x2) && (bEq r57.2.2.1.Source.x3 ((gt (F31 100)).x3) && (bEq r57.2.2.1.Source.x4 ((gt (F31 100)).x4) && (bEq r57.2.2.1.Source.x5 ((gt (F31 100)).x5)))))))) then ((F31 101).isSome) else true) <| need (bif (((((r1 && ((((bEq r57.2.1 1) && (bEq (r57.1.length : Nat) (wr .i64 (e2.2 + 1)))) && (bEq (gd r57.1 e2.2.toNat) (wr .i64 (p2.tmod 8)))) && (bEq r57.2.2.1.Ttl (wr .i64 (31 - e2.2))))) && (bEq r57.2.2.1.Enter.x0 ((gt (F31 (wr .i64 (p1.tmod 8)))).x0) && (bEq r57.2.2.1.Enter.x1 ((gt (F31 (wr .i64 (p1.tmod 8)))).x1) && (bEq r57.2.2.1.Enter.x2 ((gt (F31 (wr .i64 (p1.tmod 8)))).x2) && (bEq r57.2.2.1.Enter.x3 ((gt (F31 (wr .i64 (p1.tmod 8)))).x3) && (bEq r57.2.2.1.Enter.x4 ((gt (F31 (wr .i64 (p1.tmod 8)))).x4) && (bEq r57.2.2.1.Enter.x5 ((gt (F31 (wr .i64 (p1.tmod 8)))).x5)))))))) && (bEq r57.2.2.1.Leave.x0 ((gt (F31 (wr .i64 (p2.tmod 8)))).x0) && (bEq r57.2.2.1.Leave.x1 ((gt (F31 (wr .i64 (p2.tmod 8)))).x1) && (bEq r57.2.2.1.Leave.x2 ((gt (F31 (wr .i64 (p2.tmod 8)))).x2) && (bEq r57.2.2.1.Leave.x3 ((gt (F31 (wr .i64 (p2.tmod 8)))).x3) && (bEq r57.2.2.1.Leave.x4 ((gt (F31 (wr .i64 (p2.tmod 8)))).x4) && (bEq r57.2.2.1.Leave.x5 ((gt (F31 (wr .i64 (p2.tmod 8)))).x5)))))))) && (bEq r57.2.2.1.Source.x0 ((gt (F31 100)).x0) && (bEq r57.2.2.1.Source.x1 ((gt (F31 100)).x1) && (bEq r57.2.2.1.Source.x2 ((gt (F31 100)).x2) && (bEq r57.2.2.1.Source.x3 ((gt (F31 100)).x3) && (bEq r57.2.2.1.Source.x4 ((gt (F31 100)).x4) && (bEq r57.2.2.1.Source.x5 ((gt (F31 100)).x5)))))))) && (bEq r57.2.2.1.Target.x0 ((gt (F31 101)).x0) && (bEq r57.2.2.1.Target.x1 ((gt (F31 101)).x1) && (bEq r57.2.2.1.Target.x2 ((gt (F31 101)).x2) && (bEq r57.2.2.1.Target.x3 ((gt (F31 101)).x3) && (bEq r57.2.2.1.Target.x4 ((gt (F31 101)).x4) && (bEq r57.2.2.1.Target.x5 ((gt (F31 101)).x5)))))))) then ((F16 r57.2.2.1.Data p3).isSome) else true) <| some ((((((r1 && ((((bEq r57.2.1 1) && (bEq (r57.1.length : Nat) (wr .i64 (e2.2 + 1)))) && (bEq (gd r57.1 e2.2.toNat) (wr .i64 (p2.tmod 8)))) && (bEq r57.2.2.1.Ttl (wr .i64 (31 - e2.2))))) && (bEq r57.2.2.1.Enter.x0 ((gt (F31 (wr .i64 (p1.tmod 8)))).x0) && (bEq r57.2.2.1.Enter.x1 ((gt (F31 (wr .i64 (p1.tmod 8)))).x1) && (bEq r57.2.2.1.Enter.x2 ((gt (F31 (wr .i64 (p1.tmod 8)))).x2) && (bEq r57.2.2.1.Enter.x3 ((gt (F31 (wr .i64 (p1.tmod 8)))).x3) && (bEq r57.2.2.1.Enter.x4 ((gt (F31 (wr .i64 (p1.tmod 8)))).x4) && (bEq r57.2.2.1.Enter.x5 ((gt (F31 (wr .i64 (p1.tmod 8)))).x5)))))))) && (bEq r57.2.2.1.Leave.x0 ((gt (F31 (wr .i64 (p2.tmod 8)))).x0) && (bEq r57.2.2.1.Leave.x1 ((gt (F31 (wr .i64 (p2.tmod 8)))).x1) && (bEq r57.2.2.1.Leave.x2 ((gt (F31 (wr .i64 (p2.tmod 8)))).x2) && (bEq r57.2.2.1.Leave.x3 ((gt (F31 (wr .i64 (p2.tmod 8)))).x3) && (bEq r57.2.2.1.Leave.x4 ((gt (F31 (wr .i64 (p2.tmod 8)))).x4) && (bEq r57.2.2.1.Leave.x5 ((gt (F31 (wr .i64 (p2.tmod 8)))).x5)))))))) && (bEq r57.2.2.1.Source.x0 ((gt (F31 100)).x0) && (bEq r57.2.2.1.Source.x1 ((gt (F31 100)).x1) && (bEq r57.2.2.1.Source.x2 ((gt (F31 100)).x2) && (bEq r57.2.2.1.Source.x3 ((gt (F31 100)).x3) && (bEq r57.2.2.1.Source.x4 ((gt (F31 100)).x4) && (bEq r57.2.2.1.Source.x5 ((gt (F31 100)).x5)))))))) && (bEq r57.2.2.1.Target.x0 ((gt (F31 101)).x0) && (bEq r57.2.2.1.Target.x1 ((gt (F31 101)).x1) && (bEq r57.2.2.1.Target.x2 ((gt (F31 101)).x2) && (bEq r57.2.2.1.Target.x3 ((gt (F31 101)).x3) && (bEq r57.2.2.1.Target.x4 ((gt (F31 101)).x4) && (bEq r57.2.2.1.Target.x5 ((gt (F31 101)).x5)))))))) && (gt (F16 r57.2.2.1.Data p3)))) else (bif (bLt e2.1 0) then (some ((r1 && (bEq r57.2.1 4)) && (bEq (r57.1.length : Nat) e2.2))) else (need (bif ((r1 && (bEq r57.2.1 0)) && (bEq (r57.1.length : Nat) (wr .i64 (e2.2 + 1)))) then inb e2.2 r57.1.length else true) <| some (((r1 && (bEq r57.2.1 0)) && (bEq (r57.1.length : Nat) (wr .i64 (e2.2 + 1)))) && (bEq (gd r57.1 e2.2.toNat) e2.1))))) some)))) some)
noncomputable def body6 : List AV -> AR
  | [v0, v1, v2, v3] => .pure (lK k_u8 1 v0 /\ iK .u8 v1 /\ iK .u8 v2 /\ lK k_u8 1 v3 /\ (F6 (lA g_u8 v0) (iA v1) (iA v2) (lA g_u8 v3)).isSome = true) (.bool (gt (F6 (lA g_u8 v0) (iA v1) (iA v2) (lA g_u8 v3))))
  | _ => .fail
set_option maxHeartbeats 4000000 in
set_option maxRecDepth 20000 in
theorem ok6 : FnOk Try.prog 6 (pureC body6) := by
  refine pure_fnM body6 (rs := [.tmp 8]) Try.func6 (by kernel_rfl) rfl rfl ?_
  intro l ob v hb hob
  unfold body6 at hb
  split at hb
  · rename_i v0 v1 v2 v3
    injection hb with q1 q2; subst q1 q2
    obtain ⟨hk0_0, hk1_0, hk2_0, hk3_0, hob⟩ := hob
    obtain ⟨r, H⟩ := Option.isSome_iff_exists.1 hob
    rw [H, gt_some]
    have hw0 := lK_wk (fun r h => w_u8 h) hk0_0
    have hw1 := iK_wk hk1_0
    have hw2 := iK_wk hk2_0
    have hw3 := lK_wk (fun r h => w_u8 h) hk3_0
    generalize lA g_u8 v0 = p0 at H hw0
    generalize iA v1 = p1 at H hw1
    generalize iA v2 = p2 at H hw2
    generalize lA g_u8 v3 = p3 at H hw3
    refine ⟨[.ro 1 p0.length false (enR c_u8 p0), .int .u8 p1, .int .u8 p2, .ro 1 p3.length false (enR c_u8 p3)], _, (fun E vs F => FR_wk1 hw0.1 F (fun vs F => FR_wk1 hw1.1 F (fun vs F => FR_wk1 hw2.1 F (fun vs F => FR_wk1 hw3.1 F (fun vs F => F))))), rfl, rfl, ?_⟩
    rw [Try.ntmps6]
    simp only [List.length_cons, List.length_nil, Nat.reduceAdd, Nat.reduceSub, List.replicate_succ, List.replicate_zero, List.cons_append, List.nil_append]
    unfold F6 at H
    try dsimp only at H
    refine sq ctNo_ok ?_
    simp only [go_sem, Nat.reduceLeDiff, Nat.reduceLT, Nat.reduceAdd, Nat.reduceMul, Nat.reduceSub, Nat.reduceEqDiff, Nat.reduceBEq, Int.reduceToNat, reduceCtorEq]
    refine seqM ?_
    obtain ⟨r1, e2, H⟩ := bsi H
    refine rg ct6t0_ok ?_
    simp only [go_sem, Nat.reduceLeDiff, Nat.reduceLT, Nat.reduceAdd, Nat.reduceMul, Nat.reduceSub, Nat.reduceEqDiff, Nat.reduceBEq, Int.reduceToNat, reduceCtorEq, ct6t0_26, body26, e2]
    repeat ((with_reducible refine And.intro ?_ ?_); focus exact an0)
    refine sq ctNo_ok ?_
    simp only [go_sem, Nat.reduceLeDiff, Nat.reduceLT, Nat.reduceAdd, Nat.reduceMul, Nat.reduceSub, Nat.reduceEqDiff, Nat.reduceBEq, Int.reduceToNat, reduceCtorEq]
    repeat ((with_reducible refine And.intro ?_ ?_); focus exact an2)
    refine seqM ?_
    refine sq ctNo_ok ?_
    simp only [go_sem, Nat.reduceLeDiff, Nat.reduceLT, Nat.reduceAdd, Nat.reduceMul, Nat.reduceSub, Nat.reduceEqDiff, Nat.reduceBEq, Int.reduceToNat, reduceCtorEq]
    repeat ((with_reducible refine And.intro ?_ ?_); focus exact an5)
    refine condM rfl trivial (fun hc => ?_) (fun hc => ?_)
    · replace H := cond_t hc H
      refine sq ctNo_ok ?_
      simp only [go_sem, Nat.reduceLeDiff, Nat.reduceLT, Nat.reduceAdd, Nat.reduceMul, Nat.reduceSub, Nat.reduceEqDiff, Nat.reduceBEq, Int.reduceToNat, reduceCtorEq]
      refine rg ctNo_ok ?_
      simp only [go_sem, Nat.reduceLeDiff, Nat.reduceLT, Nat.reduceAdd, Nat.reduceMul, Nat.reduceSub, Nat.reduceEqDiff, Nat.reduceBEq, Int.reduceToNat, reduceCtorEq]
      obtain rfl := Option.some.inj H
      first | rfl | simp only [Bool.and_false, Bool.false_and, Bool.and_true, Bool.true_and]
    replace H := cond_f hc H
    refine rg ctNo_ok ?_
    simp only [go_sem, Nat.reduceLeDiff, Nat.reduceLT, Nat.reduceAdd, Nat.reduceMul, Nat.reduceSub, Nat.reduceEqDiff, Nat.reduceBEq, Int.reduceToNat, reduceCtorEq]
    refine seqM ?_
    refine regO ?_
    obtain ⟨r3, e4, H⟩ := bsi H
    refine cutO shT_ok ct6t1_ok 1 ?_
    simp only [kO_normal, List.take_succ_cons, List.take_zero, List.drop_succ_cons, List.drop_zero, go_sem, Nat.reduceLeDiff, Nat.reduceLT, Nat.reduceAdd, Nat.reduceMul, Nat.reduceSub, Nat.reduceEqDiff, Nat.reduceBEq, Int.reduceToNat, reduceCtorEq, ct6t1_29, body29, e4]
    repeat ((with_reducible refine And.intro ?_ ?_); focus exact an0)
    refine allocO shT_ok ctNo_ok (len := 8) (z := 9) (l := (.int .u8 0 :: .int .u8 0 :: .int .u8 0 :: .int .u8 0 :: .int .u8 0 :: .int .u8 0 :: .int .i64 0 :: .ro 0 0 true (fun _ _ => .top) :: .ro 0 0 true (fun _ _ => .top) :: .int .u8 0 :: .int .u8 0 :: .int .u8 0 :: .int .u8 0 :: .int .u8 0 :: .int .u8 0 :: .int .i64 0 :: .ro 0 0 true (fun _ _ => .top) :: .ro 0 0 true (fun _ _ => .top) :: .int .u8 0 :: .int .u8 0 :: .int .u8 0 :: .int .u8 0 :: .int .u8 0 :: .int .u8 0 :: .int .i64 0 :: .ro 0 0 true (fun _ _ => .top) :: .ro 0 0 true (fun _ _ => .top) :: .int .u8 0 :: .int .u8 0 :: .int .u8 0 :: .int .u8 0 :: .int .u8 0 :: .int .u8 0 :: .int .i64 0 :: .ro 0 0 true (fun _ _ => .top) :: .ro 0 0 true (fun _ _ => .top) :: .int .u8 0 :: .int .u8 0 :: .int .u8 0 :: .int .u8 0 :: .int .u8 0 :: .int .u8 0 :: .int .i64 0 :: .ro 0 0 true (fun _ _ => .top) :: .ro 0 0 true (fun _ _ => .top) :: .int .u8 0 :: .int .u8 0 :: .int .u8 0 :: .int .u8 0 :: .int .u8 0 :: .int .u8 0 :: .int .i64 0 :: .ro 0 0 true (fun _ _ => .top) :: .ro 0 0 true (fun _ _ => .top) :: .int .u8 0 :: .int .u8 0 :: .int .u8 0 :: .int .u8 0 :: .int .u8 0 :: .int .u8 0 :: .int .i64 0 :: .ro 0 0 true (fun _ _ => .top) :: .ro 0 0 true (fun _ _ => .top) :: .int .u8 0 :: .int .u8 0 :: .int .u8 0 :: .int .u8 0 :: .int .u8 0 :: .int .u8 0 :: .int .i64 0 :: .ro 0 0 true (fun _ _ => .top) :: .ro 0 0 true (fun _ _ => .top) :: [])) (c := litC 9 (.int .u8 0 :: .int .u8 0 :: .int .u8 0 :: .int .u8 0 :: .int .u8 0 :: .int .u8 0 :: .int .i64 0 :: .ro 0 0 true (fun _ _ => .top) :: .ro 0 0 true (fun _ _ => .top) :: .int .u8 0 :: .int .u8 0 :: .int .u8 0 :: .int .u8 0 :: .int .u8 0 :: .int .u8 0 :: .int .i64 0 :: .ro 0 0 true (fun _ _ => .top) :: .ro 0 0 true (fun _ _ => .top) :: .int .u8 0 :: .int .u8 0 :: .int .u8 0 :: .int .u8 0 :: .int .u8 0 :: .int .u8 0 :: .int .i64 0 :: .ro 0 0 true (fun _ _ => .top) :: .ro 0 0 true (fun _ _ => .top) :: .int .u8 0 :: .int .u8 0 :: .int .u8 0 :: .int .u8 0 :: .int .u8 0 :: .int .u8 0 :: .int .i64 0 :: .ro 0 0 true (fun _ _ => .top) :: .ro 0 0 true (fun _ _ => .top) :: .int .u8 0 :: .int .u8 0 :: .int .u8 0 :: .int .u8 0 :: .int .u8 0 :: .int .u8 0 :: .int .i64 0 :: .ro 0 0 true (fun _ _ => .top) :: .ro 0 0 true (fun _ _ => .top) :: .int .u8 0 :: .int .u8 0 :: .int .u8 0 :: .int .u8 0 :: .int .u8 0 :: .int .u8 0 :: .int .i64 0 :: .ro 0 0 true (fun _ _ => .top) :: .ro 0 0 true (fun _ _ => .top) :: .int .u8 0 :: .int .u8 0 :: .int .u8 0 :: .int .u8 0 :: .int .u8 0 :: .int .u8 0 :: .int .i64 0 :: .ro 0 0 true (fun _ _ => .top) :: .ro 0 0 true (fun _ _ => .top) :: .int .u8 0 :: .int .u8 0 :: .int .u8 0 :: .int .u8 0 :: .int .u8 0 :: .int .u8 0 :: .int .i64 0 :: .ro 0 0 true (fun _ _ => .top) :: .ro 0 0 true (fun _ _ => .top) :: [])) rfl rfl rfl (by kernel_rfl) rfl (fun _ _ _ _ => rfl) ?_
    simp only [go_sem, Nat.reduceLeDiff, Nat.reduceLT, Nat.reduceAdd, Nat.reduceMul, Nat.reduceSub, Nat.reduceEqDiff, Nat.reduceBEq, Int.reduceToNat, reduceCtorEq]
    refine cutO shT_ok ctNo_ok 0 ?_
    simp only [kO_normal, List.take_succ_cons, List.take_zero, List.drop_succ_cons, List.drop_zero, go_sem, Nat.reduceLeDiff, Nat.reduceLT, Nat.reduceAdd, Nat.reduceMul, Nat.reduceSub, Nat.reduceEqDiff, Nat.reduceBEq, Int.reduceToNat, reduceCtorEq]
    repeat ((with_reducible refine And.intro ?_ ?_); focus exact an3)
    refine storeArrO shT_ok ctNo_ok (b := 0) (z := 9) (n := 8) rfl rfl rfl rfl rfl (by first | exact ⟨trivial, trivial⟩ | (simp only [go_sem, Nat.reduceLeDiff, Nat.reduceLT, Nat.reduceAdd, Nat.reduceMul, Nat.reduceSub, Nat.reduceEqDiff, Nat.reduceBEq, Int.reduceToNat, reduceCtorEq]; done) | simp [og]) rfl rfl (by kernel_rfl) rfl (by decide) ?_
    simp only [go_sem, Nat.reduceLeDiff, Nat.reduceLT, Nat.reduceAdd, Nat.reduceMul, Nat.reduceSub, Nat.reduceEqDiff, Nat.reduceBEq, Int.reduceToNat, reduceCtorEq]
    refine cutO shT_ok ctNo_ok 0 ?_
    simp only [kO_normal, List.take_succ_cons, List.take_zero, List.drop_succ_cons, List.drop_zero, go_sem, Nat.reduceLeDiff, Nat.reduceLT, Nat.reduceAdd, Nat.reduceMul, Nat.reduceSub, Nat.reduceEqDiff, Nat.reduceBEq, Int.reduceToNat, reduceCtorEq]
    repeat ((with_reducible refine And.intro ?_ ?_); focus exact an3)
    refine endO ?_
    refine seqM ?_
    obtain ⟨w5, hw6, H⟩ := bsi H
    replace hw6 := Option.some.inj hw6
    have lhw6 : w5.length = 8 := by rw [← hw6]; exact (by first | rfl | simp)
    refine subF_mean (t2 := (.ro 1 p0.length false (enR c_u8 p0) :: .top :: .top :: .ro 1 p3.length false (enR c_u8 p3) :: tp 5 (.bool r1 :: .int .i64 (wr .i64 (p1.tmod 8)) :: .int .i64 (wr .i64 (p2.tmod 8)) :: .ptr 0 9 0 0 :: tp 271 []))) (h2 := [.row 62 9 w5.length (enR c_TForward w5)]) ?_ ?_
    · refine SubF_of ⟨[some 0], ?_, ?_, by rfl, by rfl⟩
      · simp [CvL, Cv, getM, tp, lhw6]
      · exact ⟨CvB_row nr_TForward lhw6 (hw6 ▸ (lit_row (f := c_TForward) [r3.x0, r3.x1, r3.x2, r3.x3, r3.x4, r3.x5, r3.x6, r3.x7] (fun _ _ => rfl) rfl)), trivial⟩
    simp only [tp]
    refine regO ?_
    refine cutO shT_ok ctNo_ok 1 ?_
    simp only [kO_normal, List.take_succ_cons, List.take_zero, List.drop_succ_cons, List.drop_zero, go_sem, Nat.reduceLeDiff, Nat.reduceLT, Nat.reduceAdd, Nat.reduceMul, Nat.reduceSub, Nat.reduceEqDiff, Nat.reduceBEq, Int.reduceToNat, reduceCtorEq]
    repeat ((with_reducible refine And.intro ?_ ?_); focus exact an2)
    obtain ⟨w7, hw8, H⟩ := bsi H
    replace hw8 := Option.some.inj hw8
    have lhw8 : w7.length = 8 := by rw [← hw8]; exact List.length_replicate
    refine allocO shT_ok ctNo_ok (len := w7.length) (z := 1) (l := (List.replicate 8 (c_i64 0)).flatten) (c := enR c_i64 w7) rfl rfl rfl (by kernel_rfl) (by rw [lhw8]; exact flat_len) (fun x y hx hy => by subst hw8; exact arr_rep rfl x y (by simpa using hx) hy) ?_
    simp only [go_sem, Nat.reduceLeDiff, Nat.reduceLT, Nat.reduceAdd, Nat.reduceMul, Nat.reduceSub, Nat.reduceEqDiff, Nat.reduceBEq, Int.reduceToNat, reduceCtorEq]
    refine cutO shT_ok ctNo_ok 0 ?_
    simp only [kO_normal, List.take_succ_cons, List.take_zero, List.drop_succ_cons, List.drop_zero, go_sem, Nat.reduceLeDiff, Nat.reduceLT, Nat.reduceAdd, Nat.reduceMul, Nat.reduceSub, Nat.reduceEqDiff, Nat.reduceBEq, Int.reduceToNat, reduceCtorEq]
    repeat ((with_reducible refine And.intro ?_ ?_); focus exact an2)
    obtain ⟨f9, H⟩ := need_some.1 H
    replace f9 := decide_eq_true_iff.1 f9
    refine storeArrO shT_ok ctNo_ok (b := 1) (z := 1) (n := 8) rfl rfl rfl rfl rfl (by first | exact ⟨trivial, trivial⟩ | (simp only [go_sem, Nat.reduceLeDiff, Nat.reduceLT, Nat.reduceAdd, Nat.reduceMul, Nat.reduceSub, Nat.reduceEqDiff, Nat.reduceBEq, Int.reduceToNat, reduceCtorEq]; done) | simp [og]) rfl f9 (by kernel_rfl) rfl (by decide) ?_
    simp only [go_sem, Nat.reduceLeDiff, Nat.reduceLT, Nat.reduceAdd, Nat.reduceMul, Nat.reduceSub, Nat.reduceEqDiff, Nat.reduceBEq, Int.reduceToNat, reduceCtorEq]
    refine cutO shT_ok ctNo_ok 0 ?_
    simp only [kO_normal, List.take_succ_cons, List.take_zero, List.drop_succ_cons, List.drop_zero, go_sem, Nat.reduceLeDiff, Nat.reduceLT, Nat.reduceAdd, Nat.reduceMul, Nat.reduceSub, Nat.reduceEqDiff, Nat.reduceBEq, Int.reduceToNat, reduceCtorEq]
    repeat ((with_reducible refine And.intro ?_ ?_); focus exact an2)
    refine endO ?_
    refine seqM ?_
    refine seqM ?_
    obtain ⟨w10, hw11, H⟩ := bsi H
    replace hw11 := Option.some.inj hw11
    have lhw11 : w10.length = 8 := by rw [← hw11]; exact (by first | rfl | simp)
    refine subF_mean (t2 := (.ro 1 p0.length false (enR c_u8 p0) :: .top :: .top :: .ro 1 p3.length false (enR c_u8 p3) :: tp 5 (.bool r1 :: .int .i64 (wr .i64 (p1.tmod 8)) :: .int .i64 (wr .i64 (p2.tmod 8)) :: .ptr 0 9 0 0 :: .ptr 1 1 0 0 :: tp 270 []))) (h2 := [.row 62 9 w5.length (enR c_TForward w5), .row 64 1 w10.length (enR c_i64 w10)]) ?_ ?_
    · refine SubF_of ⟨[some 0, some 1], ?_, ?_, by rfl, by rfl⟩
      · simp [CvL, Cv, getM, tp, lhw11]
      · exact ⟨CvB_row nr_TForward rfl (fun _ _ _ _ => rfl), CvB_row nr_i64 lhw11 (hw11 ▸ (lit_row (f := c_i64) [0, 0, 0, 0, 0, 0, 0, 0] (fun _ _ => rfl) rfl)), trivial⟩
    simp only [tp]
    refine rg ctNo_ok ?_
    simp only [go_sem, Nat.reduceLeDiff, Nat.reduceLT, Nat.reduceAdd, Nat.reduceMul, Nat.reduceSub, Nat.reduceEqDiff, Nat.reduceBEq, Int.reduceToNat, reduceCtorEq]
    refine blkM ?_
    refine loop_den (fun s : (List Int) × Int × (List TForward) => (.ro 1 p0.length false (enR c_u8 p0) :: .top :: .top :: .ro 1 p3.length false (enR c_u8 p3) :: tp 5 (.bool r1 :: .int .i64 (wr .i64 (p1.tmod 8)) :: .int .i64 (wr .i64 (p2.tmod 8)) :: .ptr 3 9 0 0 :: .ptr 2 1 0 0 :: .int .i64 s.2.1 :: tp 269 []))) (fun s => [.dead, .dead, .row 64 1 s.1.length (enR c_i64 s.1), .row 62 9 s.2.2.length (enR c_TForward s.2.2)]) (fun e : (List TForward) × (List Int) => (.top :: .top :: .top :: .ro 1 p3.length false (enR c_u8 p3) :: tp 5 (.bool r1 :: .int .i64 (wr .i64 (p1.tmod 8)) :: .int .i64 (wr .i64 (p2.tmod 8)) :: .ptr 2 9 0 0 :: .ptr 3 1 0 0 :: tp 270 []))) (fun e => [.dead, .dead, .row 62 9 e.1.length (enR c_TForward e.1), .row 64 1 e.2.length (enR c_i64 e.2)]) H ?_ (fun s o H hn1_1 hn2_1 => ?_) (fun e H => ?_)
    · refine SubF_of ⟨[some 0, some 1, some 1, some 0], ?_, ?_, by rfl, by rfl⟩
      · simp [CvL, Cv, getM, tp]
      · exact ⟨CvB_dead, CvB_dead, CvB_row nr_i64 cl (fun _ _ _ _ => rfl), CvB_row nr_TForward cl (fun _ _ _ _ => rfl), trivial⟩
    · obtain ⟨v1_1, v1_2, v1_3⟩ := s
      unfold F6_L1 at H
      try dsimp only at H ⊢
      try simp only [tp]
      refine seqM ?_
      refine sq ctNo_ok ?_
      simp only [go_sem, Nat.reduceLeDiff, Nat.reduceLT, Nat.reduceAdd, Nat.reduceMul, Nat.reduceSub, Nat.reduceEqDiff, Nat.reduceBEq, Int.reduceToNat, reduceCtorEq]
      refine condM' rfl trivial (fun hc => ?_) (fun hc => ?_)
      · replace H := cond_f hc H
        refine rg ctNo_ok ?_
        simp only [go_sem, Nat.reduceLeDiff, Nat.reduceLT, Nat.reduceAdd, Nat.reduceMul, Nat.reduceSub, Nat.reduceEqDiff, Nat.reduceBEq, Int.reduceToNat, reduceCtorEq]
        refine ⟨_, (Option.some.inj H).symm, ?_⟩
        refine SubF_of ⟨[some 0, some 1, some 3, some 2], ?_, ?_, by rfl, by rfl⟩
        · simp [CvL, Cv, getM, tp]
        · exact ⟨CvB_dead, CvB_dead, CvB_row nr_TForward cl (fun _ _ _ _ => rfl), CvB_row nr_i64 cl (fun _ _ _ _ => rfl), trivial⟩
      replace H := cond_t hc H
      refine rg ctNo_ok ?_
      simp only [go_sem, Nat.reduceLeDiff, Nat.reduceLT, Nat.reduceAdd, Nat.reduceMul, Nat.reduceSub, Nat.reduceEqDiff, Nat.reduceBEq, Int.reduceToNat, reduceCtorEq]
      refine seqM ?_
      refine blkM ?_
      refine seqM ?_
      obtain ⟨f12, H⟩ := need_some.1 H
      replace f12 := inb_iff.1 f12
      obtain ⟨f13, H⟩ := need_some.1 H
      replace f13 := inb_iff.1 f13
      obtain ⟨f14, H⟩ := need_some.1 H
      replace f14 := inb_iff.1 f14
      refine rg ctNo_ok ?_
      simp only [go_sem, Nat.reduceLeDiff, Nat.reduceLT, Nat.reduceAdd, Nat.reduceMul, Nat.reduceSub, Nat.reduceEqDiff, Nat.reduceBEq, Int.reduceToNat, reduceCtorEq, f12, f13, f14]
      repeat ((with_reducible refine And.intro ?_ ?_); focus exact an2)
      refine seqM ?_
      refine seqM ?_
      obtain ⟨w17, hw18, H⟩ := bsi H
      replace hw18 := Option.some.inj hw18
      have lhw18 : w17.length = v1_1.length := by rw [← hw18]; exact cl
      refine subF_mean (t2 := (.ro 1 p0.length false (enR c_u8 p0) :: .top :: .top :: .ro 1 p3.length false (enR c_u8 p3) :: tp 5 (.bool r1 :: .int .i64 (wr .i64 (p1.tmod 8)) :: .int .i64 (wr .i64 (p2.tmod 8)) :: .ptr 3 9 0 0 :: .ptr 2 1 0 0 :: .int .i64 v1_2 :: tp 269 []))) (h2 := [.dead, .dead, .row 64 1 w17.length (enR c_i64 w17), .row 62 9 v1_3.length (enR c_TForward v1_3)]) ?_ ?_
      · refine SubF_of ⟨[some 0, some 1, some 2, some 3], ?_, ?_, by rfl, by rfl⟩
        · simp [CvL, Cv, getM, tp, lhw18]
        · exact ⟨CvB_dead, CvB_dead, CvB_row nr_i64 lhw18 (hw18 ▸ (upc_row (f := c_i64) v1_1 v1_2.toNat 0 (wr .i64 ((gd p0 v1_2.toNat).tmod 9)) (fun _ _ _ _ => rfl) (fun y hy => match y, hy with | 0, _ => rfl | (y+1), h => absurd h nlt))), CvB_row nr_TForward rfl (fun _ _ _ _ => rfl), trivial⟩
      simp only [tp]
      obtain ⟨f19, H⟩ := need_some.1 H
      replace f19 := g_iff.1 f19
      replace f19 := fun g => inb_iff.1 (f19 g)
      obtain ⟨f20, H⟩ := need_some.1 H
      replace f20 := g_iff.1 f20
      replace f20 := fun g => inb_iff.1 (f20 g)
      obtain ⟨f21, H⟩ := need_some.1 H
      replace f21 := g_iff.1 f21
      replace f21 := fun g => inb_iff.1 (f21 g)
      obtain ⟨f22, H⟩ := need_some.1 H
      replace f22 := g_iff.1 f22
      replace f22 := fun g => inb_iff.1 (f22 g)
      refine rg ctNo_ok ?_
      simp only [go_sem, Nat.reduceLeDiff, Nat.reduceLT, Nat.reduceAdd, Nat.reduceMul, Nat.reduceSub, Nat.reduceEqDiff, Nat.reduceBEq, Int.reduceToNat, reduceCtorEq]
      repeat ((with_reducible refine And.intro ?_ ?_); focus (first | (with_reducible trivial) | omega | exact f19 | exact f20 | exact f21 | exact f22 | (intro g; have q := f19 (by first | exact g | (rw [g]; rfl) | simpa using g); first | exact q | exact ⟨q.1, q.2.1⟩ | exact q.2.2 | omega | exact ⟨g, q⟩ | exact ⟨trivial, q⟩ | exact ⟨g, q.1, q.2.1⟩ | exact ⟨g, q.2.2⟩) | (intro g; have q := f20 (by first | exact g | (rw [g]; rfl) | simpa using g); first | exact q | exact ⟨q.1, q.2.1⟩ | exact q.2.2 | omega | exact ⟨g, q⟩ | exact ⟨trivial, q⟩ | exact ⟨g, q.1, q.2.1⟩ | exact ⟨g, q.2.2⟩) | (intro g; have q := f21 (by first | exact g | (rw [g]; rfl) | simpa using g); first | exact q | exact ⟨q.1, q.2.1⟩ | exact q.2.2 | omega | exact ⟨g, q⟩ | exact ⟨trivial, q⟩ | exact ⟨g, q.1, q.2.1⟩ | exact ⟨g, q.2.2⟩) | (intro g; have q := f22 (by first | exact g | (rw [g]; rfl) | simpa using g); first | exact q | exact ⟨q.1, q.2.1⟩ | exact q.2.2 | omega | exact ⟨g, q⟩ | exact ⟨trivial, q⟩ | exact ⟨g, q.1, q.2.1⟩ | exact ⟨g, q.2.2⟩) | grind))
      refine condM rfl trivial (fun hc => ?_) (fun hc => ?_)
      · replace H := cond_t hc H
        refine seqM ?_
        obtain ⟨f23, H⟩ := need_some.1 H
        replace f23 := inb_iff.1 f23
        obtain ⟨f24, H⟩ := need_some.1 H
        replace f24 := inb_iff.1 f24
        refine rg ctNo_ok ?_
        simp only [go_sem, Nat.reduceLeDiff, Nat.reduceLT, Nat.reduceAdd, Nat.reduceMul, Nat.reduceSub, Nat.reduceEqDiff, Nat.reduceBEq, Int.reduceToNat, reduceCtorEq, f23, f24]
        repeat ((with_reducible refine And.intro ?_ ?_); focus exact an2)
        refine rg ctNo_ok ?_
        simp only [go_sem, Nat.reduceLeDiff, Nat.reduceLT, Nat.reduceAdd, Nat.reduceMul, Nat.reduceSub, Nat.reduceEqDiff, Nat.reduceBEq, Int.reduceToNat, reduceCtorEq]
        refine rg ctNo_ok ?_
        simp only [go_sem, Nat.reduceLeDiff, Nat.reduceLT, Nat.reduceAdd, Nat.reduceMul, Nat.reduceSub, Nat.reduceEqDiff, Nat.reduceBEq, Int.reduceToNat, reduceCtorEq]
        refine ⟨_, (Option.some.inj H).symm, ?_⟩
        refine SubF_of ⟨[some 0, some 1, some 2, some 3], ?_, ?_, by rfl, by rfl⟩
        · simp [CvL, Cv, getM, tp]
        · exact ⟨CvB_dead, CvB_dead, CvB_row nr_i64 cl (upc_row (f := c_i64) w17 v1_2.toNat 0 (-1) (fun _ _ _ _ => rfl) (fun y hy => match y, hy with | 0, _ => rfl | (y+1), h => absurd h nlt)), CvB_row nr_TForward cl (fun _ _ _ _ => rfl), trivial⟩
      replace H := cond_f hc H
      refine rg ctNo_ok ?_
      simp only [go_sem, Nat.reduceLeDiff, Nat.reduceLT, Nat.reduceAdd, Nat.reduceMul, Nat.reduceSub, Nat.reduceEqDiff, Nat.reduceBEq, Int.reduceToNat, reduceCtorEq]
      refine seqM ?_
      obtain ⟨f25, H⟩ := need_some.1 H
      replace f25 := inb_iff.1 f25
      obtain ⟨f26, H⟩ := need_some.1 H
      replace f26 := inb_iff.1 f26
      obtain ⟨r27, e28, H⟩ := bsi H
      obtain ⟨f29, H⟩ := need_some.1 H
      replace f29 := inb_iff.1 f29
      obtain ⟨f30, H⟩ := need_some.1 H
      replace f30 := inb_iff.1 f30
      obtain ⟨r31, e32, H⟩ := bsi H
      obtain ⟨r33, e34, H⟩ := bsi H
      refine draw_rule shT_ok ct6t6_ok 3 (by kernel_rfl) (by kernel_rfl) ?_
      intro an han
      simp only [d_nil, d_cons, nxtD, xrD, xoD, roEq, minL, List.append_nil, refsOp, refs, refsL, mask, maskF, place, placeF, okLog, pairOk, hit, inL, slotsF, ren, renL, rnN, nrH, nrB, nrL, nr, dead0, deadS, List.replicate_zero, List.replicate_succ, Nat.sub_self, Nat.add_zero, Nat.zero_add, Nat.reduceSub, Nat.not_lt_zero, Nat.zero_le, Nat.lt_add_one, go_sem, Nat.reduceLeDiff, Nat.reduceLT, Nat.reduceAdd, Nat.reduceMul, Nat.reduceSub, Nat.reduceEqDiff, Nat.reduceBEq, Int.reduceToNat, reduceCtorEq, ct6t6_30, body30, ct6t6_31, body31, f25, f26, e28, f29, f30, e32, e34]
      repeat ((with_reducible refine And.intro ?_ ?_); focus exact an1)
      refine seqM ?_
      refine sq ctNo_ok ?_
      simp only [go_sem, Nat.reduceLeDiff, Nat.reduceLT, Nat.reduceAdd, Nat.reduceMul, Nat.reduceSub, Nat.reduceEqDiff, Nat.reduceBEq, Int.reduceToNat, reduceCtorEq]
      refine condM rfl trivial (fun hc => ?_) (fun hc => ?_)
      · replace H := cond_t hc H
        refine sq ctNo_ok ?_
        simp only [go_sem, Nat.reduceLeDiff, Nat.reduceLT, Nat.reduceAdd, Nat.reduceMul, Nat.reduceSub, Nat.reduceEqDiff, Nat.reduceBEq, Int.reduceToNat, reduceCtorEq]
        refine rg ctNo_ok ?_
        simp only [go_sem, Nat.reduceLeDiff, Nat.reduceLT, Nat.reduceAdd, Nat.reduceMul, Nat.reduceSub, Nat.reduceEqDiff, Nat.reduceBEq, Int.reduceToNat, reduceCtorEq]
        have H := hn2_1 _ (Option.some.inj H).symm
        obtain rfl := Option.some.inj H
        first | rfl | simp only [Bool.and_false, Bool.false_and, Bool.and_true, Bool.true_and]
      replace H := cond_f hc H
      refine rg ctNo_ok ?_
      simp only [go_sem, Nat.reduceLeDiff, Nat.reduceLT, Nat.reduceAdd, Nat.reduceMul, Nat.reduceSub, Nat.reduceEqDiff, Nat.reduceBEq, Int.reduceToNat, reduceCtorEq]
      refine regO ?_
      obtain ⟨f35, H⟩ := need_some.1 H
      replace f35 := inb_iff.1 f35
      obtain ⟨f36, H⟩ := need_some.1 H
      replace f36 := inb_iff.1 f36
      refine cutO shT_ok ctNo_ok 3 ?_
      simp only [kO_normal, List.take_succ_cons, List.take_zero, List.drop_succ_cons, List.drop_zero, go_sem, Nat.reduceLeDiff, Nat.reduceLT, Nat.reduceAdd, Nat.reduceMul, Nat.reduceSub, Nat.reduceEqDiff, Nat.reduceBEq, Int.reduceToNat, reduceCtorEq, f35, f36]
      repeat ((with_reducible refine And.intro ?_ ?_); focus exact an2)
      refine fzO [4, 5] ?_ ?_
      · simp only [go_sem, Nat.reduceEqDiff, Nat.reduceBEq, Nat.reduceAdd]
        try exact at0
      simp only [go_sem, Nat.reduceEqDiff, Nat.reduceBEq, Nat.reduceAdd]
      refine cutO shT_ok ctNo_ok 1 ?_
      simp only [kO_normal, List.take_succ_cons, List.take_zero, List.drop_succ_cons, List.drop_zero, go_sem, Nat.reduceLeDiff, Nat.reduceLT, Nat.reduceAdd, Nat.reduceMul, Nat.reduceSub, Nat.reduceEqDiff, Nat.reduceBEq, Int.reduceToNat, reduceCtorEq]
      repeat ((with_reducible refine And.intro ?_ ?_); focus exact an2)
      refine endO ?_
      refine rg ctNo_ok ?_
      simp only [go_sem, Nat.reduceLeDiff, Nat.reduceLT, Nat.reduceAdd, Nat.reduceMul, Nat.reduceSub, Nat.reduceEqDiff, Nat.reduceBEq, Int.reduceToNat, reduceCtorEq]
      refine ⟨_, (Option.some.inj H).symm, ?_⟩
      refine SubF_of ⟨[some 0, some 1, some 2, some 3], ?_, ?_, by rfl, by rfl⟩
      · simp [CvL, Cv, getM, tp]
      · exact ⟨CvB_dead, CvB_dead, CvB_row nr_i64 cl (fun _ _ _ _ => rfl), CvB_row nr_TForward cl (upc_row (f := c_TForward) v1_3 v1_2.toNat 0 r33.1 (fun _ _ _ _ => rfl) (fun y hy => match y, hy with | 0, _ => rfl | 1, _ => rfl | 2, _ => rfl | 3, _ => rfl | 4, _ => rfl | 5, _ => rfl | 6, _ => rfl | 7, _ => rfl | 8, _ => rfl | (y+9), h => absurd h nlt)), trivial⟩
    · obtain ⟨w1_4, w1_5⟩ := e
      try dsimp only at H ⊢
      try simp only [tp]
      try simp only [m_normal, k_normal, b_normal, kL_normal, r_normal]
      refine seqM ?_
      obtain ⟨f37, H⟩ := need_some.1 H
      replace f37 := inb_iff.1 f37
      obtain ⟨f38, H⟩ := need_some.1 H
      replace f38 := inb_iff.1 f38
      obtain ⟨r39, e40, H⟩ := bsi H
      obtain ⟨r41, e42, H⟩ := bsi H
      obtain ⟨r43, e44, H⟩ := bsi H
      obtain ⟨r45, e46, H⟩ := bsi H
      refine draw_rule shT_ok ct6t2_ok 2 (by kernel_rfl) (by kernel_rfl) ?_
      intro an han
      simp only [d_nil, d_cons, nxtD, xrD, xoD, roEq, minL, List.append_nil, refsOp, refs, refsL, mask, maskF, place, placeF, okLog, pairOk, hit, inL, slotsF, ren, renL, rnN, nrH, nrB, nrL, nr, dead0, deadS, List.replicate_zero, List.replicate_succ, Nat.sub_self, Nat.add_zero, Nat.zero_add, Nat.reduceSub, Nat.not_lt_zero, Nat.zero_le, Nat.lt_add_one, go_sem, Nat.reduceLeDiff, Nat.reduceLT, Nat.reduceAdd, Nat.reduceMul, Nat.reduceSub, Nat.reduceEqDiff, Nat.reduceBEq, Int.reduceToNat, reduceCtorEq, ct6t2_31, body31, ct6t2_32, body32, f37, f38, e40, e42, e44, e46]
      repeat ((with_reducible refine And.intro ?_ ?_); focus exact an1)
      refine seqM ?_
      refine seqM ?_
      obtain ⟨f47, H⟩ := need_some.1 H
      replace f47 := inb_iff.1 f47
      obtain ⟨f48, H⟩ := need_some.1 H
      replace f48 := inb_iff.1 f48
      refine rg ctNo_ok ?_
      simp only [go_sem, Nat.reduceLeDiff, Nat.reduceLT, Nat.reduceAdd, Nat.reduceMul, Nat.reduceSub, Nat.reduceEqDiff, Nat.reduceBEq, Int.reduceToNat, reduceCtorEq, f47, f48]
      repeat ((with_reducible refine And.intro ?_ ?_); focus exact an2)
      refine condM rfl trivial (fun hc => ?_) (fun hc => ?_)
      · replace H := cond_t hc H
        refine sq ctNo_ok ?_
        simp only [go_sem, Nat.reduceLeDiff, Nat.reduceLT, Nat.reduceAdd, Nat.reduceMul, Nat.reduceSub, Nat.reduceEqDiff, Nat.reduceBEq, Int.reduceToNat, reduceCtorEq]
        repeat ((with_reducible refine And.intro ?_ ?_); focus exact an2)
        refine rg ctNo_ok ?_
        simp only [go_sem, Nat.reduceLeDiff, Nat.reduceLT, Nat.reduceAdd, Nat.reduceMul, Nat.reduceSub, Nat.reduceEqDiff, Nat.reduceBEq, Int.reduceToNat, reduceCtorEq]
        obtain rfl := Option.some.inj H
        first | rfl | simp only [Bool.and_false, Bool.false_and, Bool.and_true, Bool.true_and]
      replace H := cond_f hc H
      refine rg ctNo_ok ?_
      simp only [go_sem, Nat.reduceLeDiff, Nat.reduceLT, Nat.reduceAdd, Nat.reduceMul, Nat.reduceSub, Nat.reduceEqDiff, Nat.reduceBEq, Int.reduceToNat, reduceCtorEq]
      refine seqM ?_
      obtain ⟨f49, H⟩ := need_some.1 H
      replace f49 := inb_iff.1 f49
      obtain ⟨f50, H⟩ := need_some.1 H
      replace f50 := inb_iff.1 f50
      refine rg ctNo_ok ?_
      simp only [go_sem, Nat.reduceLeDiff, Nat.reduceLT, Nat.reduceAdd, Nat.reduceMul, Nat.reduceSub, Nat.reduceEqDiff, Nat.reduceBEq, Int.reduceToNat, reduceCtorEq, f49, f50]
      repeat ((with_reducible refine And.intro ?_ ?_); focus exact an2)
      refine seqM ?_
      refine seqM ?_
      obtain ⟨f51, H⟩ := need_some.1 H
      replace f51 := g_iff.1 f51
      replace f51 := fun g => inb_iff.1 (f51 g)
      obtain ⟨f52, H⟩ := need_some.1 H
      replace f52 := g_iff.1 f52
      replace f52 := fun g => inb_iff.1 (f52 g)
      obtain ⟨f53, H⟩ := need_some.1 H
      replace f53 := g_iff.1 f53
      refine draw_quiet shT_ok ct6t3_ok (by kernel_rfl) (by kernel_rfl) ?_
      simp only [go_sem, Nat.reduceLeDiff, Nat.reduceLT, Nat.reduceAdd, Nat.reduceMul, Nat.reduceSub, Nat.reduceEqDiff, Nat.reduceBEq, Int.reduceToNat, reduceCtorEq, ct6t3_31, body31]
      repeat ((with_reducible refine And.intro ?_ ?_); focus (first | (with_reducible trivial) | omega | exact f51 | exact f52 | exact f53 | (intro g; have q := f51 (by first | exact g | (rw [g]; rfl) | simpa using g); first | exact q | exact ⟨q.1, q.2.1⟩ | exact q.2.2 | omega | exact ⟨g, q⟩ | exact ⟨trivial, q⟩ | exact ⟨g, q.1, q.2.1⟩ | exact ⟨g, q.2.2⟩) | (intro g; have q := f52 (by first | exact g | (rw [g]; rfl) | simpa using g); first | exact q | exact ⟨q.1, q.2.1⟩ | exact q.2.2 | omega | exact ⟨g, q⟩ | exact ⟨trivial, q⟩ | exact ⟨g, q.1, q.2.1⟩ | exact ⟨g, q.2.2⟩) | (intro g; have q := f53 (by first | exact g | (rw [g]; rfl) | simpa using g); first | exact q | exact ⟨q.1, q.2.1⟩ | exact q.2.2 | omega | exact ⟨g, q⟩ | exact ⟨trivial, q⟩ | exact ⟨g, q.1, q.2.1⟩ | exact ⟨g, q.2.2⟩) | (intro g; (try have q0 := f51 (by first | exact g | (rw [g]; rfl) | simpa using g)); (try have q1 := f52 (by first | exact g | (rw [g]; rfl) | simpa using g)); (try have q2 := f53 (by first | exact g | (rw [g]; rfl) | simpa using g)); and_intros <;> first | (with_reducible trivial) | assumption | exact nfc | (intro g2; rw [g, g2]; rfl) | (intro g2; assumption) | (simp only [g, Bool.true_and, Bool.and_true, Bool.not_false, Bool.not_true]; assumption) | grind) | (and_intros <;> first | (with_reducible trivial) | omega | assumption | exact nfc | first | exact rfl | exact trivial | exact fitI | exact .inr rfl | exact .inl rfl | exact fun x hx => absurd hx (by omega)) | grind))
      refine condM rfl trivial (fun hc => ?_) (fun hc => ?_)
      · replace H := cond_t hc H
        refine sq ctNo_ok ?_
        simp only [go_sem, Nat.reduceLeDiff, Nat.reduceLT, Nat.reduceAdd, Nat.reduceMul, Nat.reduceSub, Nat.reduceEqDiff, Nat.reduceBEq, Int.reduceToNat, reduceCtorEq]
        refine rg ctNo_ok ?_
        simp only [go_sem, Nat.reduceLeDiff, Nat.reduceLT, Nat.reduceAdd, Nat.reduceMul, Nat.reduceSub, Nat.reduceEqDiff, Nat.reduceBEq, Int.reduceToNat, reduceCtorEq]
        obtain rfl := Option.some.inj H
        first | rfl | simp only [Bool.and_false, Bool.false_and, Bool.and_true, Bool.true_and]
      replace H := cond_f hc H
      refine rg ctNo_ok ?_
      simp only [go_sem, Nat.reduceLeDiff, Nat.reduceLT, Nat.reduceAdd, Nat.reduceMul, Nat.reduceSub, Nat.reduceEqDiff, Nat.reduceBEq, Int.reduceToNat, reduceCtorEq]
      refine seqM ?_
      refine regO ?_
      refine cutO shT_ok ctNo_ok 0 ?_
      simp only [kO_normal, List.take_succ_cons, List.take_zero, List.drop_succ_cons, List.drop_zero, go_sem, Nat.reduceLeDiff, Nat.reduceLT, Nat.reduceAdd, Nat.reduceMul, Nat.reduceSub, Nat.reduceEqDiff, Nat.reduceBEq, Int.reduceToNat, reduceCtorEq]
      repeat ((with_reducible refine And.intro ?_ ?_); focus exact an0)
      obtain ⟨w54, hw55, H⟩ := bsi H
      replace hw55 := Option.some.inj hw55
      have lhw55 : w54.length = w1_4.length := by rw [← hw55]; exact cl
      refine subO (t2 := (.top :: .top :: .top :: .ro 1 p3.length false (enR c_u8 p3) :: tp 5 (.bool r1 :: .int .i64 (wr .i64 (p1.tmod 8)) :: .int .i64 (wr .i64 (p2.tmod 8)) :: .ptr 2 9 0 0 :: .ptr 3 1 0 0 :: tp 4 (.ptr 5 0 0 0 :: tp 265 [])))) (h2 := [.dead, .dead, .row 62 9 w54.length (enR c_TForward w54), .row 64 1 w1_5.length (enR c_i64 w1_5), .lit 31 [.int .u8 r45.1.Own.x0, .int .u8 r45.1.Own.x1, .int .u8 r45.1.Own.x2, .int .u8 r45.1.Own.x3, .int .u8 r45.1.Own.x4, .int .u8 r45.1.Own.x5, .int .i64 r45.1.Seq, .ro 7 r45.1.Seen.length false (enR c_TForwardMark r45.1.Seen), .ro 12 r45.1.Nexts.length false (enR c_TForwardHop r45.1.Nexts)], .lit 26 (.int .u8 r45.2.1.From.x0 :: .int .u8 r45.2.1.From.x1 :: .int .u8 r45.2.1.From.x2 :: .int .u8 r45.2.1.From.x3 :: .int .u8 r45.2.1.From.x4 :: .int .u8 r45.2.1.From.x5 :: .int .u8 r45.2.1.To.x0 :: .int .u8 r45.2.1.To.x1 :: .int .u8 r45.2.1.To.x2 :: .int .u8 r45.2.1.To.x3 :: .int .u8 r45.2.1.To.x4 :: .int .u8 r45.2.1.To.x5 :: .int .u8 r45.2.1.Enter.x0 :: .int .u8 r45.2.1.Enter.x1 :: .int .u8 r45.2.1.Enter.x2 :: .int .u8 r45.2.1.Enter.x3 :: .int .u8 r45.2.1.Enter.x4 :: .int .u8 r45.2.1.Enter.x5 :: .int .u8 r45.2.1.Leave.x0 :: .int .u8 r45.2.1.Leave.x1 :: .int .u8 r45.2.1.Leave.x2 :: .int .u8 r45.2.1.Leave.x3 :: .int .u8 r45.2.1.Leave.x4 :: .int .u8 r45.2.1.Leave.x5 :: .int .u8 r45.2.1.Source.x0 :: .int .u8 r45.2.1.Source.x1 :: .int .u8 r45.2.1.Source.x2 :: .int .u8 r45.2.1.Source.x3 :: .int .u8 r45.2.1.Source.x4 :: .int .u8 r45.2.1.Source.x5 :: .int .u8 r45.2.1.Target.x0 :: .int .u8 r45.2.1.Target.x1 :: .int .u8 r45.2.1.Target.x2 :: .int .u8 r45.2.1.Target.x3 :: .int .u8 r45.2.1.Target.x4 :: .int .u8 r45.2.1.Target.x5 :: .int .i64 r45.2.1.Seq :: .int .i64 r45.2.1.Ttl :: .ro 1 r45.2.1.Data.length false (enR c_u8 r45.2.1.Data) :: [])]) ?_ ?_
      · refine SubF_of ⟨[some 0, some 1, some 2, some 3, some 4, some 5], ?_, ?_, by rfl, by rfl⟩
        · simp [CvL, Cv, getM, tp, lhw55]
        · exact ⟨CvB_dead, CvB_dead, CvB_row nr_TForward lhw55 (hw55 ▸ (upc_row (f := c_TForward) w1_4 ((wr .i64 (p1.tmod 8)).toNat) 0 r45.1 (fun _ _ _ _ => rfl) (fun y hy => match y, hy with | 0, _ => rfl | 1, _ => rfl | 2, _ => rfl | 3, _ => rfl | 4, _ => rfl | 5, _ => rfl | 6, _ => rfl | 7, _ => rfl | 8, _ => rfl | (y+9), h => absurd h nlt))), CvB_row nr_i64 rfl (fun _ _ _ _ => rfl), (by simp [CvB, CvL, Cv, blkAt, geth, getM, lhw55]), (by simp [CvB, CvL, Cv, blkAt, geth, getM, lhw55]), trivial⟩
      simp only [tp]
      obtain ⟨f56, H⟩ := need_some.1 H
      replace f56 := decide_eq_true_iff.1 f56
      refine loadArrO shT_ok ctNo_ok (b := 2) (z := 9) (n := 8) (cells := (.int .u8 (((gd w54 0).Own).x0) :: .int .u8 (((gd w54 0).Own).x1) :: .int .u8 (((gd w54 0).Own).x2) :: .int .u8 (((gd w54 0).Own).x3) :: .int .u8 (((gd w54 0).Own).x4) :: .int .u8 (((gd w54 0).Own).x5) :: .int .i64 ((gd w54 0).Seq) :: .ro 7 (((gd w54 0).Seen).length) false (enR c_TForwardMark ((gd w54 0).Seen)) :: .ro 12 (((gd w54 0).Nexts).length) false (enR c_TForwardHop ((gd w54 0).Nexts)) :: .int .u8 (((gd w54 1).Own).x0) :: .int .u8 (((gd w54 1).Own).x1) :: .int .u8 (((gd w54 1).Own).x2) :: .int .u8 (((gd w54 1).Own).x3) :: .int .u8 (((gd w54 1).Own).x4) :: .int .u8 (((gd w54 1).Own).x5) :: .int .i64 ((gd w54 1).Seq) :: .ro 7 (((gd w54 1).Seen).length) false (enR c_TForwardMark ((gd w54 1).Seen)) :: .ro 12 (((gd w54 1).Nexts).length) false (enR c_TForwardHop ((gd w54 1).Nexts)) :: .int .u8 (((gd w54 2).Own).x0) :: .int .u8 (((gd w54 2).Own).x1) :: .int .u8 (((gd w54 2).Own).x2) :: .int .u8 (((gd w54 2).Own).x3) :: .int .u8 (((gd w54 2).Own).x4) :: .int .u8 (((gd w54 2).Own).x5) :: .int .i64 ((gd w54 2).Seq) :: .ro 7 (((gd w54 2).Seen).length) false (enR c_TForwardMark ((gd w54 2).Seen)) :: .ro 12 (((gd w54 2).Nexts).length) false (enR c_TForwardHop ((gd w54 2).Nexts)) :: .int .u8 (((gd w54 3).Own).x0) :: .int .u8 (((gd w54 3).Own).x1) :: .int .u8 (((gd w54 3).Own).x2) :: .int .u8 (((gd w54 3).Own).x3) :: .int .u8 (((gd w54 3).Own).x4) :: .int .u8 (((gd w54 3).Own).x5) :: .int .i64 ((gd w54 3).Seq) :: .ro 7 (((gd w54 3).Seen).length) false (enR c_TForwardMark ((gd w54 3).Seen)) :: .ro 12 (((gd w54 3).Nexts).length) false (enR c_TForwardHop ((gd w54 3).Nexts)) :: .int .u8 (((gd w54 4).Own).x0) :: .int .u8 (((gd w54 4).Own).x1) :: .int .u8 (((gd w54 4).Own).x2) :: .int .u8 (((gd w54 4).Own).x3) :: .int .u8 (((gd w54 4).Own).x4) :: .int .u8 (((gd w54 4).Own).x5) :: .int .i64 ((gd w54 4).Seq) :: .ro 7 (((gd w54 4).Seen).length) false (enR c_TForwardMark ((gd w54 4).Seen)) :: .ro 12 (((gd w54 4).Nexts).length) false (enR c_TForwardHop ((gd w54 4).Nexts)) :: .int .u8 (((gd w54 5).Own).x0) :: .int .u8 (((gd w54 5).Own).x1) :: .int .u8 (((gd w54 5).Own).x2) :: .int .u8 (((gd w54 5).Own).x3) :: .int .u8 (((gd w54 5).Own).x4) :: .int .u8 (((gd w54 5).Own).x5) :: .int .i64 ((gd w54 5).Seq) :: .ro 7 (((gd w54 5).Seen).length) false (enR c_TForwardMark ((gd w54 5).Seen)) :: .ro 12 (((gd w54 5).Nexts).length) false (enR c_TForwardHop ((gd w54 5).Nexts)) :: .int .u8 (((gd w54 6).Own).x0) :: .int .u8 (((gd w54 6).Own).x1) :: .int .u8 (((gd w54 6).Own).x2) :: .int .u8 (((gd w54 6).Own).x3) :: .int .u8 (((gd w54 6).Own).x4) :: .int .u8 (((gd w54 6).Own).x5) :: .int .i64 ((gd w54 6).Seq) :: .ro 7 (((gd w54 6).Seen).length) false (enR c_TForwardMark ((gd w54 6).Seen)) :: .ro 12 (((gd w54 6).Nexts).length) false (enR c_TForwardHop ((gd w54 6).Nexts)) :: .int .u8 (((gd w54 7).Own).x0) :: .int .u8 (((gd w54 7).Own).x1) :: .int .u8 (((gd w54 7).Own).x2) :: .int .u8 (((gd w54 7).Own).x3) :: .int .u8 (((gd w54 7).Own).x4) :: .int .u8 (((gd w54 7).Own).x5) :: .int .i64 ((gd w54 7).Seq) :: .ro 7 (((gd w54 7).Seen).length) false (enR c_TForwardMark ((gd w54 7).Seen)) :: .ro 12 (((gd w54 7).Nexts).length) false (enR c_TForwardHop ((gd w54 7).Nexts)) :: [])) rfl rfl rfl rfl (by first | exact trivial | (simp only [go_sem, Nat.reduceLeDiff, Nat.reduceLT, Nat.reduceAdd, Nat.reduceMul, Nat.reduceSub, Nat.reduceEqDiff, Nat.reduceBEq, Int.reduceToNat, reduceCtorEq]; done) | simp [og]) rfl f56 (by kernel_rfl) (by kernel_rfl) rfl (by decide) (fun x y hx hy => (flat_get (f := fun x => c_TForward (gd w54 x)) (n := 8) (fun _ => rfl) x y (by omega) hy).symm) ?_
      simp only [go_sem, Nat.reduceLeDiff, Nat.reduceLT, Nat.reduceAdd, Nat.reduceMul, Nat.reduceSub, Nat.reduceEqDiff, Nat.reduceBEq, Int.reduceToNat, reduceCtorEq]
      obtain ⟨r57, e58, H⟩ := bsi H
      refine cutO shT_ok ct6t4_ok 12 ?_
      simp only [kO_normal, List.take_succ_cons, List.take_zero, List.drop_succ_cons, List.drop_zero, go_sem, Nat.reduceLeDiff, Nat.reduceLT, Nat.reduceAdd, Nat.reduceMul, Nat.reduceSub, Nat.reduceEqDiff, Nat.reduceBEq, Int.reduceToNat, reduceCtorEq, ct6t4_33, body33, e58]
      repeat ((with_reducible refine And.intro ?_ ?_); focus exact an0)
      refine endO ?_
      refine seqM ?_
      refine sq ctNo_ok ?_
      simp only [go_sem, Nat.reduceLeDiff, Nat.reduceLT, Nat.reduceAdd, Nat.reduceMul, Nat.reduceSub, Nat.reduceEqDiff, Nat.reduceBEq, Int.reduceToNat, reduceCtorEq]
      refine condM rfl trivial (fun hc => ?_) (fun hc => ?_)
      · replace H := cond_t hc H
        refine sq ctNo_ok ?_
        simp only [go_sem, Nat.reduceLeDiff, Nat.reduceLT, Nat.reduceAdd, Nat.reduceMul, Nat.reduceSub, Nat.reduceEqDiff, Nat.reduceBEq, Int.reduceToNat, reduceCtorEq]
        refine rg ctNo_ok ?_
        simp only [go_sem, Nat.reduceLeDiff, Nat.reduceLT, Nat.reduceAdd, Nat.reduceMul, Nat.reduceSub, Nat.reduceEqDiff, Nat.reduceBEq, Int.reduceToNat, reduceCtorEq]
        obtain rfl := Option.some.inj H
        first | rfl | simp only [Bool.and_false, Bool.false_and, Bool.and_true, Bool.true_and]
      replace H := cond_f hc H
      refine rg ctNo_ok ?_
      simp only [go_sem, Nat.reduceLeDiff, Nat.reduceLT, Nat.reduceAdd, Nat.reduceMul, Nat.reduceSub, Nat.reduceEqDiff, Nat.reduceBEq, Int.reduceToNat, reduceCtorEq]
      refine seqM ?_
      refine regO ?_
      refine cutO shT_ok ctNo_ok 0 ?_
      simp only [kO_normal, List.take_succ_cons, List.take_zero, List.drop_succ_cons, List.drop_zero, go_sem, Nat.reduceLeDiff, Nat.reduceLT, Nat.reduceAdd, Nat.reduceMul, Nat.reduceSub, Nat.reduceEqDiff, Nat.reduceBEq, Int.reduceToNat, reduceCtorEq]
      obtain ⟨w59, hw60, H⟩ := bsi H
      replace hw60 := Option.some.inj hw60
      have lhw60 : w59.length = 8 := by rw [← hw60]; exact List.length_replicate
      refine allocO shT_ok ctNo_ok (len := w59.length) (z := 1) (l := (List.replicate 8 (c_b false)).flatten) (c := enR c_b w59) rfl rfl rfl (by kernel_rfl) (by rw [lhw60]; exact flat_len) (fun x y hx hy => by subst hw60; exact arr_rep rfl x y (by simpa using hx) hy) ?_
      simp only [go_sem, Nat.reduceLeDiff, Nat.reduceLT, Nat.reduceAdd, Nat.reduceMul, Nat.reduceSub, Nat.reduceEqDiff, Nat.reduceBEq, Int.reduceToNat, reduceCtorEq]
      refine cutO shT_ok ctNo_ok 0 ?_
      simp only [kO_normal, List.take_succ_cons, List.take_zero, List.drop_succ_cons, List.drop_zero, go_sem, Nat.reduceLeDiff, Nat.reduceLT, Nat.reduceAdd, Nat.reduceMul, Nat.reduceSub, Nat.reduceEqDiff, Nat.reduceBEq, Int.reduceToNat, reduceCtorEq]
      refine endO ?_
      refine seqM ?_
      obtain ⟨f61, H⟩ := need_some.1 H
      replace f61 := inb_iff.1 f61
      obtain ⟨f62, H⟩ := need_some.1 H
      replace f62 := inb_iff.1 f62
      refine rg ctNo_ok ?_
      simp only [go_sem, Nat.reduceLeDiff, Nat.reduceLT, Nat.reduceAdd, Nat.reduceMul, Nat.reduceSub, Nat.reduceEqDiff, Nat.reduceBEq, Int.reduceToNat, reduceCtorEq, f61, f62]
      repeat ((with_reducible refine And.intro ?_ ?_); focus exact an2)
      refine seqM ?_
      obtain ⟨f63, H⟩ := need_some.1 H
      replace f63 := inb_iff.1 f63
      obtain ⟨f64, H⟩ := need_some.1 H
      replace f64 := inb_iff.1 f64
      refine rg ctNo_ok ?_
      simp only [go_sem, Nat.reduceLeDiff, Nat.reduceLT, Nat.reduceAdd, Nat.reduceMul, Nat.reduceSub, Nat.reduceEqDiff, Nat.reduceBEq, Int.reduceToNat, reduceCtorEq, f63, f64]
      repeat ((with_reducible refine And.intro ?_ ?_); focus exact an2)
      refine sq ctNo_ok ?_
      simp only [go_sem, Nat.reduceLeDiff, Nat.reduceLT, Nat.reduceAdd, Nat.reduceMul, Nat.reduceSub, Nat.reduceEqDiff, Nat.reduceBEq, Int.reduceToNat, reduceCtorEq]
      refine seqM ?_
      refine blkM ?_
      refine loop_den (fun s : (List Bool) × Int × Int => (.top :: .top :: .top :: .ro 1 p3.length false (enR c_u8 p3) :: tp 5 (.bool r1 :: .int .i64 (wr .i64 (p1.tmod 8)) :: .int .i64 (wr .i64 (p2.tmod 8)) :: .top :: .ptr 3 1 0 0 :: tp 6 (.ro 1 r57.1.length false (enR c_i64 r57.1) :: .int .u8 r57.2.1 :: .ptr 6 0 0 0 :: .top :: .ptr 8 1 0 0 :: .int .i64 s.2.1 :: .int .i64 s.2.2 :: tp 257 [])))) (fun s => [.dead, .dead, .dead, .row 64 1 w1_5.length (enR c_i64 w1_5), .dead, .dead, .lit 26 (.int .u8 r57.2.2.1.From.x0 :: .int .u8 r57.2.2.1.From.x1 :: .int .u8 r57.2.2.1.From.x2 :: .int .u8 r57.2.2.1.From.x3 :: .int .u8 r57.2.2.1.From.x4 :: .int .u8 r57.2.2.1.From.x5 :: .int .u8 r57.2.2.1.To.x0 :: .int .u8 r57.2.2.1.To.x1 :: .int .u8 r57.2.2.1.To.x2 :: .int .u8 r57.2.2.1.To.x3 :: .int .u8 r57.2.2.1.To.x4 :: .int .u8 r57.2.2.1.To.x5 :: .int .u8 r57.2.2.1.Enter.x0 :: .int .u8 r57.2.2.1.Enter.x1 :: .int .u8 r57.2.2.1.Enter.x2 :: .int .u8 r57.2.2.1.Enter.x3 :: .int .u8 r57.2.2.1.Enter.x4 :: .int .u8 r57.2.2.1.Enter.x5 :: .int .u8 r57.2.2.1.Leave.x0 :: .int .u8 r57.2.2.1.Leave.x1 :: .int .u8 r57.2.2.1.Leave.x2 :: .int .u8 r57.2.2.1.Leave.x3 :: .int .u8 r57.2.2.1.Leave.x4 :: .int .u8 r57.2.2.1.Leave.x5 :: .int .u8 r57.2.2.1.Source.x0 :: .int .u8 r57.2.2.1.Source.x1 :: .int .u8 r57.2.2.1.Source.x2 :: .int .u8 r57.2.2.1.Source.x3 :: .int .u8 r57.2.2.1.Source.x4 :: .int .u8 r57.2.2.1.Source.x5 :: .int .u8 r57.2.2.1.Target.x0 :: .int .u8 r57.2.2.1.Target.x1 :: .int .u8 r57.2.2.1.Target.x2 :: .int .u8 r57.2.2.1.Target.x3 :: .int .u8 r57.2.2.1.Target.x4 :: .int .u8 r57.2.2.1.Target.x5 :: .int .i64 r57.2.2.1.Seq :: .int .i64 r57.2.2.1.Ttl :: .ro 1 r57.2.2.1.Data.length false (enR c_u8 r57.2.2.1.Data) :: []), .dead, .row 73 1 s.1.length (enR c_b s.1)]) (fun e : Int × Int => (.top :: .top :: .top :: .ro 1 p3.length false (enR c_u8 p3) :: tp 5 (.bool r1 :: .int .i64 (wr .i64 (p1.tmod 8)) :: .int .i64 (wr .i64 (p2.tmod 8)) :: tp 8 (.ro 1 r57.1.length false (enR c_i64 r57.1) :: .int .u8 r57.2.1 :: .ptr 6 0 0 0 :: .top :: .top :: .int .i64 e.1 :: .int .i64 e.2 :: tp 257 [])))) (fun e => [.dead, .dead, .dead, .dead, .dead, .dead, .lit 26 (.int .u8 r57.2.2.1.From.x0 :: .int .u8 r57.2.2.1.From.x1 :: .int .u8 r57.2.2.1.From.x2 :: .int .u8 r57.2.2.1.From.x3 :: .int .u8 r57.2.2.1.From.x4 :: .int .u8 r57.2.2.1.From.x5 :: .int .u8 r57.2.2.1.To.x0 :: .int .u8 r57.2.2.1.To.x1 :: .int .u8 r57.2.2.1.To.x2 :: .int .u8 r57.2.2.1.To.x3 :: .int .u8 r57.2.2.1.To.x4 :: .int .u8 r57.2.2.1.To.x5 :: .int .u8 r57.2.2.1.Enter.x0 :: .int .u8 r57.2.2.1.Enter.x1 :: .int .u8 r57.2.2.1.Enter.x2 :: .int .u8 r57.2.2.1.Enter.x3 :: .int .u8 r57.2.2.1.Enter.x4 :: .int .u8 r57.2.2.1.Enter.x5 :: .int .u8 r57.2.2.1.Leave.x0 :: .int .u8 r57.2.2.1.Leave.x1 :: .int .u8 r57.2.2.1.Leave.x2 :: .int .u8 r57.2.2.1.Leave.x3 :: .int .u8 r57.2.2.1.Leave.x4 :: .int .u8 r57.2.2.1.Leave.x5 :: .int .u8 r57.2.2.1.Source.x0 :: .int .u8 r57.2.2.1.Source.x1 :: .int .u8 r57.2.2.1.Source.x2 :: .int .u8 r57.2.2.1.Source.x3 :: .int .u8 r57.2.2.1.Source.x4 :: .int .u8 r57.2.2.1.Source.x5 :: .int .u8 r57.2.2.1.Target.x0 :: .int .u8 r57.2.2.1.Target.x1 :: .int .u8 r57.2.2.1.Target.x2 :: .int .u8 r57.2.2.1.Target.x3 :: .int .u8 r57.2.2.1.Target.x4 :: .int .u8 r57.2.2.1.Target.x5 :: .int .i64 r57.2.2.1.Seq :: .int .i64 r57.2.2.1.Ttl :: .ro 1 r57.2.2.1.Data.length false (enR c_u8 r57.2.2.1.Data) :: []), .dead]) H ?_ (fun s o H hn1_2 hn2_2 => ?_) (fun e H => ?_)
      · refine SubF_of ⟨[some 0, some 1, some 2, some 3, some 4, some 5, some 6, some 7, some 7], ?_, ?_, by rfl, by rfl⟩
        · simp [CvL, Cv, getM, tp]
        · exact ⟨CvB_dead, CvB_dead, CvB_dead, (CvB_same nfA), CvB_dead, CvB_dead, cv, CvB_dead, CvB_row nr_b cl (upc_row (f := c_b) w59 ((wr .i64 (p1.tmod 8)).toNat) 0 true (fun _ _ _ _ => rfl) (fun y hy => match y, hy with | 0, _ => rfl | (y+1), h => absurd h nlt)), trivial⟩
      · obtain ⟨v2_1, v2_2, v2_3⟩ := s
        unfold F6_L2 at H
        try dsimp only at H ⊢
        try simp only [tp]
        refine seqM ?_
        refine seqM ?_
        obtain ⟨f65, H⟩ := need_some.1 H
        replace f65 := g_iff.1 f65
        replace f65 := fun g => inb_iff.1 (f65 g)
        obtain ⟨f66, H⟩ := need_some.1 H
        replace f66 := g_iff.1 f66
        replace f66 := fun g => inb_iff.1 (f66 g)
        refine rg ctNo_ok ?_
        simp only [go_sem, Nat.reduceLeDiff, Nat.reduceLT, Nat.reduceAdd, Nat.reduceMul, Nat.reduceSub, Nat.reduceEqDiff, Nat.reduceBEq, Int.reduceToNat, reduceCtorEq]
        repeat ((with_reducible refine And.intro ?_ ?_); focus (first | (with_reducible trivial) | omega | exact f65 | exact f66 | (intro g; have q := f65 (by first | exact g | (rw [g]; rfl) | simpa using g); first | exact q | exact ⟨q.1, q.2.1⟩ | exact q.2.2 | omega | exact ⟨g, q⟩ | exact ⟨trivial, q⟩ | exact ⟨g, q.1, q.2.1⟩ | exact ⟨g, q.2.2⟩) | (intro g; have q := f66 (by first | exact g | (rw [g]; rfl) | simpa using g); first | exact q | exact ⟨q.1, q.2.1⟩ | exact q.2.2 | omega | exact ⟨g, q⟩ | exact ⟨trivial, q⟩ | exact ⟨g, q.1, q.2.1⟩ | exact ⟨g, q.2.2⟩) | grind))
        refine condM' rfl trivial (fun hc => ?_) (fun hc => ?_)
        · replace H := cond_f hc H
          refine rg ctNo_ok ?_
          simp only [go_sem, Nat.reduceLeDiff, Nat.reduceLT, Nat.reduceAdd, Nat.reduceMul, Nat.reduceSub, Nat.reduceEqDiff, Nat.reduceBEq, Int.reduceToNat, reduceCtorEq]
          refine ⟨_, (Option.some.inj H).symm, ?_⟩
          refine SubF_of ⟨[some 0, some 1, some 2, some 3, some 4, some 5, some 6, some 7], ?_, ?_, by rfl, by rfl⟩
          · simp [CvL, Cv, getM, tp]
          · exact ⟨CvB_dead, CvB_dead, CvB_dead, CvB_dead, CvB_dead, CvB_dead, cv, CvB_dead, trivial⟩
        replace H := cond_t hc H
        refine rg ctNo_ok ?_
        simp only [go_sem, Nat.reduceLeDiff, Nat.reduceLT, Nat.reduceAdd, Nat.reduceMul, Nat.reduceSub, Nat.reduceEqDiff, Nat.reduceBEq, Int.reduceToNat, reduceCtorEq]
        refine seqM ?_
        refine blkM ?_
        refine seqM ?_
        refine seqM ?_
        obtain ⟨f67, H⟩ := need_some.1 H
        replace f67 := g_iff.1 f67
        replace f67 := fun g => inb_iff.1 (f67 g)
        refine rg ctNo_ok ?_
        simp only [go_sem, Nat.reduceLeDiff, Nat.reduceLT, Nat.reduceAdd, Nat.reduceMul, Nat.reduceSub, Nat.reduceEqDiff, Nat.reduceBEq, Int.reduceToNat, reduceCtorEq]
        repeat ((with_reducible refine And.intro ?_ ?_); focus (first | (with_reducible trivial) | omega | exact f67 | (intro g; have q := f67 (by first | exact g | (rw [g]; rfl) | simpa using g); first | exact q | exact ⟨q.1, q.2.1⟩ | exact q.2.2 | omega | exact ⟨g, q⟩ | exact ⟨trivial, q⟩ | exact ⟨g, q.1, q.2.1⟩ | exact ⟨g, q.2.2⟩) | (intro g; (try have q0 := f67 (by first | exact g | (rw [g]; rfl) | simpa using g)); and_intros <;> first | (with_reducible trivial) | assumption | exact nfc | (intro g2; rw [g, g2]; rfl) | (intro g2; assumption) | (simp only [g, Bool.true_and, Bool.and_true, Bool.not_false, Bool.not_true]; assumption) | grind) | (and_intros <;> first | (with_reducible trivial) | omega | assumption | exact nfc | first | exact rfl | exact trivial | exact fitI | exact .inr rfl | exact .inl rfl | exact fun x hx => absurd hx (by omega)) | grind))
        refine condM rfl trivial (fun hc => ?_) (fun hc => ?_)
        · replace H := cond_t hc H
          refine sq ctNo_ok ?_
          simp only [go_sem, Nat.reduceLeDiff, Nat.reduceLT, Nat.reduceAdd, Nat.reduceMul, Nat.reduceSub, Nat.reduceEqDiff, Nat.reduceBEq, Int.reduceToNat, reduceCtorEq]
          refine rg ctNo_ok ?_
          simp only [go_sem, Nat.reduceLeDiff, Nat.reduceLT, Nat.reduceAdd, Nat.reduceMul, Nat.reduceSub, Nat.reduceEqDiff, Nat.reduceBEq, Int.reduceToNat, reduceCtorEq]
          have H := hn2_2 _ (Option.some.inj H).symm
          obtain rfl := Option.some.inj H
          first | rfl | simp only [Bool.and_false, Bool.false_and, Bool.and_true, Bool.true_and]
        replace H := cond_f hc H
        refine rg ctNo_ok ?_
        simp only [go_sem, Nat.reduceLeDiff, Nat.reduceLT, Nat.reduceAdd, Nat.reduceMul, Nat.reduceSub, Nat.reduceEqDiff, Nat.reduceBEq, Int.reduceToNat, reduceCtorEq]
        refine seqM ?_
        obtain ⟨f68, H⟩ := need_some.1 H
        replace f68 := inb_iff.1 f68
        obtain ⟨f69, H⟩ := need_some.1 H
        replace f69 := inb_iff.1 f69
        refine rg ctNo_ok ?_
        simp only [go_sem, Nat.reduceLeDiff, Nat.reduceLT, Nat.reduceAdd, Nat.reduceMul, Nat.reduceSub, Nat.reduceEqDiff, Nat.reduceBEq, Int.reduceToNat, reduceCtorEq, f68, f69]
        repeat ((with_reducible refine And.intro ?_ ?_); focus exact an2)
        refine rg ctNo_ok ?_
        simp only [go_sem, Nat.reduceLeDiff, Nat.reduceLT, Nat.reduceAdd, Nat.reduceMul, Nat.reduceSub, Nat.reduceEqDiff, Nat.reduceBEq, Int.reduceToNat, reduceCtorEq]
        obtain ⟨f70, H⟩ := need_some.1 H
        replace f70 := inb_iff.1 f70
        obtain ⟨f71, H⟩ := need_some.1 H
        replace f71 := inb_iff.1 f71
        refine rg ctNo_ok ?_
        simp only [go_sem, Nat.reduceLeDiff, Nat.reduceLT, Nat.reduceAdd, Nat.reduceMul, Nat.reduceSub, Nat.reduceEqDiff, Nat.reduceBEq, Int.reduceToNat, reduceCtorEq, f70, f71]
        repeat ((with_reducible refine And.intro ?_ ?_); focus exact an2)
        refine ⟨_, (Option.some.inj H).symm, ?_⟩
        refine SubF_of ⟨[some 0, some 1, some 2, some 3, some 4, some 5, some 6, some 7, some 8], ?_, ?_, by rfl, by rfl⟩
        · simp [CvL, Cv, getM, tp]
        · exact ⟨CvB_dead, CvB_dead, CvB_dead, (CvB_same nfA), CvB_dead, CvB_dead, cv, CvB_dead, CvB_row nr_b cl (upc_row (f := c_b) v2_1 v2_2.toNat 0 true (fun _ _ _ _ => rfl) (fun y hy => match y, hy with | 0, _ => rfl | (y+1), h => absurd h nlt)), trivial⟩
      · obtain ⟨w2_4, w2_5⟩ := e
        try dsimp only at H ⊢
        try simp only [tp]
        try simp only [m_normal, k_normal, b_normal, kL_normal, r_normal]
        refine seqM ?_
        refine blkM ?_
        refine sq ctNo_ok ?_
        simp only [go_sem, Nat.reduceLeDiff, Nat.reduceLT, Nat.reduceAdd, Nat.reduceMul, Nat.reduceSub, Nat.reduceEqDiff, Nat.reduceBEq, Int.reduceToNat, reduceCtorEq]
        refine condM rfl trivial (fun hc => ?_) (fun hc => ?_)
        · replace H := cond_t hc H
          refine seqM ?_
          obtain ⟨f72, H⟩ := need_some.1 H
          replace f72 := g_iff.1 f72
          replace f72 := fun g => inb_iff.1 (f72 g)
          refine rg ctNo_ok ?_
          simp only [go_sem, Nat.reduceLeDiff, Nat.reduceLT, Nat.reduceAdd, Nat.reduceMul, Nat.reduceSub, Nat.reduceEqDiff, Nat.reduceBEq, Int.reduceToNat, reduceCtorEq]
          repeat ((with_reducible refine And.intro ?_ ?_); focus (first | (with_reducible trivial) | omega | exact f72 | (intro g; have q := f72 (by first | exact g | (rw [g]; rfl) | simpa using g); first | exact q | exact ⟨q.1, q.2.1⟩ | exact q.2.2 | omega | exact ⟨g, q⟩ | exact ⟨trivial, q⟩ | exact ⟨g, q.1, q.2.1⟩ | exact ⟨g, q.2.2⟩) | (intro g; (try have q0 := f72 (by first | exact g | (rw [g]; rfl) | simpa using g)); and_intros <;> first | (with_reducible trivial) | assumption | exact nfc | (intro g2; rw [g, g2]; rfl) | (intro g2; assumption) | (simp only [g, Bool.true_and, Bool.and_true, Bool.not_false, Bool.not_true]; assumption) | grind) | (and_intros <;> first | (with_reducible trivial) | omega | assumption | exact nfc | first | exact rfl | exact trivial | exact fitI | exact .inr rfl | exact .inl rfl | exact fun x hx => absurd hx (by omega)) | grind))
          refine seqM ?_
          obtain ⟨f73, H⟩ := need_some.1 H
          replace f73 := g_iff.1 f73
          obtain ⟨f74, H⟩ := need_some.1 H
          replace f74 := g_iff.1 f74
          obtain ⟨f75, H⟩ := need_some.1 H
          replace f75 := g_iff.1 f75
          obtain ⟨f76, H⟩ := need_some.1 H
          replace f76 := g_iff.1 f76
          obtain ⟨f77, H⟩ := need_some.1 H
          replace f77 := g_iff.1 f77
          refine draw_quiet shT_ok ct6t5_ok (by kernel_rfl) (by kernel_rfl) ?_
          simp only [go_sem, Nat.reduceLeDiff, Nat.reduceLT, Nat.reduceAdd, Nat.reduceMul, Nat.reduceSub, Nat.reduceEqDiff, Nat.reduceBEq, Int.reduceToNat, reduceCtorEq, ct6t5_16, body16, ct6t5_31, body31]
          repeat ((with_reducible refine And.intro ?_ ?_); focus (first | (with_reducible trivial) | omega | exact f73 | exact f74 | exact f75 | exact f76 | exact f77 | (intro g; have q := f73 (by first | exact g | (rw [g]; rfl) | simpa using g); first | exact q | exact ⟨q.1, q.2.1⟩ | exact q.2.2 | omega | exact ⟨g, q⟩ | exact ⟨trivial, q⟩ | exact ⟨g, q.1, q.2.1⟩ | exact ⟨g, q.2.2⟩) | (intro g; have q := f74 (by first | exact g | (rw [g]; rfl) | simpa using g); first | exact q | exact ⟨q.1, q.2.1⟩ | exact q.2.2 | omega | exact ⟨g, q⟩ | exact ⟨trivial, q⟩ | exact ⟨g, q.1, q.2.1⟩ | exact ⟨g, q.2.2⟩) | (intro g; have q := f75 (by first | exact g | (rw [g]; rfl) | simpa using g); first | exact q | exact ⟨q.1, q.2.1⟩ | exact q.2.2 | omega | exact ⟨g, q⟩ | exact ⟨trivial, q⟩ | exact ⟨g, q.1, q.2.1⟩ | exact ⟨g, q.2.2⟩) | (intro g; have q := f76 (by first | exact g | (rw [g]; rfl) | simpa using g); first | exact q | exact ⟨q.1, q.2.1⟩ | exact q.2.2 | omega | exact ⟨g, q⟩ | exact ⟨trivial, q⟩ | exact ⟨g, q.1, q.2.1⟩ | exact ⟨g, q.2.2⟩) | (intro g; have q := f77 (by first | exact g | (rw [g]; rfl) | simpa using g); first | exact q | exact ⟨q.1, q.2.1⟩ | exact q.2.2 | omega | exact ⟨g, q⟩ | exact ⟨trivial, q⟩ | exact ⟨g, q.1, q.2.1⟩ | exact ⟨g, q.2.2⟩) | (intro g; (try have q0 := f73 (by first | exact g | (rw [g]; rfl) | simpa using g)); (try have q1 := f74 (by first | exact g | (rw [g]; rfl) | simpa using g)); (try have q2 := f75 (by first | exact g | (rw [g]; rfl) | simpa using g)); (try have q3 := f76 (by first | exact g | (rw [g]; rfl) | simpa using g)); (try have q4 := f77 (by first | exact g | (rw [g]; rfl) | simpa using g)); and_intros <;> first | (with_reducible trivial) | assumption | exact nfc | (intro g2; rw [g, g2]; rfl) | (intro g2; assumption) | (simp only [g, Bool.true_and, Bool.and_true, Bool.not_false, Bool.not_true]; assumption) | grind) | (and_intros <;> first | (with_reducible trivial) | omega | assumption | exact nfc | first | exact rfl | exact trivial | exact fitI | exact .inr rfl | exact .inl rfl | exact fun x hx => absurd hx (by omega)) | grind))
          refine rg ctNo_ok ?_
          simp only [go_sem, Nat.reduceLeDiff, Nat.reduceLT, Nat.reduceAdd, Nat.reduceMul, Nat.reduceSub, Nat.reduceEqDiff, Nat.reduceBEq, Int.reduceToNat, reduceCtorEq]
          obtain rfl := Option.some.inj H
          first | rfl | simp only [Bool.and_false, Bool.false_and, Bool.and_true, Bool.true_and]
        replace H := cond_f hc H
        refine sq ctNo_ok ?_
        simp only [go_sem, Nat.reduceLeDiff, Nat.reduceLT, Nat.reduceAdd, Nat.reduceMul, Nat.reduceSub, Nat.reduceEqDiff, Nat.reduceBEq, Int.reduceToNat, reduceCtorEq]
        refine condM rfl trivial (fun hc => ?_) (fun hc => ?_)
        · replace H := cond_t hc H
          refine sq ctNo_ok ?_
          simp only [go_sem, Nat.reduceLeDiff, Nat.reduceLT, Nat.reduceAdd, Nat.reduceMul, Nat.reduceSub, Nat.reduceEqDiff, Nat.reduceBEq, Int.reduceToNat, reduceCtorEq]
          repeat ((with_reducible refine And.intro ?_ ?_); focus exact an5)
          refine rg ctNo_ok ?_
          simp only [go_sem, Nat.reduceLeDiff, Nat.reduceLT, Nat.reduceAdd, Nat.reduceMul, Nat.reduceSub, Nat.reduceEqDiff, Nat.reduceBEq, Int.reduceToNat, reduceCtorEq]
          obtain rfl := Option.some.inj H
          first | rfl | simp only [Bool.and_false, Bool.false_and, Bool.and_true, Bool.true_and]
        replace H := cond_f hc H
        refine rg ctNo_ok ?_
        simp only [go_sem, Nat.reduceLeDiff, Nat.reduceLT, Nat.reduceAdd, Nat.reduceMul, Nat.reduceSub, Nat.reduceEqDiff, Nat.reduceBEq, Int.reduceToNat, reduceCtorEq]
        refine seqM ?_
        obtain ⟨f78, H⟩ := need_some.1 H
        replace f78 := g_iff.1 f78
        replace f78 := fun g => inb_iff.1 (f78 g)
        refine rg ctNo_ok ?_
        simp only [go_sem, Nat.reduceLeDiff, Nat.reduceLT, Nat.reduceAdd, Nat.reduceMul, Nat.reduceSub, Nat.reduceEqDiff, Nat.reduceBEq, Int.reduceToNat, reduceCtorEq]
        repeat ((with_reducible refine And.intro ?_ ?_); focus (first | (with_reducible trivial) | omega | exact f78 | (intro g; have q := f78 (by first | exact g | (rw [g]; rfl) | simpa using g); first | exact q | exact ⟨q.1, q.2.1⟩ | exact q.2.2 | omega | exact ⟨g, q⟩ | exact ⟨trivial, q⟩ | exact ⟨g, q.1, q.2.1⟩ | exact ⟨g, q.2.2⟩) | (intro g; (try have q0 := f78 (by first | exact g | (rw [g]; rfl) | simpa using g)); and_intros <;> first | (with_reducible trivial) | assumption | exact nfc | (intro g2; rw [g, g2]; rfl) | (intro g2; assumption) | (simp only [g, Bool.true_and, Bool.and_true, Bool.not_false, Bool.not_true]; assumption) | grind) | (and_intros <;> first | (with_reducible trivial) | omega | assumption | exact nfc | first | exact rfl | exact trivial | exact fitI | exact .inr rfl | exact .inl rfl | exact fun x hx => absurd hx (by omega)) | grind))
        refine rg ctNo_ok ?_
        simp only [go_sem, Nat.reduceLeDiff, Nat.reduceLT, Nat.reduceAdd, Nat.reduceMul, Nat.reduceSub, Nat.reduceEqDiff, Nat.reduceBEq, Int.reduceToNat, reduceCtorEq]
        obtain rfl := Option.some.inj H
        first | rfl | simp only [Bool.and_false, Bool.false_and, Bool.and_true, Bool.true_and]
  · cases hb
end Go.Proofs.Ytbahnppiobafoaa
