/-
  What RegulateQuiet reaches.
-/
import Derived.Test.YtjhkehdbjnhplaaY8p3
namespace Go.Proofs.Ytjhkehdbjnhplaa
open Go.Am
set_option linter.unusedVariables false
set_option linter.unusedSimpArgs false
noncomputable def ct8t0 : Ct := tab [(15, pureC body15)]
theorem ct8t0_ok : CtOk Try.prog ct8t0 := tab_cons ok15 <| tab_nil
theorem ct8t0_15 (l : List AV) (h : List ABlk) : ct8t0 15 l h = pureC body15 l h := rfl
noncomputable def ct8t1 : Ct := tab [(25, edC body25), (43, edC body43)]
theorem ct8t1_ok : CtOk Try.prog ct8t1 := tab_cons ok25 <| tab_cons ok43 <| tab_nil
theorem ct8t1_25 (l : List AV) (h : List ABlk) : ct8t1 25 l h = edC body25 l h := rfl
theorem ct8t1_43 (l : List AV) (h : List ABlk) : ct8t1 43 l h = edC body43 l h := rfl
noncomputable def ct8t2 : Ct := tab [(22, edC body22)]
theorem ct8t2_ok : CtOk Try.prog ct8t2 := tab_cons ok22 <| tab_nil
theorem ct8t2_22 (l : List AV) (h : List ABlk) : ct8t2 22 l h = edC body22 l h := rfl
noncomputable def ct8t3 : Ct := tab [(17, pureC body17)]
theorem ct8t3_ok : CtOk Try.prog ct8t3 := tab_cons ok17 <| tab_nil
theorem ct8t3_17 (l : List AV) (h : List ABlk) : ct8t3 17 l h = pureC body17 l h := rfl
noncomputable def ct8t4 : Ct := tab [(23, edC body23)]
theorem ct8t4_ok : CtOk Try.prog ct8t4 := tab_cons ok23 <| tab_nil
theorem ct8t4_23 (l : List AV) (h : List ABlk) : ct8t4 23 l h = edC body23 l h := rfl
noncomputable def ct8t5 : Ct := tab [(36, edC body36)]
theorem ct8t5_ok : CtOk Try.prog ct8t5 := tab_cons ok36 <| tab_nil
theorem ct8t5_36 (l : List AV) (h : List ABlk) : ct8t5 36 l h = edC body36 l h := rfl
noncomputable def F8_L1 (p0 : Int) (v1_1 : Int) (v1_2 : List TRegulate) : Option (Lp (Int × (List TRegulate)) ((List TRegulate) ⊕ (Bool))) :=
  bif (bLe v1_1 p0) then ((F43).bind fun r7 => (F25 r7 1 (bEq v1_1 0) 0).bind fun r9 => bif (!bEq r9.2 0) then ((some false).bind fun q12 => some (.done (.inr q12))) else (need (capb 120 (v1_2.length + 1)) <| some (.next (wr .i64 (v1_1 + 1), (v1_2 ++ [r9.1]))))) else (some (.done (.inl v1_2)))
noncomputable def F8_L4 (p1 : List TEvent) (v2_1 : Int) (v2_3 : List TRegulate) : Option (Lp (Unit) ((Int) ⊕ (Bool))) :=
  bif ((bEq ((gd p1 v2_1.toNat).Kind) 0) || (bEq ((gd p1 v2_1.toNat).Kind) 2)) then (some (.done (.inl 0))) else (some (.done (.inl (((gd p1 v2_1.toNat).Who).tmod (v2_3.length : Nat)))))
noncomputable def F8_L5 (p1 : List TEvent) (v2_1 : Int) : Option (Lp (Unit) ((Bool) ⊕ (Bool))) :=
  bif (bEq ((gd p1 v2_1.toNat).Kind) 0) then (some (.done (.inl (bEq ((gd p1 v2_1.toNat).Kind) 0)))) else (some (.done (.inl (bEq ((gd p1 v2_1.toNat).Kind) 1))))
noncomputable def F8_L6 (p1 : List TEvent) (v2_1 : Int) (v2_2 : Int) (v2_3 : List TRegulate) (v2_5 : List (Int × Int)) (w4_1 : Int) (r30 : TRegulate × (List TRegulateWord) × Int) : Option (Lp (Unit) ((List (Int × Int)) ⊕ (Bool))) :=
  bif (((bEq w4_1 0) && r30.1.Stopped) && (!((gd v2_3 w4_1.toNat).Stopped))) then (need (decide (v2_5.length < 999999999)) <| some (.done (.inl (updM v2_5 ((gd v2_3 w4_1.toNat).Channel) (wr .i64 (v2_2 + ((gd p1 v2_1.toNat).Wait))))))) else (some (.done (.inl v2_5)))
noncomputable def F8_L7 (v2_3 : List TRegulate) (w4_1 : Int) (r30 : TRegulate × (List TRegulateWord) × Int) (w6_4 : List (Int × Int)) : Option (Lp (Unit) ((List (Int × Int)) ⊕ (Bool))) :=
  bif ((bEq w4_1 0) && (!bEq r30.1.Channel ((gd v2_3 w4_1.toNat).Channel))) then (some (.done (.inl (delM w6_4 r30.1.Channel)))) else (some (.done (.inl w6_4)))
noncomputable def F8_L8 (p1 : List TEvent) (v2_1 : Int) (v2_2 : Int) (v2_3 : List TRegulate) (v2_4 : List TRegulateWord) (w4_1 : Int) (r40 : Bool × Int) : Option (Lp (Unit) ((List TRegulateWord) ⊕ (Bool))) :=
  bif r40.1 then (need (capb 32 (v2_4.length + 1)) <| some (.done (.inl (v2_4 ++ [(TRegulateWord.mk 3 ((gd v2_3 w4_1.toNat).Channel) 0 (wr .i64 (v2_2 + ((gd p1 v2_1.toNat).Wait))))])))) else (some (.done (.inl v2_4)))
noncomputable def F8_L9 (p1 : List TEvent) (v2_1 : Int) (v2_2 : Int) (v2_3 : List TRegulate) (v2_5 : List (Int × Int)) (w4_1 : Int) (r49 : TRegulate × (List TRegulateWord) × Int) : Option (Lp (Unit) ((List (Int × Int)) ⊕ (Bool))) :=
  bif (((bEq w4_1 0) && r49.1.Stopped) && (!((gd v2_3 w4_1.toNat).Stopped))) then (need (decide (v2_5.length < 999999999)) <| some (.done (.inl (updM v2_5 ((gd v2_3 w4_1.toNat).Channel) (wr .i64 (v2_2 + ((gd p1 v2_1.toNat).Wait))))))) else (some (.done (.inl v2_5)))
noncomputable def F8_L10 (v2_3 : List TRegulate) (w4_1 : Int) (r49 : TRegulate × (List TRegulateWord) × Int) (w9_4 : List (Int × Int)) : Option (Lp (Unit) ((List (Int × Int)) ⊕ (Bool))) :=
  bif ((bEq w4_1 0) && (!bEq r49.1.Channel ((gd v2_3 w4_1.toNat).Channel))) then (some (.done (.inl (delM w9_4 r49.1.Channel)))) else (some (.done (.inl w9_4)))
noncomputable def F8_L11 (p1 : List TEvent) (v2_1 : Int) (v2_2 : Int) (v2_3 : List TRegulate) (v2_5 : List (Int × Int)) (w4_1 : Int) (r58 : TRegulate × (List TRegulateWord) × Int) : Option (Lp (Unit) ((List (Int × Int)) ⊕ (Bool))) :=
  bif (((bEq w4_1 0) && r58.1.Stopped) && (!((gd v2_3 w4_1.toNat).Stopped))) then (need (decide (v2_5.length < 999999999)) <| some (.done (.inl (updM v2_5 ((gd v2_3 w4_1.toNat).Channel) (wr .i64 (v2_2 + ((gd p1 v2_1.toNat).Wait))))))) else (some (.done (.inl v2_5)))
noncomputable def F8_L12 (v2_3 : List TRegulate) (w4_1 : Int) (r58 : TRegulate × (List TRegulateWord) × Int) (w11_4 : List (Int × Int)) : Option (Lp (Unit) ((List (Int × Int)) ⊕ (Bool))) :=
  bif ((bEq w4_1 0) && (!bEq r58.1.Channel ((gd v2_3 w4_1.toNat).Channel))) then (some (.done (.inl (delM w11_4 r58.1.Channel)))) else (some (.done (.inl w11_4)))
noncomputable def F8_L3 (p1 : List TEvent) (v2_1 : Int) (v2_2 : Int) (v2_3 : List TRegulate) (v2_4 : List TRegulateWord) (v2_5 : List (Int × Int)) : Option (Lp (Unit) ((Bool × (List TRegulate) × (List TRegulateWord) × (List (Int × Int))) ⊕ (Bool))) :=
  need (!(bEq (v2_3.length : Nat) 0)) <| lp (loopD (fun s => F8_L4 p1 v2_1 v2_3) ()) (fun w4_1 => need (inb w4_1 v2_3.length) <| lp (loopD (fun s => F8_L5 p1 v2_1) ()) (fun w5_1 => bif w5_1 then ((F22 (gd v2_3 w4_1.toNat) ((gd p1 v2_1.toNat).Pick) (wr .i64 (v2_2 + ((gd p1 v2_1.toNat).Wait)))).bind fun r30 => bif (!bEq r30.2.2 0) then (some (.done (.inl ((((bEq r30.2.2 20) || (bEq r30.2.2 21)) && (bLe ((gd p1 v2_1.toNat).Kind) 3)), v2_3, v2_4, v2_5)))) else (lp (loopD (fun s => F8_L6 p1 v2_1 v2_2 v2_3 v2_5 w4_1 r30) ()) (fun w6_4 => lp (loopD (fun s => F8_L7 v2_3 w4_1 r30 w6_4) ()) (fun w7_4 => need (inb w4_1 v2_3.length) <| need (capb 32 (v2_4.length + r30.2.1.length)) <| some (.done (.inl (true, (v2_3.set w4_1.toNat r30.1), (v2_4 ++ r30.2.1), w7_4)))) (fun r => some (.done (.inr r)))) (fun r => some (.done (.inr r))))) else (bif (bEq ((gd p1 v2_1.toNat).Kind) 2) then ((F17 (gd v2_3 w4_1.toNat) 0 (wr .i64 (v2_2 + ((gd p1 v2_1.toNat).Wait)))).bind fun r40 => bif (!bEq r40.2 0) then (some (.done (.inl (false, v2_3, v2_4, v2_5)))) else (lp (loopD (fun s => F8_L8 p1 v2_1 v2_2 v2_3 v2_4 w4_1 r40) ()) (fun w8_2 => some (.done (.inl (true, v2_3, w8_2, v2_5)))) (fun r => some (.done (.inr r))))) else (bif (bEq ((gd p1 v2_1.toNat).Kind) 3) then (bif (bEq (v2_4.length : Nat) 0) then (some (.done (.inl (true, v2_3, v2_4, v2_5)))) else (need (!(bEq (v2_4.length : Nat) 0)) <| need (inb (((gd p1 v2_1.toNat).Pick).tmod (v2_4.length : Nat)) v2_4.length) <| (F36 (gd v2_3 w4_1.toNat) (gd v2_4 ((((gd p1 v2_1.toNat).Pick).tmod (v2_4.length : Nat)).toNat)) ((gd p1 v2_1.toNat).Pick) (wr .i64 (v2_2 + ((gd p1 v2_1.toNat).Wait)))).bind fun r49 => bif (!bEq r49.2.2 0) then (some (.done (.inl ((((bEq r49.2.2 20) || (bEq r49.2.2 21)) && (bLe ((gd p1 v2_1.toNat).Kind) 3)), v2_3, v2_4, v2_5)))) else (lp (loopD (fun s => F8_L9 p1 v2_1 v2_2 v2_3 v2_5 w4_1 r49) ()) (fun w9_4 => lp (loopD (fun s => F8_L10 v2_3 w4_1 r49 w9_4) ()) (fun w10_4 => need (inb w4_1 v2_3.length) <| need (capb 32 (v2_4.length + r49.2.1.length)) <| some (.done (.inl (true, (v2_3.set w4_1.toNat r49.1), (v2_4 ++ r49.2.1), w10_4)))) (fun r => some (.done (.inr r)))) (fun r => some (.done (.inr r)))))) else ((F23 (gd v2_3 w4_1.toNat) (wr .i64 (v2_2 + ((gd p1 v2_1.toNat).Wait)))).bind fun r58 => bif (!bEq r58.2.2 0) then (some (.done (.inl ((((bEq r58.2.2 20) || (bEq r58.2.2 21)) && (bLe ((gd p1 v2_1.toNat).Kind) 3)), v2_3, v2_4, v2_5)))) else (lp (loopD (fun s => F8_L11 p1 v2_1 v2_2 v2_3 v2_5 w4_1 r58) ()) (fun w11_4 => lp (loopD (fun s => F8_L12 v2_3 w4_1 r58 w11_4) ()) (fun w12_4 => need (inb w4_1 v2_3.length) <| need (capb 32 (v2_4.length + r58.2.1.length)) <| some (.done (.inl (true, (v2_3.set w4_1.toNat r58.1), (v2_4 ++ r58.2.1), w12_4)))) (fun r => some (.done (.inr r)))) (fun r => some (.done (.inr r)))))))) (fun r => some (.done (.inr r)))) (fun r => some (.done (.inr r)))
noncomputable def F8_L13 (p1 : List TEvent) (v2_1 : Int) (v2_2 : Int) (w3_2 : List TRegulate) (w3_4 : List (Int × Int)) (v13_1 : Int) : Option (Lp (Int) ((Unit) ⊕ (Lp (Int × Int × (List TRegulate) × (List TRegulateWord) × (List (Int × Int))) ((Unit) ⊕ (Bool))))) :=
  bif (bLt v13_1 (w3_2.length : Nat)) then (need (inb v13_1 w3_2.length) <| need (inb v13_1 w3_2.length) <| (F17 (gd w3_2 v13_1.toNat) 0 (wr .i64 (v2_2 + ((gd p1 v2_1.toNat).Wait)))).bind fun r73 => bif ((!bEq r73.2 0) || (((lkp w3_4 ((gd w3_2 v13_1.toNat).Channel)).isSome && r73.1) && (bLt (wr .i64 (((lkp w3_4 ((gd w3_2 v13_1.toNat).Channel)).getD 0) + 500000)) (wr .i64 (v2_2 + ((gd p1 v2_1.toNat).Wait)))))) then (((some false).bind fun q76 => some (.done (.inr q76))).bind fun q78 => some (.done (.inr q78))) else (some (.next (wr .i64 (v13_1 + 1))))) else (some (.done (.inl ())))
noncomputable def F8_L2 (p1 : List TEvent) (v2_1 : Int) (v2_2 : Int) (v2_3 : List TRegulate) (v2_4 : List TRegulateWord) (v2_5 : List (Int × Int)) : Option (Lp (Int × Int × (List TRegulate) × (List TRegulateWord) × (List (Int × Int))) ((Unit) ⊕ (Bool))) :=
  bif (bLt v2_1 (p1.length : Nat)) then (need (inb v2_1 p1.length) <| need (bif (!(bLt ((gd p1 v2_1.toNat).Wait) 0)) then inb v2_1 p1.length else true) <| need (bif (!((bLt ((gd p1 v2_1.toNat).Wait) 0) || (bLt 1000000 ((gd p1 v2_1.toNat).Wait)))) then inb v2_1 p1.length else true) <| need (bif (!(((bLt ((gd p1 v2_1.toNat).Wait) 0) || (bLt 1000000 ((gd p1 v2_1.toNat).Wait))) || (bLt ((gd p1 v2_1.toNat).Who) 0))) then inb v2_1 p1.length else true) <| bif ((((bLt ((gd p1 v2_1.toNat).Wait) 0) || (bLt 1000000 ((gd p1 v2_1.toNat).Wait))) || (bLt ((gd p1 v2_1.toNat).Who) 0)) || (bLt ((gd p1 v2_1.toNat).Pick) 0)) then ((some true).bind fun q21 => some (.done (.inr q21))) else (need (inb v2_1 p1.length) <| need (inb v2_1 p1.length) <| lp (loopD (fun s => F8_L3 p1 v2_1 v2_2 v2_3 v2_4 v2_5) ()) (fun e3 => bif (!e3.1) then ((some false).bind fun q68 => some (.done (.inr q68))) else (lp (loopD (fun s => F8_L13 p1 v2_1 v2_2 e3.2.1 e3.2.2.2 s) 0) (fun _ => some (.next (wr .i64 (v2_1 + 1), wr .i64 (v2_2 + ((gd p1 v2_1.toNat).Wait)), e3.2.1, e3.2.2.1, e3.2.2.2))) some)) (fun r => some (.done (.inr r))))) else (some (.done (.inl ())))
noncomputable def F8 (p0 : Int) (p1 : List TEvent) : Option (Bool) :=
  (F15).bind fun r1 => bif ((((bLt p0 1) || (bLt 5 p0)) || (bLt 150 (p1.length : Nat))) || (!r1)) then (some r1) else (bif r1 then (lp (loopD (fun s => F8_L1 p0 s.1 s.2) (0, [])) (fun w1_3 => lp (loopD (fun s => F8_L2 p1 s.1 s.2.1 s.2.2.1 s.2.2.2.1 s.2.2.2.2) (0, 0, w1_3, [], ([] : List (Int × Int)))) (fun _ => some true) some) some) else (some false))
noncomputable def body8 : List AV -> AR
  | [v0, v1] => .pure (iK .i64 v0 /\ lK k_TEvent 4 v1 /\ (F8 (iA v0) (lA g_TEvent v1)).isSome = true) (.bool (gt (F8 (iA v0) (lA g_TEvent v1))))
  | _ => .fail
set_option maxHeartbeats 4000000 in
set_option maxRecDepth 20000 in
theorem ok8 : FnOk Try.prog 8 (pureC body8) := by
  refine pure_fnM body8 (rs := [.tmp 4]) Try.func8 (by kernel_rfl) rfl rfl ?_
  intro l ob v hb hob
  unfold body8 at hb
  split at hb
  · rename_i v0 v1
    injection hb with q1 q2; subst q1 q2
    obtain ⟨hk0_0, hk1_0, hob⟩ := hob
    obtain ⟨r, H⟩ := Option.isSome_iff_exists.1 hob
    rw [H, gt_some]
    have hw0 := iK_wk hk0_0
    have hw1 := lK_wk (fun r h => w_TEvent h) hk1_0
    generalize iA v0 = p0 at H hw0
    generalize lA g_TEvent v1 = p1 at H hw1
    refine ⟨[.int .i64 p0, .ro 4 p1.length false (enR c_TEvent p1)], _, (fun E vs F => FR_wk1 hw0.1 F (fun vs F => FR_wk1 hw1.1 F (fun vs F => F))), rfl, rfl, ?_⟩
    rw [Try.ntmps8]
    simp only [List.length_cons, List.length_nil, Nat.reduceAdd, Nat.reduceSub, List.replicate_succ, List.replicate_zero, List.cons_append, List.nil_append]
    unfold F8 at H
    try dsimp only at H
    refine sq ctNo_ok ?_
    simp only [go_sem]
    refine seqM ?_
    obtain ⟨r1, e2, H⟩ := bsi H
    refine rg ct8t0_ok ?_
    simp only [go_sem, ct8t0_15, body15, e2]
    repeat ((with_reducible refine And.intro ?_ ?_); focus exact an0)
    refine seqM ?_
    refine sq ctNo_ok ?_
    simp only [go_sem]
    repeat ((with_reducible refine And.intro ?_ ?_); focus exact an1)
    refine condM rfl trivial (fun hc => ?_) (fun hc => ?_)
    · have hk3 : ((((bLt p0 1) || (bLt 5 p0)) || (bLt 150 (p1.length : Nat))) || (!r1)) = true := by simpa using hc
      replace H := cond_t hc H
      refine sq ctNo_ok ?_
      simp only [go_sem]
      refine rg ctNo_ok ?_
      simp only [go_sem]
      obtain rfl := Option.some.inj H
      first | rfl | simp only [Bool.and_false, Bool.false_and, Bool.and_true, Bool.true_and] | exact congrArg AV.bool (Eq.symm (by assumption))
    have hk3 : ((((bLt p0 1) || (bLt 5 p0)) || (bLt 150 (p1.length : Nat))) || (!r1)) = false := by simpa using hc
    replace H := cond_f hc H
    refine rg ctNo_ok ?_
    simp only [go_sem]
    refine seqM ?_
    refine bif_split (c := r1) (fun hg4 => ?_) (fun hg4 => ?_)
    · replace H := cond_t hg4 H
      refine regO ?_
      refine cutO shT_ok ctNo_ok 4 ?_
      simp only [kO_normal, List.take_succ_cons, List.take_zero, List.drop_succ_cons, List.drop_zero, go_sem, hg4]
      repeat ((with_reducible refine And.intro ?_ ?_); focus exact an1)
      refine inlG (rs := [.tmp 6]) Try.func40 (by kernel_rfl) rfl rfl Try.ntmps40 (caps := []) (tc := [.int .i64 p0, .ro 4 p1.length false (enR c_TEvent p1), .fn 41 []]) (by first | rfl | simp only [gok, go_sem, Nat.reduceLeDiff, Nat.reduceLT, Nat.reduceAdd, Nat.reduceMul, Nat.reduceSub, Nat.reduceEqDiff, Nat.reduceBEq, Int.reduceToNat, reduceCtorEq, hg4]) rfl (by simp only [go_sem]) rfl ?_
      simp only [List.length_cons, List.length_nil, Nat.reduceAdd, Nat.reduceSub, List.replicate_succ, List.replicate_zero, List.cons_append, List.nil_append]
      refine sq ctNo_ok ?_
      simp only [go_sem]
      refine seqM ?_
      refine regO ?_
      refine cutO shT_ok ctNo_ok 0 ?_
      simp only [kO_normal, List.take_zero, List.drop_zero, go_sem]
      refine makeMapO rfl rfl (fun mk5 => ?_)
      simp only [go_sem]
      refine cutO shT_ok ctNo_ok 3 ?_
      simp only [kO_normal, List.take_succ_cons, List.take_zero, List.drop_succ_cons, List.drop_zero, go_sem, Nat.reduceAdd]
      refine endO ?_
      refine seqM ?_
      refine sq ctNo_ok ?_
      simp only [go_sem]
      refine blkM ?_
      refine loop_den (fun s : Int × (List TRegulate) => (.int .i64 p0 :: .ro 4 p1.length false (enR c_TEvent p1) :: .fn 41 [] :: tp 4 (.ptr 1 0 0 0 :: .int .i64 s.1 :: tp 92 []))) (fun s => [.mapb mk5 ([] : List (Int × Int)), .lit 87 [.int .i64 0, .sl 2 10 0 s.2.length false, .ro 0 0 true (fun _ _ => .top), .val (.map (some mk5))], .row 39 10 s.2.length (enR c_TRegulate s.2)]) (fun e : List TRegulate => (.top :: .ro 4 p1.length false (enR c_TEvent p1) :: .fn 41 [] :: tp 4 (.ptr 1 0 0 0 :: tp 93 []))) (fun e => [.mapb mk5 ([] : List (Int × Int)), .lit 87 [.int .i64 0, .sl 2 10 0 e.length false, .ro 0 0 true (fun _ _ => .top), .val (.map (some mk5))], .row 39 10 e.length (enR c_TRegulate e)]) H ?_ (fun s o H hn1_1 hn2_1 => ?_) (fun w1_3 H => ?_)
      · refine SubF_of ⟨[some 0, some 1, none], ?_, ?_, by rfl, by rfl⟩
        · simp [CvL, Cv, getM, tp]
        · exact ⟨cv, cv, CvB_none, trivial⟩
      · obtain ⟨v1_1, v1_2⟩ := s
        unfold F8_L1 at H
        try dsimp only at H ⊢
        try simp only [tp]
        refine seqM ?_
        refine sq ctNo_ok ?_
        simp only [go_sem, Nat.reduceAdd]
        refine condM' rfl trivial (fun hc => ?_) (fun hc => ?_)
        · have hk6 : (bLe v1_1 p0) = false := by simpa using hc
          replace H := cond_f hc H
          refine rg ctNo_ok ?_
          simp only [go_sem]
          refine ⟨_, (Option.some.inj H).symm, ?_⟩
          refine SubF_of ⟨[some 0, some 1, some 2], ?_, ?_, by rfl, by rfl⟩
          · simp [CvL, Cv, getM]
          · exact ⟨cv, cv, CvB_row nr_TRegulate cl (fun _ _ _ _ => rfl), trivial⟩
        have hk6 : (bLe v1_1 p0) = true := by simpa using hc
        replace H := cond_t hc H
        refine rg ctNo_ok ?_
        simp only [go_sem]
        refine seqM ?_
        refine blkM ?_
        refine seqM ?_
        obtain ⟨r7, e8, H⟩ := bsi H
        obtain ⟨r9, e10, H⟩ := bsi H
        refine rg ct8t1_ok ?_
        simp only [go_sem, Nat.reduceLT, Nat.reduceAdd, ct8t1_25, body25, ct8t1_43, body43, e8, e10]
        repeat ((with_reducible refine And.intro ?_ ?_); focus exact an0)
        refine seqM ?_
        refine sq ctNo_ok ?_
        simp only [go_sem]
        refine condM rfl trivial (fun hc => ?_) (fun hc => ?_)
        · have hk11 : (bEq r9.2 0) = false := by simpa using hc
          replace H := cond_t hc H
          refine sq ctNo_ok ?_
          simp only [go_sem]
          refine rg ctNo_ok ?_
          simp only [go_sem]
          obtain ⟨q12, H, hq13⟩ := bsi H
          replace hq13 := hn2_1 _ (Option.some.inj hq13).symm
          obtain rfl := (Option.some.inj hq13).symm
          refine cutO shT_ok ctNo_ok 2 ?_
          simp only [kO_normal, List.take_succ_cons, List.take_zero, List.drop_succ_cons, List.drop_zero, go_sem]
          repeat ((with_reducible refine And.intro ?_ ?_); focus exact an1)
          refine endO ?_
          refine rg ctNo_ok ?_
          simp only [go_sem]
          obtain rfl := Option.some.inj H
          first | rfl | simp only [Bool.and_false, Bool.false_and, Bool.and_true, Bool.true_and] | exact congrArg AV.bool (Eq.symm (by assumption))
        have hk11 : (bEq r9.2 0) = true := by simpa using hc
        replace H := cond_f hc H
        refine rg ctNo_ok ?_
        simp only [go_sem]
        refine fz_mean [4, 5, 6] ?_ ?_
        · simp only [go_sem, Nat.reduceBEq]
          try exact at0
        simp only [go_sem, Nat.reduceBEq, Nat.reduceAdd]
        obtain ⟨f14, H⟩ := need_some.1 H
        replace f14 := capb_iff.1 f14
        refine draw_rule shT_ok ctNo_ok 2 (by kernel_rfl) (by kernel_rfl) ?_
        intro an han
        simp only [d_nil, d_cons, nxtD, xrD, xoD, roEq, minL, List.append_nil, refsOp, refs, refsL, mask, maskF, place, placeF, okLog, pairOk, hit, inL, slotsF, ren, rnN, nrH, nrB, nrL, nr, List.replicate_zero, List.replicate_succ, Nat.sub_self, Nat.add_zero, Nat.zero_add, Nat.reduceSub, Nat.lt_add_one, go_sem, Nat.reduceLeDiff, Nat.reduceLT, Nat.reduceAdd, Nat.reduceSub, Nat.reduceBEq, f14]
        repeat ((with_reducible refine And.intro ?_ ?_); focus exact an6)
        refine rg ctNo_ok ?_
        simp only [go_sem]
        refine ⟨_, (Option.some.inj H).symm, ?_⟩
        refine SubF_of ⟨[some 0, some 1, some 9], ?_, ?_, by rfl, by rfl⟩
        · simp [CvL, Cv, getM]
        · exact ⟨cv, cv, CvB_row nr_TRegulate cl (app_row (f := c_TRegulate) v1_2 [r9.1] (fun _ _ _ _ => rfl) (lit_row (f := c_TRegulate) [r9.1] (fun _ _ => rfl) rfl)), trivial⟩
      · try dsimp only at H ⊢
        try simp only [tp]
        try simp only [m_normal]
        refine seqM ?_
        refine sq ctNo_ok ?_
        simp only [go_sem]
        refine blkM ?_
        refine loop_den (fun s : Int × Int × (List TRegulate) × (List TRegulateWord) × (List (Int × Int)) => (.top :: .ro 4 p1.length false (enR c_TEvent p1) :: .fn 41 [] :: tp 4 (.ptr 1 0 0 0 :: .top :: .top :: .top :: .int .i64 s.1 :: tp 89 []))) (fun s => [.dead, .lit 87 [.int .i64 s.2.1, .sl 3 10 0 s.2.2.1.length false, .sl 4 4 0 s.2.2.2.1.length false, .val (.map (some mk5))], .dead, .row 39 10 s.2.2.1.length (enR c_TRegulate s.2.2.1), .row 23 4 s.2.2.2.1.length (enR c_TRegulateWord s.2.2.2.1), .mapb mk5 s.2.2.2.2]) (fun e : Unit => (tp 101 [])) (fun e => [.dead, .dead, .dead]) H ?_ (fun s o H hn1_2 hn2_2 => ?_) (fun e H => ?_)
        · refine SubF_of ⟨[some 0, some 1, some 2, some 2, none, some 0], ?_, ?_, by rfl, by rfl⟩
          · simp [CvL, Cv, getM, tp]
          · exact ⟨CvB_dead, cv, CvB_dead, CvB_row nr_TRegulate cl (fun _ _ _ _ => rfl), CvB_none, cv, trivial⟩
        · obtain ⟨v2_1, v2_2, v2_3, v2_4, v2_5⟩ := s
          unfold F8_L2 at H
          try dsimp only at H ⊢
          try simp only [tp]
          refine seqM ?_
          refine sq ctNo_ok ?_
          simp only [go_sem, Nat.reduceAdd]
          repeat ((with_reducible refine And.intro ?_ ?_); focus exact an0)
          refine condM' rfl trivial (fun hc => ?_) (fun hc => ?_)
          · have hk15 : (bLt v2_1 (p1.length : Nat)) = false := by simpa using hc
            replace H := cond_f hc H
            refine rg ctNo_ok ?_
            simp only [go_sem]
            refine ⟨_, (Option.some.inj H).symm, ?_⟩
            refine SubF_of ⟨[some 0, some 1, some 2], ?_, ?_, by rfl, by rfl⟩
            · simp [CvL, Cv]
            · exact ⟨CvB_dead, CvB_dead, CvB_dead, trivial⟩
          have hk15 : (bLt v2_1 (p1.length : Nat)) = true := by simpa using hc
          replace H := cond_t hc H
          refine rg ctNo_ok ?_
          simp only [go_sem]
          refine seqM ?_
          refine blkM ?_
          refine seqM ?_
          refine seqM ?_
          obtain ⟨f16, H⟩ := need_some.1 H
          replace f16 := inb_iff.1 f16
          obtain ⟨f17, H⟩ := need_some.1 H
          replace f17 := g_iff.1 f17
          replace f17 := fun g => inb_iff.1 (f17 g)
          obtain ⟨f18, H⟩ := need_some.1 H
          replace f18 := g_iff.1 f18
          replace f18 := fun g => inb_iff.1 (f18 g)
          obtain ⟨f19, H⟩ := need_some.1 H
          replace f19 := g_iff.1 f19
          replace f19 := fun g => inb_iff.1 (f19 g)
          refine rg ctNo_ok ?_
          simp only [go_sem, Nat.reduceLeDiff, Nat.reduceLT, Nat.reduceAdd, f16]
          repeat ((with_reducible refine And.intro ?_ ?_); focus (first | (with_reducible trivial) | omega | exact f17 | exact f18 | exact f19 | (intro g; have q := f17 (by first | exact g | (rw [g]; rfl) | simpa using g); first | exact q | exact ⟨q.1, q.2.1⟩ | exact q.2.2 | omega | exact ⟨g, q⟩ | exact ⟨trivial, q⟩ | exact ⟨g, q.1, q.2.1⟩ | exact ⟨g, q.2.2⟩) | (intro g; have q := f18 (by first | exact g | (rw [g]; rfl) | simpa using g); first | exact q | exact ⟨q.1, q.2.1⟩ | exact q.2.2 | omega | exact ⟨g, q⟩ | exact ⟨trivial, q⟩ | exact ⟨g, q.1, q.2.1⟩ | exact ⟨g, q.2.2⟩) | (intro g; have q := f19 (by first | exact g | (rw [g]; rfl) | simpa using g); first | exact q | exact ⟨q.1, q.2.1⟩ | exact q.2.2 | omega | exact ⟨g, q⟩ | exact ⟨trivial, q⟩ | exact ⟨g, q.1, q.2.1⟩ | exact ⟨g, q.2.2⟩) | grind))
          refine condM rfl trivial (fun hc => ?_) (fun hc => ?_)
          · have hk20 : ((((bLt ((gd p1 v2_1.toNat).Wait) 0) || (bLt 1000000 ((gd p1 v2_1.toNat).Wait))) || (bLt ((gd p1 v2_1.toNat).Who) 0)) || (bLt ((gd p1 v2_1.toNat).Pick) 0)) = true := by simpa using hc
            replace H := cond_t hc H
            refine sq ctNo_ok ?_
            simp only [go_sem]
            refine rg ctNo_ok ?_
            simp only [go_sem]
            obtain ⟨q21, H, hq22⟩ := bsi H
            replace hq22 := hn2_2 _ (Option.some.inj hq22).symm
            obtain rfl := (Option.some.inj hq22).symm
            refine cutO shT_ok ctNo_ok 2 ?_
            simp only [kO_normal, List.take_succ_cons, List.take_zero, List.drop_succ_cons, List.drop_zero, go_sem]
            repeat ((with_reducible refine And.intro ?_ ?_); focus exact an1)
            refine endO ?_
            refine rg ctNo_ok ?_
            simp only [go_sem]
            obtain rfl := Option.some.inj H
            first | rfl | simp only [Bool.and_false, Bool.false_and, Bool.and_true, Bool.true_and] | exact congrArg AV.bool (Eq.symm (by assumption))
          have hk20 : ((((bLt ((gd p1 v2_1.toNat).Wait) 0) || (bLt 1000000 ((gd p1 v2_1.toNat).Wait))) || (bLt ((gd p1 v2_1.toNat).Who) 0)) || (bLt ((gd p1 v2_1.toNat).Pick) 0)) = false := by simpa using hc
          replace H := cond_f hc H
          refine rg ctNo_ok ?_
          simp only [go_sem]
          refine seqM ?_
          obtain ⟨f23, H⟩ := need_some.1 H
          replace f23 := inb_iff.1 f23
          refine draw_rule shT_ok ctNo_ok 0 (by kernel_rfl) (by kernel_rfl) ?_
          intro an han
          simp only [d_nil, d_cons, nxtD, xrD, xoD, roEq, minL, List.append_nil, refsOp, refs, mask, maskF, place, placeF, okLog, pairOk, hit, inL, slotsF, nrH, nrB, nrL, nr, List.replicate_zero, Nat.sub_self, Nat.add_zero, Nat.zero_add, Nat.reduceSub, Nat.lt_add_one, go_sem, Nat.reduceLeDiff, Nat.reduceLT, Nat.reduceAdd, Nat.reduceSub, Nat.reduceBEq, f23]
          repeat ((with_reducible refine And.intro ?_ ?_); focus exact an2)
          refine seqM ?_
          refine regO ?_
          obtain ⟨f24, H⟩ := need_some.1 H
          replace f24 := inb_iff.1 f24
          refine cutO shT_ok ctNo_ok 5 ?_
          simp only [kO_normal, List.take_succ_cons, List.take_zero, List.drop_succ_cons, List.drop_zero, go_sem, Nat.reduceLT, Nat.reduceAdd, f24]
          repeat ((with_reducible refine And.intro ?_ ?_); focus exact an1)
          refine inlO (rs := [.tmp 4]) Try.func82 (by kernel_rfl) rfl rfl Try.ntmps82 (caps := []) (tc := [.ptr 1 0 0 0, .agg [.int .u8 ((gd p1 v2_1.toNat).Kind), .int .i64 ((gd p1 v2_1.toNat).Wait), .int .i64 ((gd p1 v2_1.toNat).Who), .int .i64 ((gd p1 v2_1.toNat).Pick)]]) rfl (by simp only [go_sem]) rfl ?_
          simp only [List.length_cons, List.length_nil, Nat.reduceAdd, Nat.reduceSub, List.replicate_succ, List.replicate_zero, List.cons_append, List.nil_append]
          refine joinR_den (fun e : Bool × (List TRegulate) × (List TRegulateWord) × (List (Int × Int)) => (tp 4 (.bool e.1 :: tp 188 []))) (fun e => [.dead, .lit 87 [.int .i64 (wr .i64 (v2_2 + ((gd p1 v2_1.toNat).Wait))), .sl 6 10 0 e.2.1.length false, .sl 7 4 0 e.2.2.1.length false, .val (.map (some mk5))], .dead, .dead, .dead, .dead, .row 39 10 e.2.1.length (enR c_TRegulate e.2.1), .row 23 4 e.2.2.1.length (enR c_TRegulateWord e.2.2.1), .mapb mk5 e.2.2.2]) H (fun o H hn1_3 hn2_3 => ?_) (fun e H => ?_)
          · unfold F8_L3 at H
            try dsimp only at H ⊢
            try simp only [tp]
            refine sq ctNo_ok ?_
            simp only [go_sem, Nat.reduceAdd]
            refine seqM ?_
            obtain ⟨f25, H⟩ := need_some.1 H
            replace f25 := ne0_iff.1 f25
            refine draw_quiet shT_ok ctNo_ok (by kernel_rfl) (by kernel_rfl) ?_
            simp only [go_sem, Nat.reduceLeDiff, Nat.reduceLT, Nat.reduceAdd, f25]
            repeat ((with_reducible refine And.intro ?_ ?_); focus exact an0)
            refine seqM ?_
            refine sq ctNo_ok ?_
            simp only [go_sem, Nat.reduceLeDiff, Nat.reduceLT, Nat.reduceAdd]
            repeat ((with_reducible refine And.intro ?_ ?_); focus exact an4)
            refine join_den (fun e : Int => (.ptr 1 0 0 0 :: .top :: .top :: .ptr 6 0 0 0 :: .top :: .int .i64 e :: tp 187 [])) (fun e => [.dead, .lit 87 [.int .i64 (wr .i64 (v2_2 + ((gd p1 v2_1.toNat).Wait))), .sl 3 10 0 v2_3.length false, .sl 4 4 0 v2_4.length false, .val (.map (some mk5))], .dead, .row 39 10 v2_3.length (enR c_TRegulate v2_3), .row 23 4 v2_4.length (enR c_TRegulateWord v2_4), .mapb mk5 v2_5, .lit 139 [.int .u8 ((gd p1 v2_1.toNat).Kind), .int .i64 ((gd p1 v2_1.toNat).Wait), .int .i64 ((gd p1 v2_1.toNat).Who), .int .i64 ((gd p1 v2_1.toNat).Pick)]]) H (fun o H hn1_4 hn2_4 => ?_) (fun w4_1 H => ?_)
            · unfold F8_L4 at H
              try dsimp only at H ⊢
              try simp only [tp]
              refine condM rfl trivial (fun hc => ?_) (fun hc => ?_)
              · have hk26 : ((bEq ((gd p1 v2_1.toNat).Kind) 0) || (bEq ((gd p1 v2_1.toNat).Kind) 2)) = true := by simpa using hc
                replace H := cond_t hc H
                refine rg ctNo_ok ?_
                simp only [go_sem, Nat.reduceAdd]
                refine ⟨_, (Option.some.inj H).symm, ?_⟩
                refine SubF_of ⟨[some 0, some 1, some 2, some 3, some 4, some 5, some 6], ?_, ?_, by rfl, by rfl⟩
                · simp [CvL, Cv, getM]
                · exact ⟨CvB_dead, cv, CvB_dead, (CvB_same nfA), (CvB_same nfA), cv, cv, trivial⟩
              have hk26 : ((bEq ((gd p1 v2_1.toNat).Kind) 0) || (bEq ((gd p1 v2_1.toNat).Kind) 2)) = false := by simpa using hc
              replace H := cond_f hc H
              refine rg ctNo_ok ?_
              simp only [go_sem, Nat.reduceAdd]
              refine ⟨_, (Option.some.inj H).symm, ?_⟩
              refine SubF_of ⟨[some 0, some 1, some 2, some 3, some 4, some 5, some 6], ?_, ?_, by rfl, by rfl⟩
              · simp [CvL, Cv, getM]
              · exact ⟨CvB_dead, cv, CvB_dead, (CvB_same nfA), (CvB_same nfA), cv, cv, trivial⟩
            · try dsimp only at H ⊢
              try simp only [tp]
              try simp only [m_normal]
              refine seqM ?_
              obtain ⟨f27, H⟩ := need_some.1 H
              replace f27 := inb_iff.1 f27
              refine rg ctNo_ok ?_
              simp only [go_sem, Nat.reduceLeDiff, Nat.reduceLT, Nat.reduceAdd, f27]
              repeat ((with_reducible refine And.intro ?_ ?_); focus exact an4)
              refine sq ctNo_ok ?_
              simp only [go_sem, Nat.reduceLeDiff, Nat.reduceAdd]
              repeat ((with_reducible refine And.intro ?_ ?_); focus exact an4)
              refine seqM ?_
              refine sq ctNo_ok ?_
              simp only [go_sem, Nat.reduceLeDiff, Nat.reduceLT, Nat.reduceAdd]
              repeat ((with_reducible refine And.intro ?_ ?_); focus exact an4)
              refine blkM ?_
              refine seqM ?_
              refine sq ctNo_ok ?_
              simp only [go_sem]
              refine join_den (fun e : Bool => (.ptr 1 0 0 0 :: .top :: .top :: .ptr 6 0 0 0 :: .top :: .int .i64 w4_1 :: .ptr 7 0 0 0 :: .ptr 9 0 0 0 :: tp 30 (.int .u8 ((gd p1 v2_1.toNat).Kind) :: tp 10 (.bool e :: tp 143 [])))) (fun e => [.dead, .lit 87 [.int .i64 (wr .i64 (v2_2 + ((gd p1 v2_1.toNat).Wait))), .sl 3 10 0 v2_3.length false, .sl 4 4 0 v2_4.length false, .val (.map (some mk5))], .dead, .row 39 10 v2_3.length (enR c_TRegulate v2_3), .row 23 4 v2_4.length (enR c_TRegulateWord v2_4), .mapb mk5 v2_5, .lit 139 [.int .u8 ((gd p1 v2_1.toNat).Kind), .int .i64 ((gd p1 v2_1.toNat).Wait), .int .i64 ((gd p1 v2_1.toNat).Who), .int .i64 ((gd p1 v2_1.toNat).Pick)], .lit 39 [.ro 3 (((gd v2_3 w4_1.toNat).Table).length) false (enR c_TRegulateChannel ((gd v2_3 w4_1.toNat).Table)), .int .i64 ((gd v2_3 w4_1.toNat).Channel), .bool ((gd v2_3 w4_1.toNat).Lead), .int .i64 ((gd v2_3 w4_1.toNat).Heard), .bool ((gd v2_3 w4_1.toNat).Stopped), .bool ((gd v2_3 w4_1.toNat).Moving), .int .i64 ((gd v2_3 w4_1.toNat).To), .int .i64 ((gd v2_3 w4_1.toNat).At), .ro 2 (((gd v2_3 w4_1.toNat).Blocked).length) false (enR c_TRegulateBlock ((gd v2_3 w4_1.toNat).Blocked)), .ro 1 (((gd v2_3 w4_1.toNat).Clear).length) false (enR c_i64 ((gd v2_3 w4_1.toNat).Clear))], .dead, .lit 39 [.ro 0 0 true (fun _ _ => .top), .int .i64 0, .bool false, .int .i64 0, .bool false, .bool false, .int .i64 0, .int .i64 0, .ro 0 0 true (fun _ _ => .top), .ro 0 0 true (fun _ _ => .top)]]) H (fun o H hn1_5 hn2_5 => ?_) (fun w5_1 H => ?_)
              · unfold F8_L5 at H
                try dsimp only at H ⊢
                try simp only [tp]
                refine condM rfl trivial (fun hc => ?_) (fun hc => ?_)
                · have hk28 : (bEq ((gd p1 v2_1.toNat).Kind) 0) = true := by simpa using hc
                  replace H := cond_t hc H
                  refine rg ctNo_ok ?_
                  simp only [go_sem, Nat.reduceAdd]
                  refine ⟨_, (Option.some.inj H).symm, ?_⟩
                  refine SubF_of ⟨[some 0, some 1, some 2, some 3, some 4, some 5, some 6, some 7, some 8, some 9], ?_, ?_, by rfl, by rfl⟩
                  · simp [CvL, Cv, getM]
                  · exact ⟨CvB_dead, cv, CvB_dead, (CvB_same nfA), (CvB_same nfA), cv, cv, cv, CvB_dead, cv, trivial⟩
                have hk28 : (bEq ((gd p1 v2_1.toNat).Kind) 0) = false := by simpa using hc
                replace H := cond_f hc H
                refine rg ctNo_ok ?_
                simp only [go_sem, Nat.reduceAdd]
                refine ⟨_, (Option.some.inj H).symm, ?_⟩
                refine SubF_of ⟨[some 0, some 1, some 2, some 3, some 4, some 5, some 6, some 7, some 8, some 9], ?_, ?_, by rfl, by rfl⟩
                · simp [CvL, Cv, getM]
                · exact ⟨CvB_dead, cv, CvB_dead, (CvB_same nfA), (CvB_same nfA), cv, cv, cv, CvB_dead, cv, trivial⟩
              · try dsimp only at H ⊢
                try simp only [tp]
                try simp only [m_normal]
                refine condM rfl trivial (fun hc => ?_) (fun hc => ?_)
                · have hk29 : (w5_1) = true := by simpa using hc
                  replace H := cond_t hc H
                  obtain ⟨r30, e31, H⟩ := bsi H
                  refine draw_rule shT_ok ct8t2_ok 4 (by kernel_rfl) (by kernel_rfl) ?_
                  intro an han
                  simp only [d_nil, d_cons, nxtD, xrD, xoD, roEq, minL, List.append_nil, refsOp, refs, refsL, mask, maskF, place, placeF, okLog, pairOk, hit, inL, slotsF, ren, renL, rnN, nrH, nrB, nrL, nr, List.replicate_zero, List.replicate_succ, Nat.sub_self, Nat.add_zero, Nat.zero_add, Nat.reduceSub, Nat.lt_add_one, go_sem, Nat.reduceLeDiff, Nat.reduceLT, Nat.reduceAdd, Nat.reduceSub, Nat.reduceBEq, ct8t2_22, body22, e31]
                  repeat ((with_reducible refine And.intro ?_ ?_); focus exact an2)
                  refine seqM ?_
                  refine sq ctNo_ok ?_
                  simp only [go_sem]
                  refine condM rfl trivial (fun hc => ?_) (fun hc => ?_)
                  · have hk32 : (bEq r30.2.2 0) = false := by simpa using hc
                    replace H := cond_t hc H
                    refine sq ctNo_ok ?_
                    simp only [go_sem, Nat.reduceLeDiff, Nat.reduceLT, Nat.reduceAdd]
                    repeat ((with_reducible refine And.intro ?_ ?_); focus exact an4)
                    refine rg ctNo_ok ?_
                    simp only [go_sem]
                    refine ⟨_, (Option.some.inj H).symm, ?_⟩
                    refine SubF_of ⟨[some 0, some 1, some 2, some 3, some 4, some 5, some 3, some 4, some 5], ?_, ?_, by rfl, by rfl⟩
                    · simp [CvL, Cv]
                    · exact ⟨CvB_dead, cv, CvB_dead, CvB_dead, CvB_dead, CvB_dead, CvB_row nr_TRegulate cl (fun _ _ _ _ => rfl), CvB_row nr_TRegulateWord cl (fun _ _ _ _ => rfl), cv, trivial⟩
                  have hk32 : (bEq r30.2.2 0) = true := by simpa using hc
                  replace H := cond_f hc H
                  refine rg ctNo_ok ?_
                  simp only [go_sem]
                  refine seqM ?_
                  refine sq ctNo_ok ?_
                  simp only [go_sem, Nat.reduceLeDiff, Nat.reduceLT, Nat.reduceAdd]
                  repeat ((with_reducible refine And.intro ?_ ?_); focus exact an4)
                  refine join_den (fun e : List (Int × Int) => (.ptr 1 0 0 0 :: tp 4 (.int .i64 w4_1 :: .ptr 7 0 0 0 :: .ptr 9 0 0 0 :: .sl 13 4 0 r30.2.1.length false :: tp 184 []))) (fun e => [.dead, .lit 87 [.int .i64 (wr .i64 (v2_2 + ((gd p1 v2_1.toNat).Wait))), .sl 3 10 0 v2_3.length false, .sl 4 4 0 v2_4.length false, .val (.map (some mk5))], .dead, .row 39 10 v2_3.length (enR c_TRegulate v2_3), .row 23 4 v2_4.length (enR c_TRegulateWord v2_4), .dead, .dead, .lit 39 [.ro 3 (((gd v2_3 w4_1.toNat).Table).length) false (enR c_TRegulateChannel ((gd v2_3 w4_1.toNat).Table)), .int .i64 ((gd v2_3 w4_1.toNat).Channel), .bool ((gd v2_3 w4_1.toNat).Lead), .int .i64 ((gd v2_3 w4_1.toNat).Heard), .bool ((gd v2_3 w4_1.toNat).Stopped), .bool ((gd v2_3 w4_1.toNat).Moving), .int .i64 ((gd v2_3 w4_1.toNat).To), .int .i64 ((gd v2_3 w4_1.toNat).At), .ro 2 (((gd v2_3 w4_1.toNat).Blocked).length) false (enR c_TRegulateBlock ((gd v2_3 w4_1.toNat).Blocked)), .ro 1 (((gd v2_3 w4_1.toNat).Clear).length) false (enR c_i64 ((gd v2_3 w4_1.toNat).Clear))], .dead, .lit 39 [.sl 10 3 0 r30.1.Table.length false, .int .i64 r30.1.Channel, .bool r30.1.Lead, .int .i64 r30.1.Heard, .bool r30.1.Stopped, .bool r30.1.Moving, .int .i64 r30.1.To, .int .i64 r30.1.At, .sl 11 2 0 r30.1.Blocked.length false, .sl 12 1 0 r30.1.Clear.length false], .row 45 3 r30.1.Table.length (enR c_TRegulateChannel r30.1.Table), .row 79 2 r30.1.Blocked.length (enR c_TRegulateBlock r30.1.Blocked), .row 3 1 r30.1.Clear.length (enR c_i64 r30.1.Clear), .row 23 4 r30.2.1.length (enR c_TRegulateWord r30.2.1), .mapb mk5 e]) H (fun o H hn1_6 hn2_6 => ?_) (fun w6_4 H => ?_)
                  · unfold F8_L6 at H
                    try dsimp only at H ⊢
                    try simp only [tp]
                    refine condM' rfl trivial (fun hc => ?_) (fun hc => ?_)
                    · have hk33 : (((bEq w4_1 0) && r30.1.Stopped) && (!((gd v2_3 w4_1.toNat).Stopped))) = false := by first | simpa using hc | simpa only [Bool.not_eq_true', Bool.not_eq_false'] using hc
                      replace H := cond_f hc H
                      refine rg ctNo_ok ?_
                      simp only [go_sem, Nat.reduceAdd]
                      refine ⟨_, (Option.some.inj H).symm, ?_⟩
                      refine SubF_of ⟨[some 0, some 1, some 2, some 3, some 4, some 5, some 6, some 7, some 8, some 9, some 10, some 11, some 12, some 13, some 5], ?_, ?_, by rfl, by rfl⟩
                      · simp [CvL, Cv, getM]
                      · exact ⟨CvB_dead, cv, CvB_dead, (CvB_same nfA), (CvB_same nfA), CvB_dead, CvB_dead, cv, CvB_dead, cv, (CvB_same nfA), (CvB_same nfA), (CvB_same nfA), (CvB_same nfA), cv, trivial⟩
                    have hk33 : (((bEq w4_1 0) && r30.1.Stopped) && (!((gd v2_3 w4_1.toNat).Stopped))) = true := by first | simpa using hc | simpa only [Bool.not_eq_true', Bool.not_eq_false'] using hc
                    replace H := cond_t hc H
                    refine draw_tail shT_ok ctNo_ok 10 (by kernel_rfl) (by kernel_rfl) (by kernel_rfl) ?_
                    simp only [kO_normal, List.take_succ_cons, List.take_zero, List.drop_succ_cons, List.drop_zero, go_sem, Nat.reduceLeDiff, Nat.reduceLT, Nat.reduceAdd]
                    repeat ((with_reducible refine And.intro ?_ ?_); focus exact an4)
                    obtain ⟨f34, H⟩ := need_some.1 H
                    replace f34 := decide_eq_true_iff.1 f34
                    refine mapUpdateO (kt := 3) (et := 3) (b := 5) (k := mk5) (m := v2_5) (x := (gd v2_3 w4_1.toNat).Channel) (v := wr .i64 (v2_2 + ((gd p1 v2_1.toNat).Wait))) rfl rfl (by kernel_rfl) (by kernel_rfl) (by first | exact trivial | (simp only [go_sem, Nat.reduceLeDiff, Nat.reduceLT, Nat.reduceAdd, Nat.reduceMul, Nat.reduceSub, Nat.reduceEqDiff, Nat.reduceBEq, Int.reduceToNat, reduceCtorEq]; done) | simp [og]) (by first | exact trivial | (simp only [go_sem, Nat.reduceLeDiff, Nat.reduceLT, Nat.reduceAdd, Nat.reduceMul, Nat.reduceSub, Nat.reduceEqDiff, Nat.reduceBEq, Int.reduceToNat, reduceCtorEq]; done) | simp [og]) (by first | exact trivial | (simp only [go_sem, Nat.reduceLeDiff, Nat.reduceLT, Nat.reduceAdd, Nat.reduceMul, Nat.reduceSub, Nat.reduceEqDiff, Nat.reduceBEq, Int.reduceToNat, reduceCtorEq]; done) | simp [og]) rfl rfl rfl rfl f34 ?_
                    simp only [go_sem]
                    refine cutO shT_ok ctNo_ok 0 ?_
                    simp only [kO_normal, List.take_zero, List.drop_zero, go_sem]
                    repeat ((with_reducible refine And.intro ?_ ?_); focus exact an4)
                    refine endO ?_
                    refine ⟨_, (Option.some.inj H).symm, ?_⟩
                    refine SubF_of ⟨[some 0, some 1, some 2, some 3, some 4, some 5, some 6, some 7, some 8, some 9, some 10, some 11, some 12, some 13, some 5], ?_, ?_, by rfl, by rfl⟩
                    · simp [CvL, Cv, getM]
                    · exact ⟨CvB_dead, cv, CvB_dead, (CvB_same nfA), (CvB_same nfA), CvB_dead, CvB_dead, cv, CvB_dead, cv, (CvB_same nfA), (CvB_same nfA), (CvB_same nfA), (CvB_same nfA), cv, trivial⟩
                  · try dsimp only at H ⊢
                    try simp only [tp]
                    try simp only [m_normal]
                    refine seqM ?_
                    refine sq ctNo_ok ?_
                    simp only [go_sem, Nat.reduceLeDiff, Nat.reduceLT, Nat.reduceAdd]
                    repeat ((with_reducible refine And.intro ?_ ?_); focus exact an4)
                    refine join_den (fun e : List (Int × Int) => (.ptr 1 0 0 0 :: tp 4 (.int .i64 w4_1 :: .top :: .ptr 9 0 0 0 :: .sl 13 4 0 r30.2.1.length false :: tp 184 []))) (fun e => [.dead, .lit 87 [.int .i64 (wr .i64 (v2_2 + ((gd p1 v2_1.toNat).Wait))), .sl 3 10 0 v2_3.length false, .sl 4 4 0 v2_4.length false, .val (.map (some mk5))], .dead, .row 39 10 v2_3.length (enR c_TRegulate v2_3), .row 23 4 v2_4.length (enR c_TRegulateWord v2_4), .dead, .dead, .dead, .dead, .lit 39 [.sl 10 3 0 r30.1.Table.length false, .int .i64 r30.1.Channel, .bool r30.1.Lead, .int .i64 r30.1.Heard, .bool r30.1.Stopped, .bool r30.1.Moving, .int .i64 r30.1.To, .int .i64 r30.1.At, .sl 11 2 0 r30.1.Blocked.length false, .sl 12 1 0 r30.1.Clear.length false], .row 45 3 r30.1.Table.length (enR c_TRegulateChannel r30.1.Table), .row 79 2 r30.1.Blocked.length (enR c_TRegulateBlock r30.1.Blocked), .row 3 1 r30.1.Clear.length (enR c_i64 r30.1.Clear), .row 23 4 r30.2.1.length (enR c_TRegulateWord r30.2.1), .dead, .mapb mk5 e]) H (fun o H hn1_7 hn2_7 => ?_) (fun w7_4 H => ?_)
                    · unfold F8_L7 at H
                      try dsimp only at H ⊢
                      try simp only [tp]
                      refine condM' rfl trivial (fun hc => ?_) (fun hc => ?_)
                      · have hk35 : ((bEq w4_1 0) && (!bEq r30.1.Channel ((gd v2_3 w4_1.toNat).Channel))) = false := by first | simpa using hc | simpa only [Bool.not_eq_true', Bool.not_eq_false'] using hc
                        replace H := cond_f hc H
                        refine rg ctNo_ok ?_
                        simp only [go_sem, Nat.reduceAdd]
                        refine ⟨_, (Option.some.inj H).symm, ?_⟩
                        refine SubF_of ⟨[some 0, some 1, some 2, some 3, some 4, some 5, some 6, some 7, some 8, some 9, some 10, some 11, some 12, some 13, some 14, some 14], ?_, ?_, by rfl, by rfl⟩
                        · simp [CvL, Cv, getM]
                        · exact ⟨CvB_dead, cv, CvB_dead, (CvB_same nfA), (CvB_same nfA), CvB_dead, CvB_dead, CvB_dead, CvB_dead, cv, (CvB_same nfA), (CvB_same nfA), (CvB_same nfA), (CvB_same nfA), CvB_dead, cv, trivial⟩
                      have hk35 : ((bEq w4_1 0) && (!bEq r30.1.Channel ((gd v2_3 w4_1.toNat).Channel))) = true := by first | simpa using hc | simpa only [Bool.not_eq_true', Bool.not_eq_false'] using hc
                      replace H := cond_t hc H
                      refine draw_tail shT_ok ctNo_ok 6 (by kernel_rfl) (by kernel_rfl) (by kernel_rfl) ?_
                      simp only [kO_normal, List.take_succ_cons, List.take_zero, List.drop_succ_cons, List.drop_zero, go_sem, Nat.reduceLeDiff, Nat.reduceLT, Nat.reduceAdd]
                      repeat ((with_reducible refine And.intro ?_ ?_); focus exact an0)
                      refine deleteO (kt := 3) (et := 3) (b := 14) (k := mk5) (m := w6_4) (x := r30.1.Channel) rfl rfl rfl (by kernel_rfl) (by kernel_rfl) (by first | exact trivial | (simp only [go_sem, Nat.reduceLeDiff, Nat.reduceLT, Nat.reduceAdd, Nat.reduceMul, Nat.reduceSub, Nat.reduceEqDiff, Nat.reduceBEq, Int.reduceToNat, reduceCtorEq]; done) | simp [og]) (by first | exact trivial | (simp only [go_sem, Nat.reduceLeDiff, Nat.reduceLT, Nat.reduceAdd, Nat.reduceMul, Nat.reduceSub, Nat.reduceEqDiff, Nat.reduceBEq, Int.reduceToNat, reduceCtorEq]; done) | simp [og]) rfl rfl rfl ?_
                      simp only [go_sem]
                      refine cutO shT_ok ctNo_ok 0 ?_
                      simp only [kO_normal, List.take_zero, List.drop_zero, go_sem]
                      repeat ((with_reducible refine And.intro ?_ ?_); focus exact an0)
                      refine endO ?_
                      refine ⟨_, (Option.some.inj H).symm, ?_⟩
                      refine SubF_of ⟨[some 0, some 1, some 2, some 3, some 4, some 5, some 6, some 7, some 8, some 9, some 10, some 11, some 12, some 13, some 14, some 14], ?_, ?_, by rfl, by rfl⟩
                      · simp [CvL, Cv, getM]
                      · exact ⟨CvB_dead, cv, CvB_dead, (CvB_same nfA), (CvB_same nfA), CvB_dead, CvB_dead, CvB_dead, CvB_dead, cv, (CvB_same nfA), (CvB_same nfA), (CvB_same nfA), (CvB_same nfA), CvB_dead, cv, trivial⟩
                    · try dsimp only at H ⊢
                      try simp only [tp]
                      try simp only [m_normal]
                      refine seqM ?_
                      refine fz_mean [10, 11, 12] ?_ ?_
                      · simp only [go_sem, Nat.reduceBEq]
                        try exact at0
                      simp only [go_sem, Nat.reduceBEq, Nat.reduceAdd]
                      obtain ⟨f37, H⟩ := need_some.1 H
                      replace f37 := inb_iff.1 f37
                      refine draw_rule shT_ok ctNo_ok 0 (by kernel_rfl) (by kernel_rfl) ?_
                      intro an han
                      simp only [d_nil, d_cons, nxtD, xrD, xoD, roEq, minL, List.append_nil, refsOp, refs, mask, maskF, place, placeF, okLog, pairOk, hit, inL, slotsF, nrH, nrB, List.replicate_zero, Nat.sub_self, Nat.add_zero, Nat.zero_add, Nat.reduceSub, Nat.lt_add_one, go_sem, Nat.reduceLeDiff, Nat.reduceLT, Nat.reduceAdd, Nat.reduceSub, Nat.reduceBEq, f37]
                      repeat ((with_reducible refine And.intro ?_ ?_); focus exact an2)
                      refine seqM ?_
                      obtain ⟨f38, H⟩ := need_some.1 H
                      replace f38 := capb_iff.1 f38
                      refine rg ctNo_ok ?_
                      simp only [go_sem, Nat.reduceLeDiff, Nat.reduceLT, Nat.reduceAdd, f38]
                      repeat ((with_reducible refine And.intro ?_ ?_); focus exact an5)
                      refine sq ctNo_ok ?_
                      simp only [go_sem]
                      refine rg ctNo_ok ?_
                      simp only [go_sem]
                      refine ⟨_, (Option.some.inj H).symm, ?_⟩
                      refine SubF_of ⟨[some 0, some 1, some 2, some 3, some 4, some 5, some 3, some 16, some 15], ?_, ?_, by rfl, by rfl⟩
                      · simp [CvL, Cv]
                      · exact ⟨CvB_dead, cv, CvB_dead, CvB_dead, CvB_dead, CvB_dead, CvB_row nr_TRegulate cl (upc_row (f := c_TRegulate) v2_3 w4_1.toNat 0 r30.1 (fun _ _ _ _ => rfl) (fun y hy => match y, hy with | 0, _ => rfl | 1, _ => rfl | 2, _ => rfl | 3, _ => rfl | 4, _ => rfl | 5, _ => rfl | 6, _ => rfl | 7, _ => rfl | 8, _ => rfl | 9, _ => rfl | (y+10), h => absurd h nlt)), CvB_row nr_TRegulateWord cl (app_row (f := c_TRegulateWord) v2_4 r30.2.1 (fun _ _ _ _ => rfl) (fun _ _ _ _ => rfl)), cv, trivial⟩
                have hk29 : (w5_1) = false := by simpa using hc
                replace H := cond_f hc H
                refine sq ctNo_ok ?_
                simp only [go_sem]
                refine condM rfl trivial (fun hc => ?_) (fun hc => ?_)
                · have hk39 : (bEq ((gd p1 v2_1.toNat).Kind) 2) = true := by simpa using hc
                  replace H := cond_t hc H
                  refine seqM ?_
                  obtain ⟨r40, e41, H⟩ := bsi H
                  refine draw_quiet shT_ok ct8t3_ok (by kernel_rfl) (by kernel_rfl) ?_
                  simp only [go_sem, Nat.reduceLeDiff, Nat.reduceLT, Nat.reduceAdd, ct8t3_17, body17, e41]
                  repeat ((with_reducible refine And.intro ?_ ?_); focus exact an0)
                  refine seqM ?_
                  refine sq ctNo_ok ?_
                  simp only [go_sem]
                  refine condM rfl trivial (fun hc => ?_) (fun hc => ?_)
                  · have hk42 : (bEq r40.2 0) = false := by simpa using hc
                    replace H := cond_t hc H
                    refine sq ctNo_ok ?_
                    simp only [go_sem]
                    refine rg ctNo_ok ?_
                    simp only [go_sem]
                    refine ⟨_, (Option.some.inj H).symm, ?_⟩
                    refine SubF_of ⟨[some 0, some 1, some 2, some 3, some 4, some 5, some 3, some 4, some 5], ?_, ?_, by rfl, by rfl⟩
                    · simp [CvL, Cv]
                    · exact ⟨CvB_dead, cv, CvB_dead, CvB_dead, CvB_dead, CvB_dead, CvB_row nr_TRegulate cl (fun _ _ _ _ => rfl), CvB_row nr_TRegulateWord cl (fun _ _ _ _ => rfl), cv, trivial⟩
                  have hk42 : (bEq r40.2 0) = true := by simpa using hc
                  replace H := cond_f hc H
                  refine rg ctNo_ok ?_
                  simp only [go_sem]
                  refine seqM ?_
                  refine sq ctNo_ok ?_
                  simp only [go_sem]
                  refine join_den (fun e : List TRegulateWord => (tp 193 [])) (fun e => [.dead, .lit 87 [.int .i64 (wr .i64 (v2_2 + ((gd p1 v2_1.toNat).Wait))), .sl 3 10 0 v2_3.length false, .sl 10 4 0 e.length false, .val (.map (some mk5))], .dead, .row 39 10 v2_3.length (enR c_TRegulate v2_3), .dead, .mapb mk5 v2_5, .dead, .dead, .dead, .dead, .row 23 4 e.length (enR c_TRegulateWord e)]) H (fun o H hn1_8 hn2_8 => ?_) (fun w8_2 H => ?_)
                  · unfold F8_L8 at H
                    try dsimp only at H ⊢
                    try simp only [tp]
                    refine condM' rfl trivial (fun hc => ?_) (fun hc => ?_)
                    · have hk43 : (r40.1) = false := by simpa using hc
                      replace H := cond_f hc H
                      refine rg ctNo_ok ?_
                      simp only [go_sem, Nat.reduceAdd]
                      refine ⟨_, (Option.some.inj H).symm, ?_⟩
                      refine SubF_of ⟨[some 0, some 1, some 2, some 3, some 4, some 5, some 6, some 7, some 8, some 9, some 4], ?_, ?_, by rfl, by rfl⟩
                      · simp [CvL, Cv]
                      · exact ⟨CvB_dead, cv, CvB_dead, (CvB_same nfA), CvB_dead, cv, CvB_dead, CvB_dead, CvB_dead, CvB_dead, CvB_row nr_TRegulateWord cl (fun _ _ _ _ => rfl), trivial⟩
                    have hk43 : (r40.1) = true := by simpa using hc
                    replace H := cond_t hc H
                    obtain ⟨f44, H⟩ := need_some.1 H
                    replace f44 := capb_iff.1 f44
                    refine draw_rule shT_ok ctNo_ok 2 (by kernel_rfl) (by kernel_rfl) ?_
                    intro an han
                    simp only [d_nil, d_cons, nxtD, xrD, xoD, roEq, minL, List.append_nil, refsOp, refs, refsL, mask, maskF, place, placeF, okLog, pairOk, hit, inL, slotsF, ren, rnN, nrH, nrB, nrL, nr, List.replicate_zero, List.replicate_succ, Nat.sub_self, Nat.add_zero, Nat.zero_add, Nat.reduceSub, Nat.lt_add_one, go_sem, Nat.reduceLeDiff, Nat.reduceLT, Nat.reduceAdd, Nat.reduceSub, Nat.reduceBEq, f44]
                    repeat ((with_reducible refine And.intro ?_ ?_); focus exact an6)
                    refine ⟨_, (Option.some.inj H).symm, ?_⟩
                    refine SubF_of ⟨[some 0, some 1, some 2, some 3, some 4, some 5, some 6, some 7, some 8, some 9, some 11], ?_, ?_, by rfl, by rfl⟩
                    · simp [CvL, Cv]
                    · exact ⟨CvB_dead, cv, CvB_dead, (CvB_same nfA), CvB_dead, cv, CvB_dead, CvB_dead, CvB_dead, CvB_dead, CvB_row nr_TRegulateWord cl (app_row (f := c_TRegulateWord) v2_4 [(TRegulateWord.mk 3 ((gd v2_3 w4_1.toNat).Channel) 0 (wr .i64 (v2_2 + ((gd p1 v2_1.toNat).Wait))))] (fun _ _ _ _ => rfl) (lit_row (f := c_TRegulateWord) [(TRegulateWord.mk 3 ((gd v2_3 w4_1.toNat).Channel) 0 (wr .i64 (v2_2 + ((gd p1 v2_1.toNat).Wait))))] (fun _ _ => rfl) rfl)), trivial⟩
                  · try dsimp only at H ⊢
                    try simp only [tp]
                    try simp only [m_normal]
                    refine sq ctNo_ok ?_
                    simp only [go_sem]
                    refine rg ctNo_ok ?_
                    simp only [go_sem]
                    refine ⟨_, (Option.some.inj H).symm, ?_⟩
                    refine SubF_of ⟨[some 0, some 1, some 2, some 3, some 4, some 5, some 3, some 10, some 5], ?_, ?_, by rfl, by rfl⟩
                    · simp [CvL, Cv]
                    · exact ⟨CvB_dead, cv, CvB_dead, CvB_dead, CvB_dead, CvB_dead, CvB_row nr_TRegulate cl (fun _ _ _ _ => rfl), CvB_row nr_TRegulateWord cl (fun _ _ _ _ => rfl), cv, trivial⟩
                have hk39 : (bEq ((gd p1 v2_1.toNat).Kind) 2) = false := by simpa using hc
                replace H := cond_f hc H
                refine sq ctNo_ok ?_
                simp only [go_sem]
                refine condM' rfl trivial (fun hc => ?_) (fun hc => ?_)
                · have hk45 : (bEq ((gd p1 v2_1.toNat).Kind) 3) = false := by simpa using hc
                  replace H := cond_f hc H
                  obtain ⟨r58, e59, H⟩ := bsi H
                  refine draw_rule shT_ok ct8t4_ok 4 (by kernel_rfl) (by kernel_rfl) ?_
                  intro an han
                  simp only [d_nil, d_cons, nxtD, xrD, xoD, roEq, minL, List.append_nil, refsOp, refs, refsL, mask, maskF, place, placeF, okLog, pairOk, hit, inL, slotsF, ren, renL, rnN, nrH, nrB, nrL, nr, List.replicate_zero, List.replicate_succ, Nat.sub_self, Nat.add_zero, Nat.zero_add, Nat.reduceSub, Nat.lt_add_one, go_sem, Nat.reduceLeDiff, Nat.reduceLT, Nat.reduceAdd, Nat.reduceSub, Nat.reduceBEq, ct8t4_23, body23, e59]
                  repeat ((with_reducible refine And.intro ?_ ?_); focus exact an2)
                  refine seqM ?_
                  refine sq ctNo_ok ?_
                  simp only [go_sem]
                  refine condM rfl trivial (fun hc => ?_) (fun hc => ?_)
                  · have hk60 : (bEq r58.2.2 0) = false := by simpa using hc
                    replace H := cond_t hc H
                    refine sq ctNo_ok ?_
                    simp only [go_sem, Nat.reduceLeDiff, Nat.reduceLT, Nat.reduceAdd]
                    repeat ((with_reducible refine And.intro ?_ ?_); focus exact an4)
                    refine rg ctNo_ok ?_
                    simp only [go_sem]
                    refine ⟨_, (Option.some.inj H).symm, ?_⟩
                    refine SubF_of ⟨[some 0, some 1, some 2, some 3, some 4, some 5, some 3, some 4, some 5], ?_, ?_, by rfl, by rfl⟩
                    · simp [CvL, Cv]
                    · exact ⟨CvB_dead, cv, CvB_dead, CvB_dead, CvB_dead, CvB_dead, CvB_row nr_TRegulate cl (fun _ _ _ _ => rfl), CvB_row nr_TRegulateWord cl (fun _ _ _ _ => rfl), cv, trivial⟩
                  have hk60 : (bEq r58.2.2 0) = true := by simpa using hc
                  replace H := cond_f hc H
                  refine rg ctNo_ok ?_
                  simp only [go_sem]
                  refine seqM ?_
                  refine sq ctNo_ok ?_
                  simp only [go_sem, Nat.reduceLeDiff, Nat.reduceLT, Nat.reduceAdd]
                  repeat ((with_reducible refine And.intro ?_ ?_); focus exact an4)
                  refine join_den (fun e : List (Int × Int) => (.ptr 1 0 0 0 :: tp 4 (.int .i64 w4_1 :: .ptr 7 0 0 0 :: .ptr 9 0 0 0 :: .sl 13 4 0 r58.2.1.length false :: tp 184 []))) (fun e => [.dead, .lit 87 [.int .i64 (wr .i64 (v2_2 + ((gd p1 v2_1.toNat).Wait))), .sl 3 10 0 v2_3.length false, .sl 4 4 0 v2_4.length false, .val (.map (some mk5))], .dead, .row 39 10 v2_3.length (enR c_TRegulate v2_3), .row 23 4 v2_4.length (enR c_TRegulateWord v2_4), .dead, .dead, .lit 39 [.ro 3 (((gd v2_3 w4_1.toNat).Table).length) false (enR c_TRegulateChannel ((gd v2_3 w4_1.toNat).Table)), .int .i64 ((gd v2_3 w4_1.toNat).Channel), .bool ((gd v2_3 w4_1.toNat).Lead), .int .i64 ((gd v2_3 w4_1.toNat).Heard), .bool ((gd v2_3 w4_1.toNat).Stopped), .bool ((gd v2_3 w4_1.toNat).Moving), .int .i64 ((gd v2_3 w4_1.toNat).To), .int .i64 ((gd v2_3 w4_1.toNat).At), .ro 2 (((gd v2_3 w4_1.toNat).Blocked).length) false (enR c_TRegulateBlock ((gd v2_3 w4_1.toNat).Blocked)), .ro 1 (((gd v2_3 w4_1.toNat).Clear).length) false (enR c_i64 ((gd v2_3 w4_1.toNat).Clear))], .dead, .lit 39 [.sl 10 3 0 r58.1.Table.length false, .int .i64 r58.1.Channel, .bool r58.1.Lead, .int .i64 r58.1.Heard, .bool r58.1.Stopped, .bool r58.1.Moving, .int .i64 r58.1.To, .int .i64 r58.1.At, .sl 11 2 0 r58.1.Blocked.length false, .sl 12 1 0 r58.1.Clear.length false], .row 45 3 r58.1.Table.length (enR c_TRegulateChannel r58.1.Table), .row 79 2 r58.1.Blocked.length (enR c_TRegulateBlock r58.1.Blocked), .row 3 1 r58.1.Clear.length (enR c_i64 r58.1.Clear), .row 23 4 r58.2.1.length (enR c_TRegulateWord r58.2.1), .mapb mk5 e]) H (fun o H hn1_11 hn2_11 => ?_) (fun w11_4 H => ?_)
                  · unfold F8_L11 at H
                    try dsimp only at H ⊢
                    try simp only [tp]
                    refine condM' rfl trivial (fun hc => ?_) (fun hc => ?_)
                    · have hk61 : (((bEq w4_1 0) && r58.1.Stopped) && (!((gd v2_3 w4_1.toNat).Stopped))) = false := by first | simpa using hc | simpa only [Bool.not_eq_true', Bool.not_eq_false'] using hc
                      replace H := cond_f hc H
                      refine rg ctNo_ok ?_
                      simp only [go_sem, Nat.reduceAdd]
                      refine ⟨_, (Option.some.inj H).symm, ?_⟩
                      refine SubF_of ⟨[some 0, some 1, some 2, some 3, some 4, some 5, some 6, some 7, some 8, some 9, some 10, some 11, some 12, some 13, some 5], ?_, ?_, by rfl, by rfl⟩
                      · simp [CvL, Cv, getM]
                      · exact ⟨CvB_dead, cv, CvB_dead, (CvB_same nfA), (CvB_same nfA), CvB_dead, CvB_dead, cv, CvB_dead, cv, (CvB_same nfA), (CvB_same nfA), (CvB_same nfA), (CvB_same nfA), cv, trivial⟩
                    have hk61 : (((bEq w4_1 0) && r58.1.Stopped) && (!((gd v2_3 w4_1.toNat).Stopped))) = true := by first | simpa using hc | simpa only [Bool.not_eq_true', Bool.not_eq_false'] using hc
                    replace H := cond_t hc H
                    refine draw_tail shT_ok ctNo_ok 10 (by kernel_rfl) (by kernel_rfl) (by kernel_rfl) ?_
                    simp only [kO_normal, List.take_succ_cons, List.take_zero, List.drop_succ_cons, List.drop_zero, go_sem, Nat.reduceLeDiff, Nat.reduceLT, Nat.reduceAdd]
                    repeat ((with_reducible refine And.intro ?_ ?_); focus exact an4)
                    obtain ⟨f62, H⟩ := need_some.1 H
                    replace f62 := decide_eq_true_iff.1 f62
                    refine mapUpdateO (kt := 3) (et := 3) (b := 5) (k := mk5) (m := v2_5) (x := (gd v2_3 w4_1.toNat).Channel) (v := wr .i64 (v2_2 + ((gd p1 v2_1.toNat).Wait))) rfl rfl (by kernel_rfl) (by kernel_rfl) (by first | exact trivial | (simp only [go_sem, Nat.reduceLeDiff, Nat.reduceLT, Nat.reduceAdd, Nat.reduceMul, Nat.reduceSub, Nat.reduceEqDiff, Nat.reduceBEq, Int.reduceToNat, reduceCtorEq]; done) | simp [og]) (by first | exact trivial | (simp only [go_sem, Nat.reduceLeDiff, Nat.reduceLT, Nat.reduceAdd, Nat.reduceMul, Nat.reduceSub, Nat.reduceEqDiff, Nat.reduceBEq, Int.reduceToNat, reduceCtorEq]; done) | simp [og]) (by first | exact trivial | (simp only [go_sem, Nat.reduceLeDiff, Nat.reduceLT, Nat.reduceAdd, Nat.reduceMul, Nat.reduceSub, Nat.reduceEqDiff, Nat.reduceBEq, Int.reduceToNat, reduceCtorEq]; done) | simp [og]) rfl rfl rfl rfl f62 ?_
                    simp only [go_sem]
                    refine cutO shT_ok ctNo_ok 0 ?_
                    simp only [kO_normal, List.take_zero, List.drop_zero, go_sem]
                    repeat ((with_reducible refine And.intro ?_ ?_); focus exact an4)
                    refine endO ?_
                    refine ⟨_, (Option.some.inj H).symm, ?_⟩
                    refine SubF_of ⟨[some 0, some 1, some 2, some 3, some 4, some 5, some 6, some 7, some 8, some 9, some 10, some 11, some 12, some 13, some 5], ?_, ?_, by rfl, by rfl⟩
                    · simp [CvL, Cv, getM]
                    · exact ⟨CvB_dead, cv, CvB_dead, (CvB_same nfA), (CvB_same nfA), CvB_dead, CvB_dead, cv, CvB_dead, cv, (CvB_same nfA), (CvB_same nfA), (CvB_same nfA), (CvB_same nfA), cv, trivial⟩
                  · try dsimp only at H ⊢
                    try simp only [tp]
                    try simp only [m_normal]
                    refine seqM ?_
                    refine sq ctNo_ok ?_
                    simp only [go_sem, Nat.reduceLeDiff, Nat.reduceLT, Nat.reduceAdd]
                    repeat ((with_reducible refine And.intro ?_ ?_); focus exact an4)
                    refine join_den (fun e : List (Int × Int) => (.ptr 1 0 0 0 :: tp 4 (.int .i64 w4_1 :: .top :: .ptr 9 0 0 0 :: .sl 13 4 0 r58.2.1.length false :: tp 184 []))) (fun e => [.dead, .lit 87 [.int .i64 (wr .i64 (v2_2 + ((gd p1 v2_1.toNat).Wait))), .sl 3 10 0 v2_3.length false, .sl 4 4 0 v2_4.length false, .val (.map (some mk5))], .dead, .row 39 10 v2_3.length (enR c_TRegulate v2_3), .row 23 4 v2_4.length (enR c_TRegulateWord v2_4), .dead, .dead, .dead, .dead, .lit 39 [.sl 10 3 0 r58.1.Table.length false, .int .i64 r58.1.Channel, .bool r58.1.Lead, .int .i64 r58.1.Heard, .bool r58.1.Stopped, .bool r58.1.Moving, .int .i64 r58.1.To, .int .i64 r58.1.At, .sl 11 2 0 r58.1.Blocked.length false, .sl 12 1 0 r58.1.Clear.length false], .row 45 3 r58.1.Table.length (enR c_TRegulateChannel r58.1.Table), .row 79 2 r58.1.Blocked.length (enR c_TRegulateBlock r58.1.Blocked), .row 3 1 r58.1.Clear.length (enR c_i64 r58.1.Clear), .row 23 4 r58.2.1.length (enR c_TRegulateWord r58.2.1), .dead, .mapb mk5 e]) H (fun o H hn1_12 hn2_12 => ?_) (fun w12_4 H => ?_)
                    · unfold F8_L12 at H
                      try dsimp only at H ⊢
                      try simp only [tp]
                      refine condM' rfl trivial (fun hc => ?_) (fun hc => ?_)
                      · have hk63 : ((bEq w4_1 0) && (!bEq r58.1.Channel ((gd v2_3 w4_1.toNat).Channel))) = false := by first | simpa using hc | simpa only [Bool.not_eq_true', Bool.not_eq_false'] using hc
                        replace H := cond_f hc H
                        refine rg ctNo_ok ?_
                        simp only [go_sem, Nat.reduceAdd]
                        refine ⟨_, (Option.some.inj H).symm, ?_⟩
                        refine SubF_of ⟨[some 0, some 1, some 2, some 3, some 4, some 5, some 6, some 7, some 8, some 9, some 10, some 11, some 12, some 13, some 14, some 14], ?_, ?_, by rfl, by rfl⟩
                        · simp [CvL, Cv, getM]
                        · exact ⟨CvB_dead, cv, CvB_dead, (CvB_same nfA), (CvB_same nfA), CvB_dead, CvB_dead, CvB_dead, CvB_dead, cv, (CvB_same nfA), (CvB_same nfA), (CvB_same nfA), (CvB_same nfA), CvB_dead, cv, trivial⟩
                      have hk63 : ((bEq w4_1 0) && (!bEq r58.1.Channel ((gd v2_3 w4_1.toNat).Channel))) = true := by first | simpa using hc | simpa only [Bool.not_eq_true', Bool.not_eq_false'] using hc
                      replace H := cond_t hc H
                      refine draw_tail shT_ok ctNo_ok 6 (by kernel_rfl) (by kernel_rfl) (by kernel_rfl) ?_
                      simp only [kO_normal, List.take_succ_cons, List.take_zero, List.drop_succ_cons, List.drop_zero, go_sem, Nat.reduceLeDiff, Nat.reduceLT, Nat.reduceAdd]
                      repeat ((with_reducible refine And.intro ?_ ?_); focus exact an0)
                      refine deleteO (kt := 3) (et := 3) (b := 14) (k := mk5) (m := w11_4) (x := r58.1.Channel) rfl rfl rfl (by kernel_rfl) (by kernel_rfl) (by first | exact trivial | (simp only [go_sem, Nat.reduceLeDiff, Nat.reduceLT, Nat.reduceAdd, Nat.reduceMul, Nat.reduceSub, Nat.reduceEqDiff, Nat.reduceBEq, Int.reduceToNat, reduceCtorEq]; done) | simp [og]) (by first | exact trivial | (simp only [go_sem, Nat.reduceLeDiff, Nat.reduceLT, Nat.reduceAdd, Nat.reduceMul, Nat.reduceSub, Nat.reduceEqDiff, Nat.reduceBEq, Int.reduceToNat, reduceCtorEq]; done) | simp [og]) rfl rfl rfl ?_
                      simp only [go_sem]
                      refine cutO shT_ok ctNo_ok 0 ?_
                      simp only [kO_normal, List.take_zero, List.drop_zero, go_sem]
                      repeat ((with_reducible refine And.intro ?_ ?_); focus exact an0)
                      refine endO ?_
                      refine ⟨_, (Option.some.inj H).symm, ?_⟩
                      refine SubF_of ⟨[some 0, some 1, some 2, some 3, some 4, some 5, some 6, some 7, some 8, some 9, some 10, some 11, some 12, some 13, some 14, some 14], ?_, ?_, by rfl, by rfl⟩
                      · simp [CvL, Cv, getM]
                      · exact ⟨CvB_dead, cv, CvB_dead, (CvB_same nfA), (CvB_same nfA), CvB_dead, CvB_dead, CvB_dead, CvB_dead, cv, (CvB_same nfA), (CvB_same nfA), (CvB_same nfA), (CvB_same nfA), CvB_dead, cv, trivial⟩
                    · try dsimp only at H ⊢
                      try simp only [tp]
                      try simp only [m_normal]
                      refine seqM ?_
                      refine fz_mean [10, 11, 12] ?_ ?_
                      · simp only [go_sem, Nat.reduceBEq]
                        try exact at0
                      simp only [go_sem, Nat.reduceBEq, Nat.reduceAdd]
                      obtain ⟨f65, H⟩ := need_some.1 H
                      replace f65 := inb_iff.1 f65
                      refine draw_rule shT_ok ctNo_ok 0 (by kernel_rfl) (by kernel_rfl) ?_
                      intro an han
                      simp only [d_nil, d_cons, nxtD, xrD, xoD, roEq, minL, List.append_nil, refsOp, refs, mask, maskF, place, placeF, okLog, pairOk, hit, inL, slotsF, nrH, nrB, List.replicate_zero, Nat.sub_self, Nat.add_zero, Nat.zero_add, Nat.reduceSub, Nat.lt_add_one, go_sem, Nat.reduceLeDiff, Nat.reduceLT, Nat.reduceAdd, Nat.reduceSub, Nat.reduceBEq, f65]
                      repeat ((with_reducible refine And.intro ?_ ?_); focus exact an2)
                      refine seqM ?_
                      obtain ⟨f66, H⟩ := need_some.1 H
                      replace f66 := capb_iff.1 f66
                      refine rg ctNo_ok ?_
                      simp only [go_sem, Nat.reduceLeDiff, Nat.reduceLT, Nat.reduceAdd, f66]
                      repeat ((with_reducible refine And.intro ?_ ?_); focus exact an5)
                      refine sq ctNo_ok ?_
                      simp only [go_sem]
                      refine rg ctNo_ok ?_
                      simp only [go_sem]
                      refine ⟨_, (Option.some.inj H).symm, ?_⟩
                      refine SubF_of ⟨[some 0, some 1, some 2, some 3, some 4, some 5, some 3, some 16, some 15], ?_, ?_, by rfl, by rfl⟩
                      · simp [CvL, Cv]
                      · exact ⟨CvB_dead, cv, CvB_dead, CvB_dead, CvB_dead, CvB_dead, CvB_row nr_TRegulate cl (upc_row (f := c_TRegulate) v2_3 w4_1.toNat 0 r58.1 (fun _ _ _ _ => rfl) (fun y hy => match y, hy with | 0, _ => rfl | 1, _ => rfl | 2, _ => rfl | 3, _ => rfl | 4, _ => rfl | 5, _ => rfl | 6, _ => rfl | 7, _ => rfl | 8, _ => rfl | 9, _ => rfl | (y+10), h => absurd h nlt)), CvB_row nr_TRegulateWord cl (app_row (f := c_TRegulateWord) v2_4 r58.2.1 (fun _ _ _ _ => rfl) (fun _ _ _ _ => rfl)), cv, trivial⟩
                have hk45 : (bEq ((gd p1 v2_1.toNat).Kind) 3) = true := by simpa using hc
                replace H := cond_t hc H
                refine seqM ?_
                refine sq ctNo_ok ?_
                simp only [go_sem, Nat.reduceLeDiff, Nat.reduceLT, Nat.reduceAdd]
                repeat ((with_reducible refine And.intro ?_ ?_); focus exact an0)
                refine condM rfl trivial (fun hc => ?_) (fun hc => ?_)
                · have hk46 : (bEq (v2_4.length : Nat) 0) = true := by simpa using hc
                  replace H := cond_t hc H
                  refine sq ctNo_ok ?_
                  simp only [go_sem]
                  refine rg ctNo_ok ?_
                  simp only [go_sem]
                  refine ⟨_, (Option.some.inj H).symm, ?_⟩
                  refine SubF_of ⟨[some 0, some 1, some 2, some 3, some 4, some 5, some 3, some 4, some 5], ?_, ?_, by rfl, by rfl⟩
                  · simp [CvL, Cv]
                  · exact ⟨CvB_dead, cv, CvB_dead, CvB_dead, CvB_dead, CvB_dead, CvB_row nr_TRegulate cl (fun _ _ _ _ => rfl), CvB_row nr_TRegulateWord cl (fun _ _ _ _ => rfl), cv, trivial⟩
                have hk46 : (bEq (v2_4.length : Nat) 0) = false := by simpa using hc
                replace H := cond_f hc H
                refine rg ctNo_ok ?_
                simp only [go_sem]
                obtain ⟨f47, H⟩ := need_some.1 H
                replace f47 := ne0_iff.1 f47
                obtain ⟨f48, H⟩ := need_some.1 H
                replace f48 := inb_iff.1 f48
                obtain ⟨r49, e50, H⟩ := bsi H
                refine draw_rule shT_ok ct8t5_ok 4 (by kernel_rfl) (by kernel_rfl) ?_
                intro an han
                simp only [d_nil, d_cons, nxtD, xrD, xoD, roEq, minL, List.append_nil, refsOp, refs, refsL, mask, maskF, place, placeF, okLog, pairOk, hit, inL, slotsF, ren, renL, rnN, nrH, nrB, nrL, nr, List.replicate_zero, List.replicate_succ, Nat.sub_self, Nat.add_zero, Nat.zero_add, Nat.reduceSub, Nat.lt_add_one, go_sem, Nat.reduceLeDiff, Nat.reduceLT, Nat.reduceAdd, Nat.reduceSub, Nat.reduceBEq, ct8t5_36, body36, f47, f48, e50]
                repeat ((with_reducible refine And.intro ?_ ?_); focus exact an2)
                refine seqM ?_
                refine sq ctNo_ok ?_
                simp only [go_sem]
                refine condM rfl trivial (fun hc => ?_) (fun hc => ?_)
                · have hk51 : (bEq r49.2.2 0) = false := by simpa using hc
                  replace H := cond_t hc H
                  refine sq ctNo_ok ?_
                  simp only [go_sem, Nat.reduceLeDiff, Nat.reduceLT, Nat.reduceAdd]
                  repeat ((with_reducible refine And.intro ?_ ?_); focus exact an4)
                  refine rg ctNo_ok ?_
                  simp only [go_sem]
                  refine ⟨_, (Option.some.inj H).symm, ?_⟩
                  refine SubF_of ⟨[some 0, some 1, some 2, some 3, some 4, some 5, some 3, some 4, some 5], ?_, ?_, by rfl, by rfl⟩
                  · simp [CvL, Cv]
                  · exact ⟨CvB_dead, cv, CvB_dead, CvB_dead, CvB_dead, CvB_dead, CvB_row nr_TRegulate cl (fun _ _ _ _ => rfl), CvB_row nr_TRegulateWord cl (fun _ _ _ _ => rfl), cv, trivial⟩
                have hk51 : (bEq r49.2.2 0) = true := by simpa using hc
                replace H := cond_f hc H
                refine rg ctNo_ok ?_
                simp only [go_sem]
                refine seqM ?_
                refine sq ctNo_ok ?_
                simp only [go_sem, Nat.reduceLeDiff, Nat.reduceLT, Nat.reduceAdd]
                repeat ((with_reducible refine And.intro ?_ ?_); focus exact an4)
                refine join_den (fun e : List (Int × Int) => (.ptr 1 0 0 0 :: tp 4 (.int .i64 w4_1 :: .ptr 7 0 0 0 :: .ptr 9 0 0 0 :: .sl 13 4 0 r49.2.1.length false :: tp 184 []))) (fun e => [.dead, .lit 87 [.int .i64 (wr .i64 (v2_2 + ((gd p1 v2_1.toNat).Wait))), .sl 3 10 0 v2_3.length false, .sl 4 4 0 v2_4.length false, .val (.map (some mk5))], .dead, .row 39 10 v2_3.length (enR c_TRegulate v2_3), .row 23 4 v2_4.length (enR c_TRegulateWord v2_4), .dead, .dead, .lit 39 [.ro 3 (((gd v2_3 w4_1.toNat).Table).length) false (enR c_TRegulateChannel ((gd v2_3 w4_1.toNat).Table)), .int .i64 ((gd v2_3 w4_1.toNat).Channel), .bool ((gd v2_3 w4_1.toNat).Lead), .int .i64 ((gd v2_3 w4_1.toNat).Heard), .bool ((gd v2_3 w4_1.toNat).Stopped), .bool ((gd v2_3 w4_1.toNat).Moving), .int .i64 ((gd v2_3 w4_1.toNat).To), .int .i64 ((gd v2_3 w4_1.toNat).At), .ro 2 (((gd v2_3 w4_1.toNat).Blocked).length) false (enR c_TRegulateBlock ((gd v2_3 w4_1.toNat).Blocked)), .ro 1 (((gd v2_3 w4_1.toNat).Clear).length) false (enR c_i64 ((gd v2_3 w4_1.toNat).Clear))], .dead, .lit 39 [.sl 10 3 0 r49.1.Table.length false, .int .i64 r49.1.Channel, .bool r49.1.Lead, .int .i64 r49.1.Heard, .bool r49.1.Stopped, .bool r49.1.Moving, .int .i64 r49.1.To, .int .i64 r49.1.At, .sl 11 2 0 r49.1.Blocked.length false, .sl 12 1 0 r49.1.Clear.length false], .row 45 3 r49.1.Table.length (enR c_TRegulateChannel r49.1.Table), .row 79 2 r49.1.Blocked.length (enR c_TRegulateBlock r49.1.Blocked), .row 3 1 r49.1.Clear.length (enR c_i64 r49.1.Clear), .row 23 4 r49.2.1.length (enR c_TRegulateWord r49.2.1), .mapb mk5 e]) H (fun o H hn1_9 hn2_9 => ?_) (fun w9_4 H => ?_)
                · unfold F8_L9 at H
                  try dsimp only at H ⊢
                  try simp only [tp]
                  refine condM' rfl trivial (fun hc => ?_) (fun hc => ?_)
                  · have hk52 : (((bEq w4_1 0) && r49.1.Stopped) && (!((gd v2_3 w4_1.toNat).Stopped))) = false := by first | simpa using hc | simpa only [Bool.not_eq_true', Bool.not_eq_false'] using hc
                    replace H := cond_f hc H
                    refine rg ctNo_ok ?_
                    simp only [go_sem, Nat.reduceAdd]
                    refine ⟨_, (Option.some.inj H).symm, ?_⟩
                    refine SubF_of ⟨[some 0, some 1, some 2, some 3, some 4, some 5, some 6, some 7, some 8, some 9, some 10, some 11, some 12, some 13, some 5], ?_, ?_, by rfl, by rfl⟩
                    · simp [CvL, Cv, getM]
                    · exact ⟨CvB_dead, cv, CvB_dead, (CvB_same nfA), (CvB_same nfA), CvB_dead, CvB_dead, cv, CvB_dead, cv, (CvB_same nfA), (CvB_same nfA), (CvB_same nfA), (CvB_same nfA), cv, trivial⟩
                  have hk52 : (((bEq w4_1 0) && r49.1.Stopped) && (!((gd v2_3 w4_1.toNat).Stopped))) = true := by first | simpa using hc | simpa only [Bool.not_eq_true', Bool.not_eq_false'] using hc
                  replace H := cond_t hc H
                  refine draw_tail shT_ok ctNo_ok 10 (by kernel_rfl) (by kernel_rfl) (by kernel_rfl) ?_
                  simp only [kO_normal, List.take_succ_cons, List.take_zero, List.drop_succ_cons, List.drop_zero, go_sem, Nat.reduceLeDiff, Nat.reduceLT, Nat.reduceAdd]
                  repeat ((with_reducible refine And.intro ?_ ?_); focus exact an4)
                  obtain ⟨f53, H⟩ := need_some.1 H
                  replace f53 := decide_eq_true_iff.1 f53
                  refine mapUpdateO (kt := 3) (et := 3) (b := 5) (k := mk5) (m := v2_5) (x := (gd v2_3 w4_1.toNat).Channel) (v := wr .i64 (v2_2 + ((gd p1 v2_1.toNat).Wait))) rfl rfl (by kernel_rfl) (by kernel_rfl) (by first | exact trivial | (simp only [go_sem, Nat.reduceLeDiff, Nat.reduceLT, Nat.reduceAdd, Nat.reduceMul, Nat.reduceSub, Nat.reduceEqDiff, Nat.reduceBEq, Int.reduceToNat, reduceCtorEq]; done) | simp [og]) (by first | exact trivial | (simp only [go_sem, Nat.reduceLeDiff, Nat.reduceLT, Nat.reduceAdd, Nat.reduceMul, Nat.reduceSub, Nat.reduceEqDiff, Nat.reduceBEq, Int.reduceToNat, reduceCtorEq]; done) | simp [og]) (by first | exact trivial | (simp only [go_sem, Nat.reduceLeDiff, Nat.reduceLT, Nat.reduceAdd, Nat.reduceMul, Nat.reduceSub, Nat.reduceEqDiff, Nat.reduceBEq, Int.reduceToNat, reduceCtorEq]; done) | simp [og]) rfl rfl rfl rfl f53 ?_
                  simp only [go_sem]
                  refine cutO shT_ok ctNo_ok 0 ?_
                  simp only [kO_normal, List.take_zero, List.drop_zero, go_sem]
                  repeat ((with_reducible refine And.intro ?_ ?_); focus exact an4)
                  refine endO ?_
                  refine ⟨_, (Option.some.inj H).symm, ?_⟩
                  refine SubF_of ⟨[some 0, some 1, some 2, some 3, some 4, some 5, some 6, some 7, some 8, some 9, some 10, some 11, some 12, some 13, some 5], ?_, ?_, by rfl, by rfl⟩
                  · simp [CvL, Cv, getM]
                  · exact ⟨CvB_dead, cv, CvB_dead, (CvB_same nfA), (CvB_same nfA), CvB_dead, CvB_dead, cv, CvB_dead, cv, (CvB_same nfA), (CvB_same nfA), (CvB_same nfA), (CvB_same nfA), cv, trivial⟩
                · try dsimp only at H ⊢
                  try simp only [tp]
                  try simp only [m_normal]
                  refine seqM ?_
                  refine sq ctNo_ok ?_
                  simp only [go_sem, Nat.reduceLeDiff, Nat.reduceLT, Nat.reduceAdd]
                  repeat ((with_reducible refine And.intro ?_ ?_); focus exact an4)
                  refine join_den (fun e : List (Int × Int) => (.ptr 1 0 0 0 :: tp 4 (.int .i64 w4_1 :: .top :: .ptr 9 0 0 0 :: .sl 13 4 0 r49.2.1.length false :: tp 184 []))) (fun e => [.dead, .lit 87 [.int .i64 (wr .i64 (v2_2 + ((gd p1 v2_1.toNat).Wait))), .sl 3 10 0 v2_3.length false, .sl 4 4 0 v2_4.length false, .val (.map (some mk5))], .dead, .row 39 10 v2_3.length (enR c_TRegulate v2_3), .row 23 4 v2_4.length (enR c_TRegulateWord v2_4), .dead, .dead, .dead, .dead, .lit 39 [.sl 10 3 0 r49.1.Table.length false, .int .i64 r49.1.Channel, .bool r49.1.Lead, .int .i64 r49.1.Heard, .bool r49.1.Stopped, .bool r49.1.Moving, .int .i64 r49.1.To, .int .i64 r49.1.At, .sl 11 2 0 r49.1.Blocked.length false, .sl 12 1 0 r49.1.Clear.length false], .row 45 3 r49.1.Table.length (enR c_TRegulateChannel r49.1.Table), .row 79 2 r49.1.Blocked.length (enR c_TRegulateBlock r49.1.Blocked), .row 3 1 r49.1.Clear.length (enR c_i64 r49.1.Clear), .row 23 4 r49.2.1.length (enR c_TRegulateWord r49.2.1), .dead, .mapb mk5 e]) H (fun o H hn1_10 hn2_10 => ?_) (fun w10_4 H => ?_)
                  · unfold F8_L10 at H
                    try dsimp only at H ⊢
                    try simp only [tp]
                    refine condM' rfl trivial (fun hc => ?_) (fun hc => ?_)
                    · have hk54 : ((bEq w4_1 0) && (!bEq r49.1.Channel ((gd v2_3 w4_1.toNat).Channel))) = false := by first | simpa using hc | simpa only [Bool.not_eq_true', Bool.not_eq_false'] using hc
                      replace H := cond_f hc H
                      refine rg ctNo_ok ?_
                      simp only [go_sem, Nat.reduceAdd]
                      refine ⟨_, (Option.some.inj H).symm, ?_⟩
                      refine SubF_of ⟨[some 0, some 1, some 2, some 3, some 4, some 5, some 6, some 7, some 8, some 9, some 10, some 11, some 12, some 13, some 14, some 14], ?_, ?_, by rfl, by rfl⟩
                      · simp [CvL, Cv, getM]
                      · exact ⟨CvB_dead, cv, CvB_dead, (CvB_same nfA), (CvB_same nfA), CvB_dead, CvB_dead, CvB_dead, CvB_dead, cv, (CvB_same nfA), (CvB_same nfA), (CvB_same nfA), (CvB_same nfA), CvB_dead, cv, trivial⟩
                    have hk54 : ((bEq w4_1 0) && (!bEq r49.1.Channel ((gd v2_3 w4_1.toNat).Channel))) = true := by first | simpa using hc | simpa only [Bool.not_eq_true', Bool.not_eq_false'] using hc
                    replace H := cond_t hc H
                    refine draw_tail shT_ok ctNo_ok 6 (by kernel_rfl) (by kernel_rfl) (by kernel_rfl) ?_
                    simp only [kO_normal, List.take_succ_cons, List.take_zero, List.drop_succ_cons, List.drop_zero, go_sem, Nat.reduceLeDiff, Nat.reduceLT, Nat.reduceAdd]
                    repeat ((with_reducible refine And.intro ?_ ?_); focus exact an0)
                    refine deleteO (kt := 3) (et := 3) (b := 14) (k := mk5) (m := w9_4) (x := r49.1.Channel) rfl rfl rfl (by kernel_rfl) (by kernel_rfl) (by first | exact trivial | (simp only [go_sem, Nat.reduceLeDiff, Nat.reduceLT, Nat.reduceAdd, Nat.reduceMul, Nat.reduceSub, Nat.reduceEqDiff, Nat.reduceBEq, Int.reduceToNat, reduceCtorEq]; done) | simp [og]) (by first | exact trivial | (simp only [go_sem, Nat.reduceLeDiff, Nat.reduceLT, Nat.reduceAdd, Nat.reduceMul, Nat.reduceSub, Nat.reduceEqDiff, Nat.reduceBEq, Int.reduceToNat, reduceCtorEq]; done) | simp [og]) rfl rfl rfl ?_
                    simp only [go_sem]
                    refine cutO shT_ok ctNo_ok 0 ?_
                    simp only [kO_normal, List.take_zero, List.drop_zero, go_sem]
                    repeat ((with_reducible refine And.intro ?_ ?_); focus exact an0)
                    refine endO ?_
                    refine ⟨_, (Option.some.inj H).symm, ?_⟩
                    refine SubF_of ⟨[some 0, some 1, some 2, some 3, some 4, some 5, some 6, some 7, some 8, some 9, some 10, some 11, some 12, some 13, some 14, some 14], ?_, ?_, by rfl, by rfl⟩
                    · simp [CvL, Cv, getM]
                    · exact ⟨CvB_dead, cv, CvB_dead, (CvB_same nfA), (CvB_same nfA), CvB_dead, CvB_dead, CvB_dead, CvB_dead, cv, (CvB_same nfA), (CvB_same nfA), (CvB_same nfA), (CvB_same nfA), CvB_dead, cv, trivial⟩
                  · try dsimp only at H ⊢
                    try simp only [tp]
                    try simp only [m_normal]
                    refine seqM ?_
                    refine fz_mean [10, 11, 12] ?_ ?_
                    · simp only [go_sem, Nat.reduceBEq]
                      try exact at0
                    simp only [go_sem, Nat.reduceBEq, Nat.reduceAdd]
                    obtain ⟨f56, H⟩ := need_some.1 H
                    replace f56 := inb_iff.1 f56
                    refine draw_rule shT_ok ctNo_ok 0 (by kernel_rfl) (by kernel_rfl) ?_
                    intro an han
                    simp only [d_nil, d_cons, nxtD, xrD, xoD, roEq, minL, List.append_nil, refsOp, refs, mask, maskF, place, placeF, okLog, pairOk, hit, inL, slotsF, nrH, nrB, List.replicate_zero, Nat.sub_self, Nat.add_zero, Nat.zero_add, Nat.reduceSub, Nat.lt_add_one, go_sem, Nat.reduceLeDiff, Nat.reduceLT, Nat.reduceAdd, Nat.reduceSub, Nat.reduceBEq, f56]
                    repeat ((with_reducible refine And.intro ?_ ?_); focus exact an2)
                    refine seqM ?_
                    obtain ⟨f57, H⟩ := need_some.1 H
                    replace f57 := capb_iff.1 f57
                    refine rg ctNo_ok ?_
                    simp only [go_sem, Nat.reduceLeDiff, Nat.reduceLT, Nat.reduceAdd, f57]
                    repeat ((with_reducible refine And.intro ?_ ?_); focus exact an5)
                    refine sq ctNo_ok ?_
                    simp only [go_sem]
                    refine rg ctNo_ok ?_
                    simp only [go_sem]
                    refine ⟨_, (Option.some.inj H).symm, ?_⟩
                    refine SubF_of ⟨[some 0, some 1, some 2, some 3, some 4, some 5, some 3, some 16, some 15], ?_, ?_, by rfl, by rfl⟩
                    · simp [CvL, Cv]
                    · exact ⟨CvB_dead, cv, CvB_dead, CvB_dead, CvB_dead, CvB_dead, CvB_row nr_TRegulate cl (upc_row (f := c_TRegulate) v2_3 w4_1.toNat 0 r49.1 (fun _ _ _ _ => rfl) (fun y hy => match y, hy with | 0, _ => rfl | 1, _ => rfl | 2, _ => rfl | 3, _ => rfl | 4, _ => rfl | 5, _ => rfl | 6, _ => rfl | 7, _ => rfl | 8, _ => rfl | 9, _ => rfl | (y+10), h => absurd h nlt)), CvB_row nr_TRegulateWord cl (app_row (f := c_TRegulateWord) v2_4 r49.2.1 (fun _ _ _ _ => rfl) (fun _ _ _ _ => rfl)), cv, trivial⟩
          · obtain ⟨w3_1, w3_2, w3_3, w3_4⟩ := e
            try dsimp only at H ⊢
            try simp only [tp]
            try simp only [r_normal]
            try simp only [go_sem]
            refine bif_split (c := (!w3_1)) (fun hg67 => ?_) (fun hg67 => ?_)
            · replace H := cond_t hg67 H
              refine cutO shT_ok ctNo_ok 7 ?_
              simp only [kO_normal, List.take_succ_cons, List.take_zero, List.drop_succ_cons, List.drop_zero, go_sem, hg67]
              repeat ((with_reducible refine And.intro ?_ ?_); focus exact an1)
              refine endO ?_
              refine condM rfl trivial (fun hc => ?_) (fun hc => ?_)
              rotate_left
              · cases hc
              refine sq ctNo_ok ?_
              simp only [go_sem]
              refine rg ctNo_ok ?_
              simp only [go_sem]
              obtain ⟨q68, H, hq69⟩ := bsi H
              replace hq69 := hn2_2 _ (Option.some.inj hq69).symm
              obtain rfl := (Option.some.inj hq69).symm
              refine cutO shT_ok ctNo_ok 2 ?_
              simp only [kO_normal, List.take_succ_cons, List.take_zero, List.drop_succ_cons, List.drop_zero, go_sem]
              repeat ((with_reducible refine And.intro ?_ ?_); focus exact an1)
              refine endO ?_
              refine rg ctNo_ok ?_
              simp only [go_sem]
              obtain rfl := Option.some.inj H
              first | rfl | simp only [Bool.and_false, Bool.false_and, Bool.and_true, Bool.true_and] | exact congrArg AV.bool (Eq.symm (by assumption))
            replace H := cond_f hg67 H
            refine cutO shT_ok ctNo_ok 4 ?_
            simp only [kO_normal, List.take_succ_cons, List.take_zero, List.drop_succ_cons, List.drop_zero, go_sem, hg67]
            repeat ((with_reducible refine And.intro ?_ ?_); focus exact an1)
            refine inlG (rs := [.tmp 2]) Try.func41 (by kernel_rfl) rfl rfl Try.ntmps41 (caps := []) (tc := [.ptr 1 0 0 0]) (by first | rfl | simp only [gok, go_sem, Nat.reduceLeDiff, Nat.reduceLT, Nat.reduceAdd, Nat.reduceMul, Nat.reduceSub, Nat.reduceEqDiff, Nat.reduceBEq, Int.reduceToNat, reduceCtorEq, hg4, hg67]) rfl (by simp only [go_sem]) rfl ?_
            simp only [List.length_cons, List.length_nil, Nat.reduceAdd, Nat.reduceSub, List.replicate_succ, List.replicate_zero, List.cons_append, List.nil_append]
            refine sq ctNo_ok ?_
            simp only [go_sem]
            refine seqM ?_
            refine sq ctNo_ok ?_
            simp only [go_sem]
            refine blkM ?_
            refine loop_den (fun s : Int => (.ptr 1 0 0 0 :: .top :: .top :: .int .i64 s :: tp 61 [])) (fun s => [.dead, .lit 87 [.int .i64 (wr .i64 (v2_2 + ((gd p1 v2_1.toNat).Wait))), .sl 6 10 0 w3_2.length false, .sl 7 4 0 w3_3.length false, .val (.map (some mk5))], .dead, .dead, .dead, .dead, .row 39 10 w3_2.length (enR c_TRegulate w3_2), .row 23 4 w3_3.length (enR c_TRegulateWord w3_3), .mapb mk5 w3_4]) (fun e : Unit => (tp 65 [])) (fun e => [.dead, .lit 87 [.int .i64 (wr .i64 (v2_2 + ((gd p1 v2_1.toNat).Wait))), .sl 6 10 0 w3_2.length false, .sl 7 4 0 w3_3.length false, .val (.map (some mk5))], .dead, .dead, .dead, .dead, .row 39 10 w3_2.length (enR c_TRegulate w3_2), .row 23 4 w3_3.length (enR c_TRegulateWord w3_3), .mapb mk5 w3_4]) H ?_ (fun v13_1 o H hn1_13 hn2_13 => ?_) (fun e H => ?_)
            · refine SubF_of ⟨[some 0, some 1, some 2, some 3, some 4, some 5, some 6, some 7, some 8], ?_, ?_, by rfl, by rfl⟩
              · simp [CvL, Cv, getM, tp]
              · exact ⟨CvB_dead, cv, CvB_dead, CvB_dead, CvB_dead, CvB_dead, (CvB_same nfA), (CvB_same nfA), cv, trivial⟩
            · unfold F8_L13 at H
              try dsimp only at H ⊢
              try simp only [tp]
              refine seqM ?_
              refine sq ctNo_ok ?_
              simp only [go_sem, Nat.reduceLeDiff, Nat.reduceLT, Nat.reduceAdd]
              repeat ((with_reducible refine And.intro ?_ ?_); focus exact an0)
              refine condM' rfl trivial (fun hc => ?_) (fun hc => ?_)
              · have hk70 : (bLt v13_1 (w3_2.length : Nat)) = false := by simpa using hc
                replace H := cond_f hc H
                refine rg ctNo_ok ?_
                simp only [go_sem]
                refine ⟨_, (Option.some.inj H).symm, ?_⟩
                refine SubF_of ⟨[some 0, some 1, some 2, some 3, some 4, some 5, some 6, some 7, some 8], ?_, ?_, by rfl, by rfl⟩
                · simp [CvL, Cv]
                · exact ⟨CvB_dead, cv, CvB_dead, CvB_dead, CvB_dead, CvB_dead, (CvB_same nfA), (CvB_same nfA), cv, trivial⟩
              have hk70 : (bLt v13_1 (w3_2.length : Nat)) = true := by simpa using hc
              replace H := cond_t hc H
              refine rg ctNo_ok ?_
              simp only [go_sem]
              refine seqM ?_
              refine blkM ?_
              refine seqM ?_
              obtain ⟨f71, H⟩ := need_some.1 H
              replace f71 := inb_iff.1 f71
              refine draw_quiet shT_ok ctNo_ok (by kernel_rfl) (by kernel_rfl) ?_
              simp only [go_sem, Nat.reduceLeDiff, Nat.reduceLT, Nat.reduceAdd, f71]
              repeat ((with_reducible refine And.intro ?_ ?_); focus exact an4)
              refine seqM ?_
              obtain ⟨f72, H⟩ := need_some.1 H
              replace f72 := inb_iff.1 f72
              obtain ⟨r73, e74, H⟩ := bsi H
              refine draw_quiet shT_ok ct8t3_ok (by kernel_rfl) (by kernel_rfl) ?_
              simp only [go_sem, Nat.reduceLeDiff, Nat.reduceLT, Nat.reduceAdd, ct8t3_17, body17, f72, e74]
              repeat ((with_reducible refine And.intro ?_ ?_); focus exact an0)
              refine sq ctNo_ok ?_
              simp only [go_sem, Nat.reduceLeDiff, Nat.reduceLT, Nat.reduceAdd]
              repeat ((with_reducible refine And.intro ?_ ?_); focus exact an4)
              refine condM' rfl trivial (fun hc => ?_) (fun hc => ?_)
              · have hk75 : ((!bEq r73.2 0) || (((lkp w3_4 ((gd w3_2 v13_1.toNat).Channel)).isSome && r73.1) && (bLt (wr .i64 (((lkp w3_4 ((gd w3_2 v13_1.toNat).Channel)).getD 0) + 500000)) (wr .i64 (v2_2 + ((gd p1 v2_1.toNat).Wait)))))) = false := by first | simpa using hc | simpa only [Bool.not_eq_true', Bool.not_eq_false'] using hc
                replace H := cond_f hc H
                refine rg ctNo_ok ?_
                simp only [go_sem]
                refine rg ctNo_ok ?_
                simp only [go_sem]
                refine ⟨_, (Option.some.inj H).symm, ?_⟩
                refine SubF_of ⟨[some 0, some 1, some 2, some 3, some 4, some 5, some 6, some 7, some 8], ?_, ?_, by rfl, by rfl⟩
                · simp [CvL, Cv, getM]
                · exact ⟨CvB_dead, cv, CvB_dead, CvB_dead, CvB_dead, CvB_dead, (CvB_same nfA), (CvB_same nfA), cv, trivial⟩
              have hk75 : ((!bEq r73.2 0) || (((lkp w3_4 ((gd w3_2 v13_1.toNat).Channel)).isSome && r73.1) && (bLt (wr .i64 (((lkp w3_4 ((gd w3_2 v13_1.toNat).Channel)).getD 0) + 500000)) (wr .i64 (v2_2 + ((gd p1 v2_1.toNat).Wait)))))) = true := by first | simpa using hc | simpa only [Bool.not_eq_true', Bool.not_eq_false'] using hc
              replace H := cond_t hc H
              refine sq ctNo_ok ?_
              simp only [go_sem]
              refine rg ctNo_ok ?_
              simp only [go_sem]
              obtain ⟨q78, H, hq79⟩ := bsi H
              replace hq79 := hn2_13 _ (Option.some.inj hq79).symm
              obtain rfl := (Option.some.inj hq79).symm
              refine cutO shT_ok ctNo_ok 2 ?_
              simp only [kO_normal, List.take_succ_cons, List.take_zero, List.drop_succ_cons, List.drop_zero, go_sem]
              repeat ((with_reducible refine And.intro ?_ ?_); focus exact an1)
              refine endO ?_
              refine condM rfl trivial (fun hc => ?_) (fun hc => ?_)
              rotate_left
              · cases hc
              refine sq ctNo_ok ?_
              simp only [go_sem]
              refine rg ctNo_ok ?_
              simp only [go_sem]
              obtain ⟨q76, H, hq77⟩ := bsi H
              replace hq77 := hn2_2 _ (Option.some.inj hq77).symm
              obtain rfl := (Option.some.inj hq77).symm
              refine cutO shT_ok ctNo_ok 2 ?_
              simp only [kO_normal, List.take_succ_cons, List.take_zero, List.drop_succ_cons, List.drop_zero, go_sem]
              repeat ((with_reducible refine And.intro ?_ ?_); focus exact an1)
              refine endO ?_
              refine rg ctNo_ok ?_
              simp only [go_sem]
              obtain rfl := Option.some.inj H
              first | rfl | simp only [Bool.and_false, Bool.false_and, Bool.and_true, Bool.true_and] | exact congrArg AV.bool (Eq.symm (by assumption))
            · try dsimp only at H ⊢
              try simp only [tp]
              try simp only [m_normal]
              refine sq ctNo_ok ?_
              simp only [go_sem]
              refine rg ctNo_ok ?_
              simp only [go_sem]
              refine cutO shT_ok ctNo_ok 2 ?_
              simp only [kO_normal, List.take_succ_cons, List.take_zero, List.drop_succ_cons, List.drop_zero, go_sem]
              repeat ((with_reducible refine And.intro ?_ ?_); focus exact an1)
              refine endO ?_
              refine condM rfl trivial (fun hc => ?_) (fun hc => ?_)
              · cases hc
              refine rg ctNo_ok ?_
              simp only [go_sem]
              refine rg ctNo_ok ?_
              simp only [go_sem]
              refine ⟨_, (Option.some.inj H).symm, ?_⟩
              refine SubF_of ⟨[some 0, some 1, some 2, some 6, some 7, some 8], ?_, ?_, by rfl, by rfl⟩
              · simp [CvL, Cv, getM]
              · exact ⟨CvB_dead, cv, CvB_dead, CvB_row nr_TRegulate cl (fun _ _ _ _ => rfl), CvB_row nr_TRegulateWord cl (fun _ _ _ _ => rfl), cv, trivial⟩
        · try dsimp only at H ⊢
          try simp only [tp]
          try simp only [m_normal]
          refine sq ctNo_ok ?_
          simp only [go_sem]
          refine rg ctNo_ok ?_
          simp only [go_sem]
          refine cutO shT_ok ctNo_ok 2 ?_
          simp only [kO_normal, List.take_succ_cons, List.take_zero, List.drop_succ_cons, List.drop_zero, go_sem]
          repeat ((with_reducible refine And.intro ?_ ?_); focus exact an1)
          refine endO ?_
          refine rg ctNo_ok ?_
          simp only [go_sem]
          obtain rfl := Option.some.inj H
          first | rfl | simp only [Bool.and_false, Bool.false_and, Bool.and_true, Bool.true_and] | exact congrArg AV.bool (Eq.symm (by assumption))
    replace H := cond_f hg4 H
    refine rg ctNo_ok ?_
    simp only [go_sem, hg4]
    repeat ((with_reducible refine And.intro ?_ ?_); focus exact an1)
    refine rg ctNo_ok ?_
    simp only [go_sem]
    obtain rfl := Option.some.inj H
    first | rfl | simp only [Bool.and_false, Bool.false_and, Bool.and_true, Bool.true_and] | exact congrArg AV.bool (Eq.symm (by assumption))
  · cases hb
end Go.Proofs.Ytjhkehdbjnhplaa
