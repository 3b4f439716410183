/-
  What the law reaches.
-/
import Derived.Test.YtjhkehdbjnhplaaY7p1
namespace Go.Proofs.Ytjhkehdbjnhplaa
open Go.Am
set_option linter.unusedVariables false
set_option linter.unusedSimpArgs false
/-! hotspot/regulate.stop -/
noncomputable def ct92_0t0 : Ct := tab [(113, edC body113_0)]
theorem ct92_0t0_ok : CtOk Try.prog ct92_0t0 := tab_cons ok113_0 <| tab_nil
theorem ct92_0t0_113 (l : List AV) (h : List ABlk) : ct92_0t0 113 l h = edC body113_0 l h := rfl
noncomputable def ct92_0t1 : Ct := tab [(67, pureC body67_0)]
theorem ct92_0t1_ok : CtOk Try.prog ct92_0t1 := tab_cons ok67_0 <| tab_nil
theorem ct92_0t1_67 (l : List AV) (h : List ABlk) : ct92_0t1 67 l h = pureC body67_0 l h := rfl
noncomputable def ct92_0t2 : Ct := tab [(115, insN 79 2)]
theorem ct92_0t2_ok : CtOk Try.prog ct92_0t2 := tab_cons ok115 <| tab_nil
theorem ct92_0t2_115 (l : List AV) (h : List ABlk) : ct92_0t2 115 l h = insN 79 2 l h := rfl
noncomputable def F92_0 (p0 : TRegulate) (p1 : Int) : Option (TRegulate) :=
  (F113_0 p0.Clear p0.Channel).bind fun r1 => (F67_0 p0.Blocked p0.Channel).bind fun r3 => bif (!r3.2) then (need (insb r3.1 p0.Blocked.length) <| (some [(TRegulateBlock.mk p0.Channel 0)]).bind fun w6 => (some (insL p0.Blocked r3.1 [(TRegulateBlock.mk p0.Channel 0)])).bind fun w8 => need (inb r3.1 w8.length) <| some (TRegulate.mk p0.Table p0.Channel p0.Lead p0.Heard true p0.Moving p0.To p0.At (w8.set r3.1.toNat (TRegulateBlock.mk ((gd w8 r3.1.toNat).Channel) (minI (wr .i64 (p1 + 1800000000)) 1099511627776))) r1)) else (need (inb r3.1 p0.Blocked.length) <| some (TRegulate.mk p0.Table p0.Channel p0.Lead p0.Heard true p0.Moving p0.To p0.At (p0.Blocked.set r3.1.toNat (TRegulateBlock.mk ((gd p0.Blocked r3.1.toNat).Channel) (minI (wr .i64 (p1 + 1800000000)) 1099511627776))) r1))
noncomputable def body92_0 : List AV -> List ABlk -> ED
  | [v0, v1], h => .ed [ptB v0, slN (getL (celL h v0) 0), slN (getL (celL h v0) 8), slN (getL (celL h v0) 9)] (pK 39 10 h v0 /\ k_TRegulate (getL (roWL h (celL h v0))) /\ oS 45 3 h (getL (celL h v0) 0) /\ nref (getL (celL h v0) 1) /\ nref (getL (celL h v0) 2) /\ nref (getL (celL h v0) 3) /\ nref (getL (celL h v0) 4) /\ nref (getL (celL h v0) 5) /\ nref (getL (celL h v0) 6) /\ nref (getL (celL h v0) 7) /\ oS 79 2 h (getL (celL h v0) 8) /\ oS 3 1 h (getL (celL h v0) 9) /\ iK .i64 (roD (deadL h [ptB v0, slN (getL (celL h v0) 0), slN (getL (celL h v0) 8), slN (getL (celL h v0) 9)]) v1) /\ roDOb (deadL h [ptB v0, slN (getL (celL h v0) 0), slN (getL (celL h v0) 8), slN (getL (celL h v0) 9)]) v1 /\ (F92_0 (g_TRegulate (getL (roWL h (celL h v0)))) (iA (roD (deadL h [ptB v0, slN (getL (celL h v0) 0), slN (getL (celL h v0) 8), slN (getL (celL h v0) 9)]) v1))).isSome = true) (.tup []) [.lit 39 [.sl 4 3 0 (((gt (F92_0 (g_TRegulate (getL (roWL h (celL h v0)))) (iA (roD (deadL h [ptB v0, slN (getL (celL h v0) 0), slN (getL (celL h v0) 8), slN (getL (celL h v0) 9)]) v1)))).Table).length) false, .int .i64 ((gt (F92_0 (g_TRegulate (getL (roWL h (celL h v0)))) (iA (roD (deadL h [ptB v0, slN (getL (celL h v0) 0), slN (getL (celL h v0) 8), slN (getL (celL h v0) 9)]) v1)))).Channel), .bool ((gt (F92_0 (g_TRegulate (getL (roWL h (celL h v0)))) (iA (roD (deadL h [ptB v0, slN (getL (celL h v0) 0), slN (getL (celL h v0) 8), slN (getL (celL h v0) 9)]) v1)))).Lead), .int .i64 ((gt (F92_0 (g_TRegulate (getL (roWL h (celL h v0)))) (iA (roD (deadL h [ptB v0, slN (getL (celL h v0) 0), slN (getL (celL h v0) 8), slN (getL (celL h v0) 9)]) v1)))).Heard), .bool ((gt (F92_0 (g_TRegulate (getL (roWL h (celL h v0)))) (iA (roD (deadL h [ptB v0, slN (getL (celL h v0) 0), slN (getL (celL h v0) 8), slN (getL (celL h v0) 9)]) v1)))).Stopped), .bool ((gt (F92_0 (g_TRegulate (getL (roWL h (celL h v0)))) (iA (roD (deadL h [ptB v0, slN (getL (celL h v0) 0), slN (getL (celL h v0) 8), slN (getL (celL h v0) 9)]) v1)))).Moving), .int .i64 ((gt (F92_0 (g_TRegulate (getL (roWL h (celL h v0)))) (iA (roD (deadL h [ptB v0, slN (getL (celL h v0) 0), slN (getL (celL h v0) 8), slN (getL (celL h v0) 9)]) v1)))).To), .int .i64 ((gt (F92_0 (g_TRegulate (getL (roWL h (celL h v0)))) (iA (roD (deadL h [ptB v0, slN (getL (celL h v0) 0), slN (getL (celL h v0) 8), slN (getL (celL h v0) 9)]) v1)))).At), .sl 5 2 0 (((gt (F92_0 (g_TRegulate (getL (roWL h (celL h v0)))) (iA (roD (deadL h [ptB v0, slN (getL (celL h v0) 0), slN (getL (celL h v0) 8), slN (getL (celL h v0) 9)]) v1)))).Blocked).length) false, .sl 6 1 0 (((gt (F92_0 (g_TRegulate (getL (roWL h (celL h v0)))) (iA (roD (deadL h [ptB v0, slN (getL (celL h v0) 0), slN (getL (celL h v0) 8), slN (getL (celL h v0) 9)]) v1)))).Clear).length) false], .dead, .dead, .dead, .row 45 3 (((gt (F92_0 (g_TRegulate (getL (roWL h (celL h v0)))) (iA (roD (deadL h [ptB v0, slN (getL (celL h v0) 0), slN (getL (celL h v0) 8), slN (getL (celL h v0) 9)]) v1)))).Table).length) (enR c_TRegulateChannel ((gt (F92_0 (g_TRegulate (getL (roWL h (celL h v0)))) (iA (roD (deadL h [ptB v0, slN (getL (celL h v0) 0), slN (getL (celL h v0) 8), slN (getL (celL h v0) 9)]) v1)))).Table)), .row 79 2 (((gt (F92_0 (g_TRegulate (getL (roWL h (celL h v0)))) (iA (roD (deadL h [ptB v0, slN (getL (celL h v0) 0), slN (getL (celL h v0) 8), slN (getL (celL h v0) 9)]) v1)))).Blocked).length) (enR c_TRegulateBlock ((gt (F92_0 (g_TRegulate (getL (roWL h (celL h v0)))) (iA (roD (deadL h [ptB v0, slN (getL (celL h v0) 0), slN (getL (celL h v0) 8), slN (getL (celL h v0) 9)]) v1)))).Blocked)), .row 3 1 (((gt (F92_0 (g_TRegulate (getL (roWL h (celL h v0)))) (iA (roD (deadL h [ptB v0, slN (getL (celL h v0) 0), slN (getL (celL h v0) 8), slN (getL (celL h v0) 9)]) v1)))).Clear).length) (enR c_i64 ((gt (F92_0 (g_TRegulate (getL (roWL h (celL h v0)))) (iA (roD (deadL h [ptB v0, slN (getL (celL h v0) 0), slN (getL (celL h v0) 8), slN (getL (celL h v0) 9)]) v1)))).Clear))]
  | _, _ => .fail
set_option maxHeartbeats 4000000 in
set_option maxRecDepth 20000 in
theorem ok92_0 : FnOk Try.prog 92 (edC body92_0) := by
  refine edit_fnV body92_0 (rs := []) Try.func92 (by kernel_rfl) rfl rfl ?_
  intro l h bs ob q0 g0 hb hob
  unfold body92_0 at hb
  split at hb
  · rename_i v0 v1
    injection hb with q1 q2 q3 q4; subst q1 q2 q3 q4
    obtain ⟨hk0_0, hk0_1, hk0_2, hk0_3, hk0_4, hk0_5, hk0_6, hk0_7, hk0_8, hk0_9, hk0_10, hk0_11, hk1_0, hk1_1, hob⟩ := hob
    obtain ⟨r, H⟩ := Option.isSome_iff_exists.1 hob
    rw [H, gt_some]
    obtain ⟨p0, hp0⟩ : ∃ p0, p0 = g_TRegulate (getL (roWL h (celL h v0))) := ⟨_, rfl⟩
    rw [← hp0] at H
    have hw0 : ∀ y, y < 10 -> WkV (getL (c_TRegulate p0) y) (roW h (getL (celL h v0) y)) /\ nref (getL (c_TRegulate p0) y) := fun y hy => by rw [hp0, ← getL_roWL]; exact w_TRegulate hk0_1 y hy
    have hk0_K := hk0_1
    unfold k_TRegulate at hk0_K
    obtain ⟨kk0_0, kk0_1, kk0_2, kk0_3, kk0_4, kk0_5, kk0_6, kk0_7, kk0_8, kk0_9⟩ := hk0_K
    obtain ⟨ev0_0, eb0_0⟩ := own_row2 (f := c_TRegulateChannel) (g := g_TRegulateChannel) (bs := [ptB v0, slN (getL (celL h v0) 0), slN (getL (celL h v0) 8), slN (getL (celL h v0) 9)]) (i := 1) (fun hr => w_TRegulateChannel hr) hk0_2 (by rw [← getL_roWL]; exact kk0_0) (L := p0.Table) (by rw [hp0, ← getL_roWL]; rfl) rfl
    obtain ⟨ev0_8, eb0_8⟩ := own_row2 (f := c_TRegulateBlock) (g := g_TRegulateBlock) (bs := [ptB v0, slN (getL (celL h v0) 0), slN (getL (celL h v0) 8), slN (getL (celL h v0) 9)]) (i := 2) (fun hr => w_TRegulateBlock hr) hk0_10 (by rw [← getL_roWL]; exact kk0_8) (L := p0.Blocked) (by rw [hp0, ← getL_roWL]; rfl) rfl
    obtain ⟨ev0_9, eb0_9⟩ := own_row2 (f := c_i64) (g := g_i64) (bs := [ptB v0, slN (getL (celL h v0) 0), slN (getL (celL h v0) 8), slN (getL (celL h v0) 9)]) (i := 3) (fun hr => w_i64 hr) hk0_11 (by rw [← getL_roWL]; exact kk0_9) (L := p0.Clear) (by rw [hp0, ← getL_roWL]; rfl) rfl
    have hw1 := iK_wk hk1_0
    obtain ⟨p1, hp_p1⟩ : ∃ p1, p1 = iA (roD (deadL h [ptB v0, slN (getL (celL h v0) 0), slN (getL (celL h v0) 8), slN (getL (celL h v0) 9)]) v1) := ⟨_, rfl⟩
    rw [← hp_p1] at H hw1
    refine ⟨[.ptr 0 0 0 0, .int .i64 p1], [.lit 39 [.sl 1 3 0 p0.Table.length false, .int .i64 p0.Channel, .bool p0.Lead, .int .i64 p0.Heard, .bool p0.Stopped, .bool p0.Moving, .int .i64 p0.To, .int .i64 p0.At, .sl 2 2 0 p0.Blocked.length false, .sl 3 1 0 p0.Clear.length false], .row 45 3 p0.Table.length (enR c_TRegulateChannel p0.Table), .row 79 2 p0.Blocked.length (enR c_TRegulateBlock p0.Blocked), .row 3 1 p0.Clear.length (enR c_i64 p0.Clear)], rfl, ⟨(EW_own (EV_pK hk0_0 rfl) (by simp only [noro])), ⟨(EW_view hk1_1 hw1), trivial⟩⟩, ⟨(EB_pK hk0_0 rfl rfl (fun y hy => by
          match y, hy with
          | 0, _ => exact ev0_0
          | 1, _ => exact EV_t hk0_3 (hw0 1 (by decide))
          | 2, _ => exact EV_t hk0_4 (hw0 2 (by decide))
          | 3, _ => exact EV_t hk0_5 (hw0 3 (by decide))
          | 4, _ => exact EV_t hk0_6 (hw0 4 (by decide))
          | 5, _ => exact EV_t hk0_7 (hw0 5 (by decide))
          | 6, _ => exact EV_t hk0_8 (hw0 6 (by decide))
          | 7, _ => exact EV_t hk0_9 (hw0 7 (by decide))
          | 8, _ => exact ev0_8
          | 9, _ => exact ev0_9
          | y + 10, hy => omega)), ⟨eb0_0, ⟨eb0_8, ⟨eb0_9, trivial⟩⟩⟩⟩, ⟨(by simp only [noroB, noroL, noro, and_self]), ⟨noroB_en, ⟨noroB_en, ⟨noroB_en, trivial⟩⟩⟩⟩, ⟨trivial, ⟨trivial, ⟨trivial, ⟨trivial, ⟨(nfB_en nr_TRegulateChannel), ⟨(nfB_en nr_TRegulateBlock), ⟨(nfB_en nr_i64), trivial⟩⟩⟩⟩⟩⟩⟩, ⟨(by simp only [noroB, noroL, noro, and_self]), ⟨trivial, ⟨trivial, ⟨trivial, ⟨noroB_en, ⟨noroB_en, ⟨noroB_en, trivial⟩⟩⟩⟩⟩⟩⟩, (by first | (simp only [noro, noroL]; done) | (simp only [noro, noroL]; and_intros <;> first | trivial | exact noro_bif (by simp only [noro]) (by simp only [noro]) | (simp only [noro, noroL, and_self]))), ?_⟩
    rw [Try.ntmps92]
    simp only [List.length_cons, List.length_nil, Nat.reduceAdd, Nat.reduceSub, List.replicate_succ, List.replicate_zero, List.cons_append, List.nil_append]
    unfold F92_0 at H
    refine sq ctNo_ok ?_
    simp only [go_sem, Nat.reduceAdd]
    refine sq ctNo_ok ?_
    simp only [go_sem, Nat.reduceLeDiff, Nat.reduceLT, Nat.reduceAdd]
    refine seqM ?_
    obtain ⟨r1, e2, H⟩ := bsi H
    refine draw_ruleX [(16, [0, 1, 2], [4, 0, 1, 2])] shT_ok ct92_0t0_ok 1 (by kernel_rfl) (by kernel_rfl) ?_
    intro an han
    simp only [d_nil, d_cons, nxtD, xrD, xoD, roEq, minL, List.append_nil, refsOp, refs, refsL, mask, maskF, place, placeF, okLog, pairOk, hit, inL, slotsF, ren, rnN, nrH, nrB, nrL, nr, List.replicate_zero, List.replicate_succ, Nat.sub_self, Nat.add_zero, Nat.zero_add, Nat.reduceSub, Nat.lt_add_one, go_sem, Nat.reduceLeDiff, Nat.reduceLT, Nat.reduceAdd, Nat.reduceSub, Nat.reduceBEq, ct92_0t0_113, body113_0, e2]
    repeat ((with_reducible refine And.intro ?_ ?_); focus (and_intros <;> first | (with_reducible trivial) | (show anB _ _ _ = true; subst han; kernel_rfl) | (show (anB _ _ _ && _) = true; subst han; kernel_rfl) | omega | assumption | exact nrc | exact nfc | first | exact rfl | exact trivial | exact fitI | exact .inr rfl | exact .inl rfl | exact fun x hx => absurd hx (by omega)))
    refine sq ctNo_ok ?_
    simp only [go_sem]
    refine seqM ?_
    obtain ⟨r3, e4, H⟩ := bsi H
    refine draw_quiet shT_ok ct92_0t1_ok (by kernel_rfl) (by kernel_rfl) ?_
    simp only [go_sem, Nat.reduceLeDiff, Nat.reduceLT, Nat.reduceAdd, ct92_0t1_67, body67_0, e4]
    repeat ((with_reducible refine And.intro ?_ ?_); focus (first | (and_intros <;> first | (with_reducible trivial) | omega | assumption | exact nfc | first | exact rfl | exact trivial | exact fitI | exact .inr rfl | exact .inl rfl | exact fun x hx => absurd hx (by omega)) | grind))
    refine seqM ?_
    refine sq ctNo_ok ?_
    simp only [go_sem]
    refine condM' rfl trivial (fun hc => ?_) (fun hc => ?_)
    · replace H := cond_f hc H
      refine rg ctNo_ok ?_
      simp only [go_sem]
      obtain ⟨f11, H⟩ := need_some.1 H
      replace f11 := inb_iff.1 f11
      refine rg ctNo_ok ?_
      simp only [go_sem, Nat.reduceLeDiff, Nat.reduceLT, Nat.reduceAdd, f11]
      obtain rfl := Option.some.inj H
      refine RetE_mk [] [some 0, some 1, some 2, some 3, some 1, some 2, some 5] ?_ ?_ ?_ ?_ (by rfl) (by rfl)
      · simp only [go_sem]
        try (and_intros <;> first | (with_reducible trivial) | omega | exact nfc | trivial)
      · simp only [go_sem]
      · simp only [go_sem]
        simp [Cv, CvL]
      · simp only [go_sem, Nat.reduceAdd, CvH]
        first | exact ⟨(by simp [CvB, CvL, Cv, blkAt, geth, getM]), CvB_dead, CvB_dead, CvB_dead, CvB_row nr_TRegulateChannel (by first | rfl | (simp; done) | (simp; omega)) (fun _ _ _ _ => rfl), CvB_row nr_TRegulateBlock (by first | rfl | (simp; done) | (simp; omega)) (upc_row (f := c_TRegulateBlock) p0.Blocked r3.1.toNat 1 (TRegulateBlock.mk ((gd p0.Blocked r3.1.toNat).Channel) (minI (wr .i64 (p1 + 1800000000)) 1099511627776)) (fun _ _ _ _ => rfl) (fun y hy => match y, hy with | 0, _ => rfl | 1, _ => rfl | (y+2), h => absurd h (by omega))), CvB_row nr_i64 (by first | rfl | (simp; done) | (simp; omega)) (fun _ _ _ _ => rfl)⟩ | trivial
    replace H := cond_t hc H
    obtain ⟨f5, H⟩ := need_some.1 H
    replace f5 := insb_iff.1 f5
    refine draw_ruleX [(48, [], [6])] shT_ok ct92_0t2_ok 2 (by kernel_rfl) (by kernel_rfl) ?_
    intro an han
    simp only [d_nil, d_cons, nxtD, xrD, xoD, roEq, minL, List.append_nil, refsOp, refs, refsL, mask, maskF, place, placeF, okLog, pairOk, hit, inL, slotsF, ren, rnN, nrH, nrB, nrL, nr, List.replicate_zero, List.replicate_succ, Nat.sub_self, Nat.add_zero, Nat.zero_add, Nat.reduceSub, Nat.lt_add_one, go_sem, Nat.reduceLeDiff, Nat.reduceLT, Nat.reduceAdd, Nat.reduceSub, Nat.reduceEqDiff, Nat.reduceBEq, ct92_0t2_115, insN, f5]
    repeat ((with_reducible refine And.intro ?_ ?_); focus (and_intros <;> first | (with_reducible trivial) | (show anB _ _ _ = true; subst han; kernel_rfl) | (show (anB _ _ _ && _) = true; subst han; kernel_rfl) | omega | assumption | exact nrc | exact nfc | first | exact rfl | exact trivial | exact fitI | exact .inr rfl | exact .inl rfl | exact fun x hx => absurd hx (by omega) | (intro x hx; (repeat (first | (and_intros <;> (first | exact rfl | exact trivial | exact fitI | exact .inr rfl | exact .inl rfl | exact fun x hx => absurd hx (by omega))) | (exfalso; omega) | (rcases x with _ | x))); done)))
    obtain ⟨w6, hw7, H⟩ := bsi H
    replace hw7 := Option.some.inj hw7
    have lhw7 : w6.length = 1 := by rw [← hw7]; exact (by first | rfl | (simp; done) | (simp; omega))
    obtain ⟨w8, hw9, H⟩ := bsi H
    replace hw9 := Option.some.inj hw9
    have lhw9 : w8.length = p0.Blocked.length + 1 := by rw [← hw9]; exact (ins_len f5 (by first | rfl | (simp; done) | (simp; omega)))
    refine subF_mean (t2 := (.ptr 0 0 0 0 :: .int .i64 p1 :: .ptr 4 0 0 0 :: .top :: .int .i64 (minI (wr .i64 (p1 + 1800000000)) 1099511627776) :: .int .i64 r3.1 :: .bool r3.2 :: .ptr 0 0 0 0 :: .ptr 0 0 0 0 :: .ptr 0 0 0 4 :: .ptr 0 0 0 0 :: .ptr 0 0 0 0 :: .ptr 0 0 0 0 :: .ptr 0 0 0 9 :: .sl 3 1 0 p0.Clear.length false :: .fn 114 [.ptr 4 0 0 0] :: .sl 5 1 0 r1.length false :: .ptr 0 0 0 0 :: .ptr 0 0 0 9 :: .int .i64 p1 :: .int .i64 (wr .i64 (p1 + 1800000000)) :: .int .i64 (minI (wr .i64 (p1 + 1800000000)) 1099511627776) :: .tup [.int .i64 r3.1, .bool r3.2] :: .ptr 0 0 0 0 :: .ptr 0 0 0 0 :: .ptr 0 0 0 8 :: .sl 2 2 0 p0.Blocked.length false :: .ptr 0 0 0 0 :: .ptr 0 0 0 0 :: .ptr 0 0 0 1 :: .int .i64 p0.Channel :: .tup [.int .i64 r3.1, .bool r3.2] :: .int .i64 r3.1 :: .bool r3.2 :: .bool r3.2 :: .bool (!r3.2) :: .ptr 0 0 0 0 :: .ptr 0 0 0 0 :: .ptr 0 0 0 0 :: .ptr 0 0 0 8 :: .sl 2 2 0 p0.Blocked.length false :: .int .i64 r3.1 :: .ptr 0 0 0 0 :: .ptr 0 0 0 0 :: .ptr 0 0 0 1 :: .int .i64 p0.Channel :: .agg [.int .i64 p0.Channel, .int .i64 0] :: .sl 6 2 0 w6.length false :: .sl 7 2 0 w8.length false :: .ptr 0 0 0 0 :: .ptr 0 0 0 8 :: tp 8 [])) (h2 := [.lit 39 [.sl 1 3 0 p0.Table.length false, .int .i64 p0.Channel, .bool p0.Lead, .int .i64 p0.Heard, .bool true, .bool p0.Moving, .int .i64 p0.To, .int .i64 p0.At, .sl 7 2 0 w8.length false, .sl 5 1 0 r1.length false], .row 45 3 p0.Table.length (enR c_TRegulateChannel p0.Table), .dead, .dead, .lit 101 [.ptr 0 0 0 0], .row 3 1 r1.length (enR c_i64 r1), .row 79 2 w6.length (enR c_TRegulateBlock w6), .row 79 2 w8.length (enR c_TRegulateBlock w8)]) ?_ ?_
    · refine SubF_of ⟨[some 0, some 1, some 2, some 3, some 4, some 5, some 6, some 7], ?_, ?_, by rfl, by rfl⟩
      · simp [CvL, Cv, getM, tp, lhw7, lhw9]
      · exact ⟨(by simp [CvB, CvL, Cv, blkAt, geth, getM, lhw9]), CvB_row nr_TRegulateChannel rfl (fun _ _ _ _ => rfl), CvB_dead, CvB_dead, (by simp [CvB, CvL, Cv, blkAt, geth, getM]), CvB_row nr_i64 rfl (fun _ _ _ _ => rfl), CvB_row nr_TRegulateBlock lhw7 (hw7 ▸ (lit_row (f := c_TRegulateBlock) [(TRegulateBlock.mk p0.Channel 0)] (fun _ _ => rfl) rfl)), CvB_row nr_TRegulateBlock lhw9 (hw9 ▸ (ins_row f5 (by first | rfl | (simp; done) | (simp; omega)) (fun _ _ _ _ => rfl) (lit_row (f := c_TRegulateBlock) [(TRegulateBlock.mk p0.Channel 0)] (fun _ _ => rfl) rfl))), trivial⟩
    simp only [tp]
    obtain ⟨f10, H⟩ := need_some.1 H
    replace f10 := inb_iff.1 f10
    refine rg ctNo_ok ?_
    simp only [go_sem, Nat.reduceLeDiff, Nat.reduceLT, Nat.reduceAdd, f10]
    obtain rfl := Option.some.inj H
    refine RetE_mk [] [some 0, some 1, some 2, some 3, some 1, some 7, some 5] ?_ ?_ ?_ ?_ (by rfl) (by rfl)
    · simp only [go_sem]
      try (and_intros <;> first | (with_reducible trivial) | omega | exact nfc | trivial)
    · simp only [go_sem]
    · simp only [go_sem]
      simp [Cv, CvL]
    · simp only [go_sem, Nat.reduceAdd, CvH]
      first | exact ⟨(by simp [CvB, CvL, Cv, blkAt, geth, getM]), CvB_dead, CvB_dead, CvB_dead, CvB_row nr_TRegulateChannel (by first | rfl | (simp; done) | (simp; omega)) (fun _ _ _ _ => rfl), CvB_row nr_TRegulateBlock (by first | rfl | (simp; done) | (simp; omega)) (upc_row (f := c_TRegulateBlock) w8 r3.1.toNat 1 (TRegulateBlock.mk ((gd w8 r3.1.toNat).Channel) (minI (wr .i64 (p1 + 1800000000)) 1099511627776)) (fun _ _ _ _ => rfl) (fun y hy => match y, hy with | 0, _ => rfl | 1, _ => rfl | (y+2), h => absurd h (by omega))), CvB_row nr_i64 (by first | rfl | (simp; done) | (simp; omega)) (fun _ _ _ _ => rfl)⟩ | trivial
  · cases hb
/-! hotspot/regulate.free -/
noncomputable def ct52_0t0 : Ct := tab [(67, pureC body67_0)]
theorem ct52_0t0_ok : CtOk Try.prog ct52_0t0 := tab_cons ok67_0 <| tab_nil
theorem ct52_0t0_67 (l : List AV) (h : List ABlk) : ct52_0t0 67 l h = pureC body67_0 l h := rfl
noncomputable def ct52_0t1 : Ct := tab [(51, pureC body51_0), (77, pureC body77)]
theorem ct52_0t1_ok : CtOk Try.prog ct52_0t1 := tab_cons ok51_0 <| tab_cons ok77 <| tab_nil
theorem ct52_0t1_51 (l : List AV) (h : List ABlk) : ct52_0t1 51 l h = pureC body51_0 l h := rfl
theorem ct52_0t1_77 (l : List AV) (h : List ABlk) : ct52_0t1 77 l h = pureC body77 l h := rfl
noncomputable def F52_0 (p0_0 : List TRegulateChannel) (p0_8 : List TRegulateBlock) (p0_9 : List Int) (p1 : Int) (p2 : Int) : Option (Bool) :=
  (F67_0 p0_8 p1).bind fun r1 => need (bif r1.2 then inb r1.1 p0_8.length else true) <| bif (r1.2 && (bLt p2 ((gd p0_8 r1.1.toNat).Until))) then (some false) else ((F51_0 p0_0 p1).bind fun r4 => need (bif (!(!r4.Radar)) then ((F77 p0_9 p1).isSome) else true) <| some ((!r4.Radar) || (gt (F77 p0_9 p1))))
noncomputable def body52_0 : List AV -> AR
  | [v0, v1, v2] => .pure (rM 10 v0 /\ lK k_TRegulateChannel 3 (rG v0 0) /\ lK k_TRegulateBlock 2 (rG v0 8) /\ lK k_i64 1 (rG v0 9) /\ iK .i64 v1 /\ iK .i64 v2 /\ (F52_0 (lA g_TRegulateChannel (rG v0 0)) (lA g_TRegulateBlock (rG v0 8)) (lA g_i64 (rG v0 9)) (iA v1) (iA v2)).isSome = true) (.bool (gt (F52_0 (lA g_TRegulateChannel (rG v0 0)) (lA g_TRegulateBlock (rG v0 8)) (lA g_i64 (rG v0 9)) (iA v1) (iA v2))))
  | _ => .fail
set_option maxHeartbeats 4000000 in
set_option maxRecDepth 20000 in
theorem ok52_0 : FnOk Try.prog 52 (pureC body52_0) := by
  refine pure_fnM body52_0 (rs := [.tmp 6]) Try.func52 (by kernel_rfl) rfl rfl ?_
  intro l ob v hb hob
  unfold body52_0 at hb
  split at hb
  · rename_i v0 v1 v2
    injection hb with q1 q2; subst q1 q2
    obtain ⟨hk0_0, hk0_1, hk0_2, hk0_3, hk1_0, hk2_0, hob⟩ := hob
    obtain ⟨r, H⟩ := Option.isSome_iff_exists.1 hob
    rw [H, gt_some]
    have hw0 := (rM_wk (cells := [AV.ro 3 (lA g_TRegulateChannel (rG v0 0)).length false (enR c_TRegulateChannel (lA g_TRegulateChannel (rG v0 0))), AV.top, AV.top, AV.top, AV.top, AV.top, AV.top, AV.top, AV.ro 2 (lA g_TRegulateBlock (rG v0 8)).length false (enR c_TRegulateBlock (lA g_TRegulateBlock (rG v0 8))), AV.ro 1 (lA g_i64 (rG v0 9)).length false (enR c_i64 (lA g_i64 (rG v0 9)))]) hk0_0 (fun y hy => match y, hy with | 0, _ => lK_wk (fun r h => w_TRegulateChannel h) hk0_1 | 1, _ => top_wk | 2, _ => top_wk | 3, _ => top_wk | 4, _ => top_wk | 5, _ => top_wk | 6, _ => top_wk | 7, _ => top_wk | 8, _ => lK_wk (fun r h => w_TRegulateBlock h) hk0_2 | 9, _ => lK_wk (fun r h => w_i64 h) hk0_3 | y + 10, hy => absurd hy (by omega)))
    have hw1 := iK_wk hk1_0
    have hw2 := iK_wk hk2_0
    generalize lA g_TRegulateChannel (rG v0 0) = p0_0 at H hw0
    generalize lA g_TRegulateBlock (rG v0 8) = p0_8 at H hw0
    generalize lA g_i64 (rG v0 9) = p0_9 at H hw0
    generalize iA v1 = p1 at H hw1
    generalize iA v2 = p2 at H hw2
    refine ⟨[.rptr 10 1 0 0 (fun _ y => getL [.ro 3 p0_0.length false (enR c_TRegulateChannel p0_0), .top, .top, .top, .top, .top, .top, .top, .ro 2 p0_8.length false (enR c_TRegulateBlock p0_8), .ro 1 p0_9.length false (enR c_i64 p0_9)] y), .int .i64 p1, .int .i64 p2], _, (fun E vs F => FR_wk1 hw0.1 F (fun vs F => FR_wk1 hw1.1 F (fun vs F => FR_wk1 hw2.1 F (fun vs F => F)))), rfl, rfl, ?_⟩
    rw [Try.ntmps52]
    simp only [List.length_cons, List.length_nil, Nat.reduceAdd, Nat.reduceSub, List.replicate_succ, List.replicate_zero, List.cons_append, List.nil_append]
    unfold F52_0 at H
    refine sq ctNo_ok ?_
    simp only [go_sem]
    refine seqM ?_
    refine seqM ?_
    obtain ⟨r1, e2, H⟩ := bsi H
    refine rg ct52_0t0_ok ?_
    simp only [go_sem, Nat.reduceLeDiff, Nat.reduceLT, Nat.reduceAdd, ct52_0t0_67, body67_0, e2]
    refine seqM ?_
    obtain ⟨f3, H⟩ := need_some.1 H
    replace f3 := g_iff.1 f3
    replace f3 := fun g => inb_iff.1 (f3 g)
    refine rg ctNo_ok ?_
    simp only [go_sem, Nat.reduceLeDiff, Nat.reduceLT, Nat.reduceAdd]
    repeat ((with_reducible refine And.intro ?_ ?_); focus (first | (with_reducible trivial) | omega | exact f3 | (intro g; have q := f3 (by first | exact g | (rw [g]; rfl) | simpa using g); first | exact q | exact ⟨q.1, q.2.1⟩ | exact q.2.2 | omega | exact ⟨g, q⟩ | exact ⟨trivial, q⟩ | exact ⟨g, q.1, q.2.1⟩ | exact ⟨g, q.2.2⟩) | grind))
    refine condM rfl trivial (fun hc => ?_) (fun hc => ?_)
    · replace H := cond_t hc H
      refine sq ctNo_ok ?_
      simp only [go_sem]
      refine rg ctNo_ok ?_
      simp only [go_sem]
      obtain rfl := Option.some.inj H
      first | rfl | simp only [Bool.and_false, Bool.false_and, Bool.and_true, Bool.true_and]
    replace H := cond_f hc H
    refine rg ctNo_ok ?_
    simp only [go_sem]
    refine seqM ?_
    obtain ⟨r4, e5, H⟩ := bsi H
    obtain ⟨f6, H⟩ := need_some.1 H
    replace f6 := g_iff.1 f6
    refine rg ct52_0t1_ok ?_
    simp only [go_sem, Nat.reduceLT, Nat.reduceAdd, ct52_0t1_51, body51_0, ct52_0t1_77, body77, e5]
    repeat ((with_reducible refine And.intro ?_ ?_); focus (first | (with_reducible trivial) | omega | exact f6 | (intro g; have q := f6 (by first | exact g | (rw [g]; rfl) | simpa using g); first | exact q | exact ⟨q.1, q.2.1⟩ | exact q.2.2 | omega | exact ⟨g, q⟩ | exact ⟨trivial, q⟩ | exact ⟨g, q.1, q.2.1⟩ | exact ⟨g, q.2.2⟩) | (intro g; (try have q0 := f6 (by first | exact g | (rw [g]; rfl) | simpa using g)); and_intros <;> first | (with_reducible trivial) | assumption | exact nfc | (intro g2; rw [g, g2]; rfl) | (intro g2; assumption) | (simp only [g, Bool.true_and, Bool.and_true, Bool.not_false, Bool.not_true]; assumption) | grind) | (and_intros <;> first | (with_reducible trivial) | omega | assumption | exact nfc | first | exact rfl | exact trivial | exact fitI | exact .inr rfl | exact .inl rfl | exact fun x hx => absurd hx (by omega) | (intro x hx; (repeat (first | (and_intros <;> (first | exact rfl | exact trivial | exact fitI | exact .inr rfl | exact .inl rfl | exact fun x hx => absurd hx (by omega))) | (exfalso; omega) | (rcases x with _ | x))); done)) | grind))
    refine rg ctNo_ok ?_
    simp only [go_sem]
    obtain rfl := Option.some.inj H
    first | rfl | simp only [Bool.and_false, Bool.false_and, Bool.and_true, Bool.true_and]
  · cases hb
/-! hotspot/regulate.usable -/
noncomputable def ct53_0t0 : Ct := tab [(52, pureC body52_0)]
theorem ct53_0t0_ok : CtOk Try.prog ct53_0t0 := tab_cons ok52_0 <| tab_nil
theorem ct53_0t0_52 (l : List AV) (h : List ABlk) : ct53_0t0 52 l h = pureC body52_0 l h := rfl
noncomputable def F53_0_L1 (p0_0 : List TRegulateChannel) (p0_1 : Int) (p0_8 : List TRegulateBlock) (p0_9 : List Int) (p1 : Int) (v1_1 : List Int) (v1_2 : Int) : Option (Lp ((List Int) × Int) ((List Int) ⊕ (List Int))) :=
  bif (bLt v1_2 (p0_0.length : Nat)) then (need (inb v1_2 p0_0.length) <| need (bif (!bEq ((gd p0_0 v1_2.toNat).Number) p0_1) then ((F52_0 p0_0 p0_8 p0_9 ((gd p0_0 v1_2.toNat).Number) p1).isSome) else true) <| bif ((!bEq ((gd p0_0 v1_2.toNat).Number) p0_1) && (gt (F52_0 p0_0 p0_8 p0_9 ((gd p0_0 v1_2.toNat).Number) p1))) then (need (capb 8 (v1_1.length + 1)) <| some (.next ((v1_1 ++ [(gd p0_0 v1_2.toNat).Number]), wr .i64 (v1_2 + 1)))) else (some (.next (v1_1, wr .i64 (v1_2 + 1))))) else (some (.done (.inl v1_1)))
noncomputable def F53_0 (p0_0 : List TRegulateChannel) (p0_1 : Int) (p0_8 : List TRegulateBlock) (p0_9 : List Int) (p1 : Int) : Option (List Int) :=
  lp (loopD (fun s => F53_0_L1 p0_0 p0_1 p0_8 p0_9 p1 s.1 s.2) ([], 0)) (fun w1_3 => some w1_3) some
noncomputable def body53_0 : List AV -> List ABlk -> ED
  | [v0, v1], h => .ed [] (rM 10 (roD (deadL h []) v0) /\ lK k_TRegulateChannel 3 (rG (roD (deadL h []) v0) 0) /\ iK .i64 (rG (roD (deadL h []) v0) 1) /\ lK k_TRegulateBlock 2 (rG (roD (deadL h []) v0) 8) /\ lK k_i64 1 (rG (roD (deadL h []) v0) 9) /\ roDOb (deadL h []) v0 /\ iK .i64 (roD (deadL h []) v1) /\ roDOb (deadL h []) v1 /\ (F53_0 (lA g_TRegulateChannel (rG (roD (deadL h []) v0) 0)) (iA (rG (roD (deadL h []) v0) 1)) (lA g_TRegulateBlock (rG (roD (deadL h []) v0) 8)) (lA g_i64 (rG (roD (deadL h []) v0) 9)) (iA (roD (deadL h []) v1))).isSome = true) (.sl 0 1 0 ((gt (F53_0 (lA g_TRegulateChannel (rG (roD (deadL h []) v0) 0)) (iA (rG (roD (deadL h []) v0) 1)) (lA g_TRegulateBlock (rG (roD (deadL h []) v0) 8)) (lA g_i64 (rG (roD (deadL h []) v0) 9)) (iA (roD (deadL h []) v1)))).length) false) [.row 3 1 ((gt (F53_0 (lA g_TRegulateChannel (rG (roD (deadL h []) v0) 0)) (iA (rG (roD (deadL h []) v0) 1)) (lA g_TRegulateBlock (rG (roD (deadL h []) v0) 8)) (lA g_i64 (rG (roD (deadL h []) v0) 9)) (iA (roD (deadL h []) v1)))).length) (enR c_i64 (gt (F53_0 (lA g_TRegulateChannel (rG (roD (deadL h []) v0) 0)) (iA (rG (roD (deadL h []) v0) 1)) (lA g_TRegulateBlock (rG (roD (deadL h []) v0) 8)) (lA g_i64 (rG (roD (deadL h []) v0) 9)) (iA (roD (deadL h []) v1)))))]
  | _, _ => .fail
set_option maxHeartbeats 4000000 in
set_option maxRecDepth 20000 in
theorem ok53_0 : FnOk Try.prog 53 (edC body53_0) := by
  refine edit_fnV body53_0 (rs := [.tmp 4]) Try.func53 (by kernel_rfl) rfl rfl ?_
  intro l h bs ob q0 g0 hb hob
  unfold body53_0 at hb
  split at hb
  · rename_i v0 v1
    injection hb with q1 q2 q3 q4; subst q1 q2 q3 q4
    obtain ⟨hk0_0, hk0_1, hk0_2, hk0_3, hk0_4, hk0_5, hk1_0, hk1_1, hob⟩ := hob
    obtain ⟨r, H⟩ := Option.isSome_iff_exists.1 hob
    rw [H, gt_some]
    have hw0 := (rM_wk (cells := [AV.ro 3 (lA g_TRegulateChannel (rG (roD (deadL h []) v0) 0)).length false (enR c_TRegulateChannel (lA g_TRegulateChannel (rG (roD (deadL h []) v0) 0))), AV.int .i64 (iA (rG (roD (deadL h []) v0) 1)), AV.top, AV.top, AV.top, AV.top, AV.top, AV.top, AV.ro 2 (lA g_TRegulateBlock (rG (roD (deadL h []) v0) 8)).length false (enR c_TRegulateBlock (lA g_TRegulateBlock (rG (roD (deadL h []) v0) 8))), AV.ro 1 (lA g_i64 (rG (roD (deadL h []) v0) 9)).length false (enR c_i64 (lA g_i64 (rG (roD (deadL h []) v0) 9)))]) hk0_0 (fun y hy => match y, hy with | 0, _ => lK_wk (fun r h => w_TRegulateChannel h) hk0_1 | 1, _ => iK_wk hk0_2 | 2, _ => top_wk | 3, _ => top_wk | 4, _ => top_wk | 5, _ => top_wk | 6, _ => top_wk | 7, _ => top_wk | 8, _ => lK_wk (fun r h => w_TRegulateBlock h) hk0_3 | 9, _ => lK_wk (fun r h => w_i64 h) hk0_4 | y + 10, hy => absurd hy (by omega)))
    obtain ⟨p0_0, hp_p0_0⟩ : ∃ p0_0, p0_0 = lA g_TRegulateChannel (rG (roD (deadL h []) v0) 0) := ⟨_, rfl⟩
    rw [← hp_p0_0] at H hw0
    obtain ⟨p0_1, hp_p0_1⟩ : ∃ p0_1, p0_1 = iA (rG (roD (deadL h []) v0) 1) := ⟨_, rfl⟩
    rw [← hp_p0_1] at H hw0
    obtain ⟨p0_8, hp_p0_8⟩ : ∃ p0_8, p0_8 = lA g_TRegulateBlock (rG (roD (deadL h []) v0) 8) := ⟨_, rfl⟩
    rw [← hp_p0_8] at H hw0
    obtain ⟨p0_9, hp_p0_9⟩ : ∃ p0_9, p0_9 = lA g_i64 (rG (roD (deadL h []) v0) 9) := ⟨_, rfl⟩
    rw [← hp_p0_9] at H hw0
    have hw1 := iK_wk hk1_0
    obtain ⟨p1, hp_p1⟩ : ∃ p1, p1 = iA (roD (deadL h []) v1) := ⟨_, rfl⟩
    rw [← hp_p1] at H hw1
    refine ⟨[.rptr 10 1 0 0 (fun _ y => getL [.ro 3 p0_0.length false (enR c_TRegulateChannel p0_0), .int .i64 p0_1, .top, .top, .top, .top, .top, .top, .ro 2 p0_8.length false (enR c_TRegulateBlock p0_8), .ro 1 p0_9.length false (enR c_i64 p0_9)] y), .int .i64 p1], [], rfl, ⟨(EW_view hk0_5 hw0), ⟨(EW_view hk1_1 hw1), trivial⟩⟩, trivial, trivial, ⟨(nfB_en nr_i64), trivial⟩, ⟨noroB_en, trivial⟩, (by first | (simp only [noro]; done) | (simp only [noro, noroL]; and_intros <;> first | trivial | exact noro_bif (by simp only [noro]) (by simp only [noro]) | (simp only [noro, noroL, and_self]))), ?_⟩
    rw [Try.ntmps53]
    simp only [List.length_cons, List.length_nil, Nat.reduceAdd, Nat.reduceSub, List.replicate_succ, List.replicate_zero, List.cons_append, List.nil_append]
    unfold F53_0 at H
    refine sq ctNo_ok ?_
    simp only [go_sem]
    refine sq ctNo_ok ?_
    simp only [go_sem]
    refine seqM ?_
    refine sq ctNo_ok ?_
    simp only [go_sem, Nat.reduceLeDiff, Nat.reduceLT]
    refine blkM ?_
    refine loop_den (fun s : (List Int) × Int => (.rptr 10 1 0 0 (fun _ y => getL [.ro 3 p0_0.length false (enR c_TRegulateChannel p0_0), .int .i64 p0_1, .top, .top, .top, .top, .top, .top, .ro 2 p0_8.length false (enR c_TRegulateBlock p0_8), .ro 1 p0_9.length false (enR c_i64 p0_9)] y) :: .int .i64 p1 :: .top :: .top :: .top :: .sl 0 1 0 s.1.length false :: tp 5 (.ro 3 p0_0.length false (enR c_TRegulateChannel p0_0) :: .int .i64 (p0_0.length : Nat) :: .int .i64 s.2 :: tp 24 []))) (fun s => [.row 3 1 s.1.length (enR c_i64 s.1)]) (fun e : List Int => (tp 5 (.sl 0 1 0 e.length false :: tp 32 []))) (fun e => [.row 3 1 e.length (enR c_i64 e)]) H ?_ (fun s o H hn1_1 hn2_1 => ?_) (fun w1_3 H => ?_)
    · refine SubF_of ⟨[none], ?_, ?_, by rfl, by rfl⟩
      · simp [CvL, Cv, tp]
      · exact ⟨CvB_none, trivial⟩
    · obtain ⟨v1_1, v1_2⟩ := s
      unfold F53_0_L1 at H
      try simp only [tp]
      refine sq ctNo_ok ?_
      simp only [go_sem]
      refine seqM ?_
      refine condM' rfl trivial (fun hc => ?_) (fun hc => ?_)
      · replace H := cond_f hc H
        refine rg ctNo_ok ?_
        simp only [go_sem]
        refine ⟨_, (Option.some.inj H).symm, ?_⟩
        refine SubF_of ⟨[some 0], ?_, ?_, by rfl, by rfl⟩
        · simp [CvL, Cv, getM]
        · exact ⟨CvB_row nr_i64 (by first | rfl | (simp; done) | (simp; omega)) (fun _ _ _ _ => rfl), trivial⟩
      replace H := cond_t hc H
      refine rg ctNo_ok ?_
      simp only [go_sem]
      refine seqM ?_
      refine blkM ?_
      refine seqM ?_
      obtain ⟨f1, H⟩ := need_some.1 H
      replace f1 := inb_iff.1 f1
      refine rg ctNo_ok ?_
      simp only [go_sem, Nat.reduceLT, Nat.reduceAdd, f1]
      refine seqM ?_
      obtain ⟨f2, H⟩ := need_some.1 H
      replace f2 := g_iff.1 f2
      refine draw_quiet shT_ok ct53_0t0_ok (by kernel_rfl) (by kernel_rfl) ?_
      simp only [go_sem, Nat.reduceLeDiff, Nat.reduceLT, Nat.reduceAdd, ct53_0t0_52, body52_0]
      repeat ((with_reducible refine And.intro ?_ ?_); focus (first | (with_reducible trivial) | omega | exact f2 | (intro g; have q := f2 (by first | exact g | (rw [g]; rfl) | simpa using g); first | exact q | exact ⟨q.1, q.2.1⟩ | exact q.2.2 | omega | exact ⟨g, q⟩ | exact ⟨trivial, q⟩ | exact ⟨g, q.1, q.2.1⟩ | exact ⟨g, q.2.2⟩) | (intro g; (try have q0 := f2 (by first | exact g | (rw [g]; rfl) | simpa using g)); and_intros <;> first | (with_reducible trivial) | assumption | exact nfc | (intro g2; rw [g, g2]; rfl) | (intro g2; assumption) | (simp only [g, Bool.true_and, Bool.and_true, Bool.not_false, Bool.not_true]; assumption) | grind) | (and_intros <;> first | (with_reducible trivial) | omega | assumption | exact nfc | first | exact rfl | exact trivial | exact fitI | exact .inr rfl | exact .inl rfl | exact fun x hx => absurd hx (by omega) | (intro x hx; (repeat (first | (and_intros <;> (first | exact rfl | exact trivial | exact fitI | exact .inr rfl | exact .inl rfl | exact fun x hx => absurd hx (by omega))) | (exfalso; omega) | (rcases x with _ | x))); done)) | grind))
      refine condM' rfl trivial (fun hc => ?_) (fun hc => ?_)
      · replace H := cond_f hc H
        refine rg ctNo_ok ?_
        simp only [go_sem]
        refine rg ctNo_ok ?_
        simp only [go_sem]
        refine ⟨_, (Option.some.inj H).symm, ?_⟩
        refine SubF_of ⟨[some 0], ?_, ?_, by rfl, by rfl⟩
        · simp [CvL, Cv, getM]
        · exact ⟨CvB_row nr_i64 (by first | rfl | (simp; done) | (simp; omega)) (fun _ _ _ _ => rfl), trivial⟩
      replace H := cond_t hc H
      obtain ⟨f3, H⟩ := need_some.1 H
      replace f3 := capb_iff.1 f3
      refine rg ctNo_ok ?_
      simp only [go_sem, Nat.reduceLeDiff, Nat.reduceLT, Nat.reduceAdd, Nat.reduceBEq, f3]
      repeat ((with_reducible refine And.intro ?_ ?_); focus (first | (and_intros <;> first | (with_reducible trivial) | omega | assumption | exact nfc | first | exact rfl | exact trivial | exact fitI | exact .inr rfl | exact .inl rfl | exact fun x hx => absurd hx (by omega) | (intro x hx; (repeat (first | (and_intros <;> (first | exact rfl | exact trivial | exact fitI | exact .inr rfl | exact .inl rfl | exact fun x hx => absurd hx (by omega))) | (exfalso; omega) | (rcases x with _ | x))); done) | (refine Fit_app ?_ ?_ <;> first | exact fitI | (intro x hx; (repeat (first | (and_intros <;> (first | exact rfl | exact trivial | exact fitI | exact .inr rfl | exact .inl rfl | exact fun x hx => absurd hx (by omega))) | (exfalso; omega) | (rcases x with _ | x))); done) | (refine Fit_app ?_ ?_ <;> first | exact fitI | (intro x hx; (repeat (first | (and_intros <;> (first | exact rfl | exact trivial | exact fitI | exact .inr rfl | exact .inl rfl | exact fun x hx => absurd hx (by omega))) | (exfalso; omega) | (rcases x with _ | x))); done)))) | grind))
      refine rg ctNo_ok ?_
      simp only [go_sem]
      refine ⟨_, (Option.some.inj H).symm, ?_⟩
      refine SubF_of ⟨[some 3], ?_, ?_, by rfl, by rfl⟩
      · simp [CvL, Cv, getM]
      · exact ⟨CvB_row nr_i64 (by first | rfl | (simp; done) | (simp; omega)) (app_row (f := c_i64) v1_1 [(gd p0_0 v1_2.toNat).Number] (fun _ _ _ _ => rfl) (lit_row (f := c_i64) [(gd p0_0 v1_2.toNat).Number] (fun _ _ => rfl) rfl)), trivial⟩
    · try dsimp only at H ⊢
      try simp only [tp]
      try simp only [m_normal]
      refine sq ctNo_ok ?_
      simp only [go_sem]
      refine rg ctNo_ok ?_
      simp only [go_sem]
      obtain rfl := Option.some.inj H
      refine RetE_mk [] [some 0] ?_ ?_ ?_ ?_ (by rfl) (by rfl)
      · simp only [go_sem]
      · simp only [go_sem]
      · simp only [go_sem]
        exact (by first | (simp [Cv, getM]; done) | (simp [Cv, CvL, getM, gt_some]; omega))
      · simp only [go_sem, CvH]
        exact CvB_row nr_i64 (by first | rfl | (simp; done) | (simp; omega)) (fun _ _ _ _ => rfl)
  · cases hb
/-! hotspot/regulate.announcement -/
noncomputable def F57_0 (p0_1 : Int) (p0_6 : Int) (p0_7 : Int) : Option (List TRegulateWord) :=
  some [(TRegulateWord.mk 1 p0_1 p0_6 p0_7)]
noncomputable def body57_0 : List AV -> List ABlk -> ED
  | [v0], h => .ed [] (rM 10 (roD (deadL h []) v0) /\ iK .i64 (rG (roD (deadL h []) v0) 1) /\ iK .i64 (rG (roD (deadL h []) v0) 6) /\ iK .i64 (rG (roD (deadL h []) v0) 7) /\ roDOb (deadL h []) v0 /\ (F57_0 (iA (rG (roD (deadL h []) v0) 1)) (iA (rG (roD (deadL h []) v0) 6)) (iA (rG (roD (deadL h []) v0) 7))).isSome = true) (.sl 0 4 0 ((gt (F57_0 (iA (rG (roD (deadL h []) v0) 1)) (iA (rG (roD (deadL h []) v0) 6)) (iA (rG (roD (deadL h []) v0) 7)))).length) false) [.row 23 4 ((gt (F57_0 (iA (rG (roD (deadL h []) v0) 1)) (iA (rG (roD (deadL h []) v0) 6)) (iA (rG (roD (deadL h []) v0) 7)))).length) (enR c_TRegulateWord (gt (F57_0 (iA (rG (roD (deadL h []) v0) 1)) (iA (rG (roD (deadL h []) v0) 6)) (iA (rG (roD (deadL h []) v0) 7)))))]
  | _, _ => .fail
set_option maxHeartbeats 4000000 in
set_option maxRecDepth 20000 in
theorem ok57_0 : FnOk Try.prog 57 (edC body57_0) := by
  refine edit_fnV body57_0 (rs := [.tmp 2]) Try.func57 (by kernel_rfl) rfl rfl ?_
  intro l h bs ob q0 g0 hb hob
  unfold body57_0 at hb
  split at hb
  · rename_i v0
    injection hb with q1 q2 q3 q4; subst q1 q2 q3 q4
    obtain ⟨hk0_0, hk0_1, hk0_2, hk0_3, hk0_4, hob⟩ := hob
    obtain ⟨r, H⟩ := Option.isSome_iff_exists.1 hob
    rw [H, gt_some]
    have hw0 := (rM_wk (cells := [AV.top, AV.int .i64 (iA (rG (roD (deadL h []) v0) 1)), AV.top, AV.top, AV.top, AV.top, AV.int .i64 (iA (rG (roD (deadL h []) v0) 6)), AV.int .i64 (iA (rG (roD (deadL h []) v0) 7)), AV.top, AV.top]) hk0_0 (fun y hy => match y, hy with | 0, _ => top_wk | 1, _ => iK_wk hk0_1 | 2, _ => top_wk | 3, _ => top_wk | 4, _ => top_wk | 5, _ => top_wk | 6, _ => iK_wk hk0_2 | 7, _ => iK_wk hk0_3 | 8, _ => top_wk | 9, _ => top_wk | y + 10, hy => absurd hy (by omega)))
    obtain ⟨p0_1, hp_p0_1⟩ : ∃ p0_1, p0_1 = iA (rG (roD (deadL h []) v0) 1) := ⟨_, rfl⟩
    rw [← hp_p0_1] at H hw0
    obtain ⟨p0_6, hp_p0_6⟩ : ∃ p0_6, p0_6 = iA (rG (roD (deadL h []) v0) 6) := ⟨_, rfl⟩
    rw [← hp_p0_6] at H hw0
    obtain ⟨p0_7, hp_p0_7⟩ : ∃ p0_7, p0_7 = iA (rG (roD (deadL h []) v0) 7) := ⟨_, rfl⟩
    rw [← hp_p0_7] at H hw0
    refine ⟨[.rptr 10 1 0 0 (fun _ y => getL [.top, .int .i64 p0_1, .top, .top, .top, .top, .int .i64 p0_6, .int .i64 p0_7, .top, .top] y)], [], rfl, ⟨(EW_view hk0_4 hw0), trivial⟩, trivial, trivial, ⟨(nfB_en nr_TRegulateWord), trivial⟩, ⟨noroB_en, trivial⟩, (by first | (simp only [noro]; done) | (simp only [noro, noroL]; and_intros <;> first | trivial | exact noro_bif (by simp only [noro]) (by simp only [noro]) | (simp only [noro, noroL, and_self]))), ?_⟩
    rw [Try.ntmps57]
    simp only [List.length_cons, List.length_nil, Nat.reduceAdd, Nat.reduceSub, List.replicate_succ, List.replicate_zero, List.cons_append, List.nil_append]
    unfold F57_0 at H
    refine sq ctNo_ok ?_
    simp only [go_sem]
    refine seqM ?_
    refine draw_rule shT_ok ctNo_ok 1 (by kernel_rfl) (by kernel_rfl) ?_
    intro an han
    simp only [d_nil, d_cons, nxtD, xrD, xoD, roEq, minL, List.append_nil, refsOp, refs, mask, maskF, place, placeF, okLog, pairOk, hit, inL, slotsF, ren, rnN, nrH, nrB, List.replicate_zero, List.replicate_succ, Nat.sub_self, Nat.add_zero, Nat.zero_add, Nat.reduceSub, Nat.zero_le, Nat.lt_add_one, go_sem, Nat.reduceLeDiff, Nat.reduceLT, Nat.reduceAdd, Nat.reduceSub]
    repeat ((with_reducible refine And.intro ?_ ?_); focus (and_intros <;> first | (with_reducible trivial) | (show anB _ _ _ = true; subst han; kernel_rfl) | (show (anB _ _ _ && _) = true; subst han; kernel_rfl) | omega | assumption | exact nrc | exact nfc | first | exact rfl | exact trivial | exact fitI | exact .inr rfl | exact .inl rfl | exact fun x hx => absurd hx (by omega) | (intro x hx; (repeat (first | (and_intros <;> (first | exact rfl | exact trivial | exact fitI | exact .inr rfl | exact .inl rfl | exact fun x hx => absurd hx (by omega))) | (exfalso; omega) | (rcases x with _ | x))); done)))
    refine rg ctNo_ok ?_
    simp only [go_sem]
    obtain rfl := Option.some.inj H
    refine RetE_mk [] [some 0] ?_ ?_ ?_ ?_ (by rfl) (by rfl)
    · simp only [go_sem]
    · simp only [go_sem]
    · simp only [go_sem]
      exact (by first | (simp [Cv, getM]; done) | (simp [Cv, CvL, getM, gt_some]; omega))
    · simp only [go_sem, CvH]
      exact CvB_row nr_TRegulateWord (by first | rfl | (simp; done) | (simp; omega)) (lit_row (f := c_TRegulateWord) [(TRegulateWord.mk 1 p0_1 p0_6 p0_7)] (fun _ _ => rfl) rfl)
  · cases hb
/-! hotspot/regulate.radar -/
noncomputable def ct54_0t0 : Ct := tab [(92, edC body92_0)]
theorem ct54_0t0_ok : CtOk Try.prog ct54_0t0 := tab_cons ok92_0 <| tab_nil
theorem ct54_0t0_92 (l : List AV) (h : List ABlk) : ct54_0t0 92 l h = edC body92_0 l h := rfl
noncomputable def ct54_0t1 : Ct := tab [(53, edC body53_0)]
theorem ct54_0t1_ok : CtOk Try.prog ct54_0t1 := tab_cons ok53_0 <| tab_nil
theorem ct54_0t1_53 (l : List AV) (h : List ABlk) : ct54_0t1 53 l h = edC body53_0 l h := rfl
noncomputable def ct54_0t2 : Ct := tab [(57, edC body57_0)]
theorem ct54_0t2_ok : CtOk Try.prog ct54_0t2 := tab_cons ok57_0 <| tab_nil
theorem ct54_0t2_57 (l : List AV) (h : List ABlk) : ct54_0t2 57 l h = edC body57_0 l h := rfl
noncomputable def F54_0 (p0 : TRegulate) (p1 : Int) (p2 : Int) : Option ((List TRegulateWord) × TRegulate) :=
  (F92_0 (TRegulate.mk p0.Table p0.Channel p0.Lead p0.Heard p0.Stopped p0.Moving p0.To p0.At p0.Blocked p0.Clear) p2).bind fun r1 => bif (!r1.Lead) then (some ([(TRegulateWord.mk 2 r1.Channel 0 0)], (TRegulate.mk r1.Table r1.Channel r1.Lead r1.Heard r1.Stopped r1.Moving r1.To r1.At r1.Blocked r1.Clear))) else ((F53_0 r1.Table r1.Channel r1.Blocked r1.Clear p2).bind fun r3 => bif (bEq (r3.length : Nat) 0) then (some ([], (TRegulate.mk r1.Table r1.Channel r1.Lead r1.Heard r1.Stopped r1.Moving r1.To r1.At r1.Blocked r1.Clear))) else (need (!(bEq (r3.length : Nat) 0)) <| need (inb (p1.tmod (r3.length : Nat)) r3.length) <| (F57_0 r1.Channel (gd r3 ((p1.tmod (r3.length : Nat)).toNat)) (minI (wr .i64 (p2 + 150000)) 1099511627776)).bind fun r7 => some (r7, (TRegulate.mk r1.Table r1.Channel r1.Lead r1.Heard r1.Stopped true (gd r3 ((p1.tmod (r3.length : Nat)).toNat)) (minI (wr .i64 (p2 + 150000)) 1099511627776) r1.Blocked r1.Clear))))
noncomputable def body54_0 : List AV -> List ABlk -> ED
  | [v0, v1, v2], h => .ed [ptB v0, slN (getL (celL h v0) 0), slN (getL (celL h v0) 8), slN (getL (celL h v0) 9)] (pK 39 10 h v0 /\ k_TRegulate (getL (roWL h (celL h v0))) /\ oS 45 3 h (getL (celL h v0) 0) /\ nref (getL (celL h v0) 1) /\ nref (getL (celL h v0) 2) /\ nref (getL (celL h v0) 3) /\ nref (getL (celL h v0) 4) /\ nref (getL (celL h v0) 5) /\ nref (getL (celL h v0) 6) /\ nref (getL (celL h v0) 7) /\ oS 79 2 h (getL (celL h v0) 8) /\ oS 3 1 h (getL (celL h v0) 9) /\ iK .i64 (roD (deadL h [ptB v0, slN (getL (celL h v0) 0), slN (getL (celL h v0) 8), slN (getL (celL h v0) 9)]) v1) /\ roDOb (deadL h [ptB v0, slN (getL (celL h v0) 0), slN (getL (celL h v0) 8), slN (getL (celL h v0) 9)]) v1 /\ iK .i64 (roD (deadL h [ptB v0, slN (getL (celL h v0) 0), slN (getL (celL h v0) 8), slN (getL (celL h v0) 9)]) v2) /\ roDOb (deadL h [ptB v0, slN (getL (celL h v0) 0), slN (getL (celL h v0) 8), slN (getL (celL h v0) 9)]) v2 /\ (F54_0 (g_TRegulate (getL (roWL h (celL h v0)))) (iA (roD (deadL h [ptB v0, slN (getL (celL h v0) 0), slN (getL (celL h v0) 8), slN (getL (celL h v0) 9)]) v1)) (iA (roD (deadL h [ptB v0, slN (getL (celL h v0) 0), slN (getL (celL h v0) 8), slN (getL (celL h v0) 9)]) v2))).isSome = true) (.sl 7 4 0 (((gt (F54_0 (g_TRegulate (getL (roWL h (celL h v0)))) (iA (roD (deadL h [ptB v0, slN (getL (celL h v0) 0), slN (getL (celL h v0) 8), slN (getL (celL h v0) 9)]) v1)) (iA (roD (deadL h [ptB v0, slN (getL (celL h v0) 0), slN (getL (celL h v0) 8), slN (getL (celL h v0) 9)]) v2)))).1).length) false) [.lit 39 [.sl 4 3 0 ((((gt (F54_0 (g_TRegulate (getL (roWL h (celL h v0)))) (iA (roD (deadL h [ptB v0, slN (getL (celL h v0) 0), slN (getL (celL h v0) 8), slN (getL (celL h v0) 9)]) v1)) (iA (roD (deadL h [ptB v0, slN (getL (celL h v0) 0), slN (getL (celL h v0) 8), slN (getL (celL h v0) 9)]) v2)))).2).Table).length) false, .int .i64 (((gt (F54_0 (g_TRegulate (getL (roWL h (celL h v0)))) (iA (roD (deadL h [ptB v0, slN (getL (celL h v0) 0), slN (getL (celL h v0) 8), slN (getL (celL h v0) 9)]) v1)) (iA (roD (deadL h [ptB v0, slN (getL (celL h v0) 0), slN (getL (celL h v0) 8), slN (getL (celL h v0) 9)]) v2)))).2).Channel), .bool (((gt (F54_0 (g_TRegulate (getL (roWL h (celL h v0)))) (iA (roD (deadL h [ptB v0, slN (getL (celL h v0) 0), slN (getL (celL h v0) 8), slN (getL (celL h v0) 9)]) v1)) (iA (roD (deadL h [ptB v0, slN (getL (celL h v0) 0), slN (getL (celL h v0) 8), slN (getL (celL h v0) 9)]) v2)))).2).Lead), .int .i64 (((gt (F54_0 (g_TRegulate (getL (roWL h (celL h v0)))) (iA (roD (deadL h [ptB v0, slN (getL (celL h v0) 0), slN (getL (celL h v0) 8), slN (getL (celL h v0) 9)]) v1)) (iA (roD (deadL h [ptB v0, slN (getL (celL h v0) 0), slN (getL (celL h v0) 8), slN (getL (celL h v0) 9)]) v2)))).2).Heard), .bool (((gt (F54_0 (g_TRegulate (getL (roWL h (celL h v0)))) (iA (roD (deadL h [ptB v0, slN (getL (celL h v0) 0), slN (getL (celL h v0) 8), slN (getL (celL h v0) 9)]) v1)) (iA (roD (deadL h [ptB v0, slN (getL (celL h v0) 0), slN (getL (celL h v0) 8), slN (getL (celL h v0) 9)]) v2)))).2).Stopped), .bool (((gt (F54_0 (g_TRegulate (getL (roWL h (celL h v0)))) (iA (roD (deadL h [ptB v0, slN (getL (celL h v0) 0), slN (getL (celL h v0) 8), slN (getL (celL h v0) 9)]) v1)) (iA (roD (deadL h [ptB v0, slN (getL (celL h v0) 0), slN (getL (celL h v0) 8), slN (getL (celL h v0) 9)]) v2)))).2).Moving), .int .i64 (((gt (F54_0 (g_TRegulate (getL (roWL h (celL h v0)))) (iA (roD (deadL h [ptB v0, slN (getL (celL h v0) 0), slN (getL (celL h v0) 8), slN (getL (celL h v0) 9)]) v1)) (iA (roD (deadL h [ptB v0, slN (getL (celL h v0) 0), slN (getL (celL h v0) 8), slN (getL (celL h v0) 9)]) v2)))).2).To), .int .i64 (((gt (F54_0 (g_TRegulate (getL (roWL h (celL h v0)))) (iA (roD (deadL h [ptB v0, slN (getL (celL h v0) 0), slN (getL (celL h v0) 8), slN (getL (celL h v0) 9)]) v1)) (iA (roD (deadL h [ptB v0, slN (getL (celL h v0) 0), slN (getL (celL h v0) 8), slN (getL (celL h v0) 9)]) v2)))).2).At), .sl 5 2 0 ((((gt (F54_0 (g_TRegulate (getL (roWL h (celL h v0)))) (iA (roD (deadL h [ptB v0, slN (getL (celL h v0) 0), slN (getL (celL h v0) 8), slN (getL (celL h v0) 9)]) v1)) (iA (roD (deadL h [ptB v0, slN (getL (celL h v0) 0), slN (getL (celL h v0) 8), slN (getL (celL h v0) 9)]) v2)))).2).Blocked).length) false, .sl 6 1 0 ((((gt (F54_0 (g_TRegulate (getL (roWL h (celL h v0)))) (iA (roD (deadL h [ptB v0, slN (getL (celL h v0) 0), slN (getL (celL h v0) 8), slN (getL (celL h v0) 9)]) v1)) (iA (roD (deadL h [ptB v0, slN (getL (celL h v0) 0), slN (getL (celL h v0) 8), slN (getL (celL h v0) 9)]) v2)))).2).Clear).length) false], .dead, .dead, .dead, .row 45 3 ((((gt (F54_0 (g_TRegulate (getL (roWL h (celL h v0)))) (iA (roD (deadL h [ptB v0, slN (getL (celL h v0) 0), slN (getL (celL h v0) 8), slN (getL (celL h v0) 9)]) v1)) (iA (roD (deadL h [ptB v0, slN (getL (celL h v0) 0), slN (getL (celL h v0) 8), slN (getL (celL h v0) 9)]) v2)))).2).Table).length) (enR c_TRegulateChannel (((gt (F54_0 (g_TRegulate (getL (roWL h (celL h v0)))) (iA (roD (deadL h [ptB v0, slN (getL (celL h v0) 0), slN (getL (celL h v0) 8), slN (getL (celL h v0) 9)]) v1)) (iA (roD (deadL h [ptB v0, slN (getL (celL h v0) 0), slN (getL (celL h v0) 8), slN (getL (celL h v0) 9)]) v2)))).2).Table)), .row 79 2 ((((gt (F54_0 (g_TRegulate (getL (roWL h (celL h v0)))) (iA (roD (deadL h [ptB v0, slN (getL (celL h v0) 0), slN (getL (celL h v0) 8), slN (getL (celL h v0) 9)]) v1)) (iA (roD (deadL h [ptB v0, slN (getL (celL h v0) 0), slN (getL (celL h v0) 8), slN (getL (celL h v0) 9)]) v2)))).2).Blocked).length) (enR c_TRegulateBlock (((gt (F54_0 (g_TRegulate (getL (roWL h (celL h v0)))) (iA (roD (deadL h [ptB v0, slN (getL (celL h v0) 0), slN (getL (celL h v0) 8), slN (getL (celL h v0) 9)]) v1)) (iA (roD (deadL h [ptB v0, slN (getL (celL h v0) 0), slN (getL (celL h v0) 8), slN (getL (celL h v0) 9)]) v2)))).2).Blocked)), .row 3 1 ((((gt (F54_0 (g_TRegulate (getL (roWL h (celL h v0)))) (iA (roD (deadL h [ptB v0, slN (getL (celL h v0) 0), slN (getL (celL h v0) 8), slN (getL (celL h v0) 9)]) v1)) (iA (roD (deadL h [ptB v0, slN (getL (celL h v0) 0), slN (getL (celL h v0) 8), slN (getL (celL h v0) 9)]) v2)))).2).Clear).length) (enR c_i64 (((gt (F54_0 (g_TRegulate (getL (roWL h (celL h v0)))) (iA (roD (deadL h [ptB v0, slN (getL (celL h v0) 0), slN (getL (celL h v0) 8), slN (getL (celL h v0) 9)]) v1)) (iA (roD (deadL h [ptB v0, slN (getL (celL h v0) 0), slN (getL (celL h v0) 8), slN (getL (celL h v0) 9)]) v2)))).2).Clear)), .row 23 4 (((gt (F54_0 (g_TRegulate (getL (roWL h (celL h v0)))) (iA (roD (deadL h [ptB v0, slN (getL (celL h v0) 0), slN (getL (celL h v0) 8), slN (getL (celL h v0) 9)]) v1)) (iA (roD (deadL h [ptB v0, slN (getL (celL h v0) 0), slN (getL (celL h v0) 8), slN (getL (celL h v0) 9)]) v2)))).1).length) (enR c_TRegulateWord ((gt (F54_0 (g_TRegulate (getL (roWL h (celL h v0)))) (iA (roD (deadL h [ptB v0, slN (getL (celL h v0) 0), slN (getL (celL h v0) 8), slN (getL (celL h v0) 9)]) v1)) (iA (roD (deadL h [ptB v0, slN (getL (celL h v0) 0), slN (getL (celL h v0) 8), slN (getL (celL h v0) 9)]) v2)))).1))]
  | _, _ => .fail
set_option maxHeartbeats 4000000 in
set_option maxRecDepth 20000 in
theorem ok54_0 : FnOk Try.prog 54 (edC body54_0) := by
  refine edit_fnV body54_0 (rs := [.tmp 6]) Try.func54 (by kernel_rfl) rfl rfl ?_
  intro l h bs ob q0 g0 hb hob
  unfold body54_0 at hb
  split at hb
  · rename_i v0 v1 v2
    injection hb with q1 q2 q3 q4; subst q1 q2 q3 q4
    obtain ⟨hk0_0, hk0_1, hk0_2, hk0_3, hk0_4, hk0_5, hk0_6, hk0_7, hk0_8, hk0_9, hk0_10, hk0_11, hk1_0, hk1_1, hk2_0, hk2_1, hob⟩ := hob
    obtain ⟨r, H⟩ := Option.isSome_iff_exists.1 hob
    rw [H, gt_some]
    obtain ⟨p0, hp0⟩ : ∃ p0, p0 = g_TRegulate (getL (roWL h (celL h v0))) := ⟨_, rfl⟩
    rw [← hp0] at H
    have hw0 : ∀ y, y < 10 -> WkV (getL (c_TRegulate p0) y) (roW h (getL (celL h v0) y)) /\ nref (getL (c_TRegulate p0) y) := fun y hy => by rw [hp0, ← getL_roWL]; exact w_TRegulate hk0_1 y hy
    have hk0_K := hk0_1
    unfold k_TRegulate at hk0_K
    obtain ⟨kk0_0, kk0_1, kk0_2, kk0_3, kk0_4, kk0_5, kk0_6, kk0_7, kk0_8, kk0_9⟩ := hk0_K
    obtain ⟨ev0_0, eb0_0⟩ := own_row2 (f := c_TRegulateChannel) (g := g_TRegulateChannel) (bs := [ptB v0, slN (getL (celL h v0) 0), slN (getL (celL h v0) 8), slN (getL (celL h v0) 9)]) (i := 1) (fun hr => w_TRegulateChannel hr) hk0_2 (by rw [← getL_roWL]; exact kk0_0) (L := p0.Table) (by rw [hp0, ← getL_roWL]; rfl) rfl
    obtain ⟨ev0_8, eb0_8⟩ := own_row2 (f := c_TRegulateBlock) (g := g_TRegulateBlock) (bs := [ptB v0, slN (getL (celL h v0) 0), slN (getL (celL h v0) 8), slN (getL (celL h v0) 9)]) (i := 2) (fun hr => w_TRegulateBlock hr) hk0_10 (by rw [← getL_roWL]; exact kk0_8) (L := p0.Blocked) (by rw [hp0, ← getL_roWL]; rfl) rfl
    obtain ⟨ev0_9, eb0_9⟩ := own_row2 (f := c_i64) (g := g_i64) (bs := [ptB v0, slN (getL (celL h v0) 0), slN (getL (celL h v0) 8), slN (getL (celL h v0) 9)]) (i := 3) (fun hr => w_i64 hr) hk0_11 (by rw [← getL_roWL]; exact kk0_9) (L := p0.Clear) (by rw [hp0, ← getL_roWL]; rfl) rfl
    have hw1 := iK_wk hk1_0
    obtain ⟨p1, hp_p1⟩ : ∃ p1, p1 = iA (roD (deadL h [ptB v0, slN (getL (celL h v0) 0), slN (getL (celL h v0) 8), slN (getL (celL h v0) 9)]) v1) := ⟨_, rfl⟩
    rw [← hp_p1] at H hw1
    have hw2 := iK_wk hk2_0
    obtain ⟨p2, hp_p2⟩ : ∃ p2, p2 = iA (roD (deadL h [ptB v0, slN (getL (celL h v0) 0), slN (getL (celL h v0) 8), slN (getL (celL h v0) 9)]) v2) := ⟨_, rfl⟩
    rw [← hp_p2] at H hw2
    refine ⟨[.ptr 0 0 0 0, .int .i64 p1, .int .i64 p2], [.lit 39 [.sl 1 3 0 p0.Table.length false, .int .i64 p0.Channel, .bool p0.Lead, .int .i64 p0.Heard, .bool p0.Stopped, .bool p0.Moving, .int .i64 p0.To, .int .i64 p0.At, .sl 2 2 0 p0.Blocked.length false, .sl 3 1 0 p0.Clear.length false], .row 45 3 p0.Table.length (enR c_TRegulateChannel p0.Table), .row 79 2 p0.Blocked.length (enR c_TRegulateBlock p0.Blocked), .row 3 1 p0.Clear.length (enR c_i64 p0.Clear)], rfl, ⟨(EW_own (EV_pK hk0_0 rfl) (by simp only [noro])), ⟨(EW_view hk1_1 hw1), ⟨(EW_view hk2_1 hw2), trivial⟩⟩⟩, ⟨(EB_pK hk0_0 rfl rfl (fun y hy => by
          match y, hy with
          | 0, _ => exact ev0_0
          | 1, _ => exact EV_t hk0_3 (hw0 1 (by decide))
          | 2, _ => exact EV_t hk0_4 (hw0 2 (by decide))
          | 3, _ => exact EV_t hk0_5 (hw0 3 (by decide))
          | 4, _ => exact EV_t hk0_6 (hw0 4 (by decide))
          | 5, _ => exact EV_t hk0_7 (hw0 5 (by decide))
          | 6, _ => exact EV_t hk0_8 (hw0 6 (by decide))
          | 7, _ => exact EV_t hk0_9 (hw0 7 (by decide))
          | 8, _ => exact ev0_8
          | 9, _ => exact ev0_9
          | y + 10, hy => omega)), ⟨eb0_0, ⟨eb0_8, ⟨eb0_9, trivial⟩⟩⟩⟩, ⟨(by simp only [noroB, noroL, noro, and_self]), ⟨noroB_en, ⟨noroB_en, ⟨noroB_en, trivial⟩⟩⟩⟩, ⟨trivial, ⟨trivial, ⟨trivial, ⟨trivial, ⟨(nfB_en nr_TRegulateChannel), ⟨(nfB_en nr_TRegulateBlock), ⟨(nfB_en nr_i64), ⟨(nfB_en nr_TRegulateWord), trivial⟩⟩⟩⟩⟩⟩⟩⟩, ⟨(by simp only [noroB, noroL, noro, and_self]), ⟨trivial, ⟨trivial, ⟨trivial, ⟨noroB_en, ⟨noroB_en, ⟨noroB_en, ⟨noroB_en, trivial⟩⟩⟩⟩⟩⟩⟩⟩, (by first | (simp only [noro]; done) | (simp only [noro, noroL]; and_intros <;> first | trivial | exact noro_bif (by simp only [noro]) (by simp only [noro]) | (simp only [noro, noroL, and_self]))), ?_⟩
    rw [Try.ntmps54]
    simp only [List.length_cons, List.length_nil, Nat.reduceAdd, Nat.reduceSub, List.replicate_succ, List.replicate_zero, List.cons_append, List.nil_append]
    unfold F54_0 at H
    refine sq ctNo_ok ?_
    simp only [go_sem]
    refine seqM ?_
    obtain ⟨r1, e2, H⟩ := bsi H
    refine rg ct54_0t0_ok ?_
    simp only [go_sem, Nat.reduceAdd, Nat.reduceBEq, ct54_0t0_92, body92_0, e2]
    repeat ((with_reducible refine And.intro ?_ ?_); focus (first | (and_intros <;> first | (with_reducible trivial) | omega | assumption | exact nfc | first | exact rfl | exact trivial | exact fitI | exact .inr rfl | exact .inl rfl | exact fun x hx => absurd hx (by omega)) | grind))
    refine seqM ?_
    refine sq ctNo_ok ?_
    simp only [go_sem, Nat.reduceLeDiff, Nat.reduceLT, Nat.reduceAdd]
    refine condM rfl trivial (fun hc => ?_) (fun hc => ?_)
    · replace H := cond_t hc H
      refine sq ctNo_ok ?_
      simp only [go_sem, Nat.reduceLeDiff, Nat.reduceLT, Nat.reduceAdd]
      refine rg ctNo_ok ?_
      simp only [go_sem]
      obtain rfl := Option.some.inj H
      refine RetE_mk [] [some 0, some 1, some 2, some 3, some 4, some 5, some 6, some 7] ?_ ?_ ?_ ?_ (by rfl) (by rfl)
      · simp only [go_sem]
      · simp only [go_sem]
      · simp only [go_sem]
        exact (by first | (simp [Cv, getM]; done) | (simp [Cv, CvL, getM, gt_some]; omega))
      · simp only [go_sem, CvH]
        first | exact ⟨(by simp [CvB, CvL, Cv, blkAt, geth, getM]), CvB_dead, CvB_dead, CvB_dead, CvB_row nr_TRegulateChannel (by first | rfl | (simp; done) | (simp; omega)) (fun _ _ _ _ => rfl), CvB_row nr_TRegulateBlock (by first | rfl | (simp; done) | (simp; omega)) (fun _ _ _ _ => rfl), CvB_row nr_i64 (by first | rfl | (simp; done) | (simp; omega)) (fun _ _ _ _ => rfl), CvB_row nr_TRegulateWord (by first | rfl | (simp; done) | (simp; omega)) (lit_row (f := c_TRegulateWord) [(TRegulateWord.mk 2 r1.Channel 0 0)] (fun _ _ => rfl) rfl)⟩ | trivial
    replace H := cond_f hc H
    refine rg ctNo_ok ?_
    simp only [go_sem]
    refine seqM ?_
    obtain ⟨r3, e4, H⟩ := bsi H
    refine rg ct54_0t1_ok ?_
    simp only [go_sem, Nat.reduceLT, Nat.reduceAdd, ct54_0t1_53, body53_0, e4]
    repeat ((with_reducible refine And.intro ?_ ?_); focus (first | (and_intros <;> first | (with_reducible trivial) | omega | assumption | exact nfc | first | exact rfl | exact trivial | exact fitI | exact .inr rfl | exact .inl rfl | exact fun x hx => absurd hx (by omega)) | grind))
    refine seqM ?_
    refine sq ctNo_ok ?_
    simp only [go_sem]
    refine condM rfl trivial (fun hc => ?_) (fun hc => ?_)
    · replace H := cond_t hc H
      refine sq ctNo_ok ?_
      simp only [go_sem]
      refine rg ctNo_ok ?_
      simp only [go_sem]
      obtain rfl := Option.some.inj H
      refine RetE_mk [] [some 0, some 1, some 2, some 3, some 4, some 5, some 6, none] ?_ ?_ ?_ ?_ (by rfl) (by rfl)
      · simp only [go_sem]
      · simp only [go_sem]
      · simp only [go_sem]
        exact (by first | (simp [Cv]; done) | (simp [Cv, CvL, getM, gt_some]; omega))
      · simp only [go_sem, CvH]
        first | exact ⟨(by simp [CvB, CvL, Cv, blkAt, geth, getM]), CvB_dead, CvB_dead, CvB_dead, CvB_row nr_TRegulateChannel (by first | rfl | (simp; done) | (simp; omega)) (fun _ _ _ _ => rfl), CvB_row nr_TRegulateBlock (by first | rfl | (simp; done) | (simp; omega)) (fun _ _ _ _ => rfl), CvB_row nr_i64 (by first | rfl | (simp; done) | (simp; omega)) (fun _ _ _ _ => rfl), CvB_none⟩ | trivial
    replace H := cond_f hc H
    refine rg ctNo_ok ?_
    simp only [go_sem]
    refine seqM ?_
    obtain ⟨f5, H⟩ := need_some.1 H
    replace f5 := ne0_iff.1 f5
    obtain ⟨f6, H⟩ := need_some.1 H
    replace f6 := inb_iff.1 f6
    refine rg ctNo_ok ?_
    simp only [go_sem, Nat.reduceLeDiff, Nat.reduceLT, Nat.reduceAdd, f5, f6]
    refine seqM ?_
    obtain ⟨r7, e8, H⟩ := bsi H
    refine rg ct54_0t2_ok ?_
    simp only [go_sem, Nat.reduceLT, Nat.reduceAdd, ct54_0t2_57, body57_0, e8]
    repeat ((with_reducible refine And.intro ?_ ?_); focus (first | (and_intros <;> first | (with_reducible trivial) | omega | assumption | exact nfc | first | exact rfl | exact trivial | exact fitI | exact .inr rfl | exact .inl rfl | exact fun x hx => absurd hx (by omega)) | grind))
    refine rg ctNo_ok ?_
    simp only [go_sem]
    obtain rfl := Option.some.inj H
    refine RetE_mk [] [some 0, some 1, some 2, some 3, some 4, some 5, some 6, some 8] ?_ ?_ ?_ ?_ (by rfl) (by rfl)
    · simp only [go_sem]
    · simp only [go_sem]
    · simp only [go_sem]
      exact (by first | (simp [Cv, getM]; done) | (simp [Cv, CvL, getM, gt_some]; omega))
    · simp only [go_sem, CvH]
      first | exact ⟨(by simp [CvB, CvL, Cv, blkAt, geth, getM]), CvB_dead, CvB_dead, CvB_dead, CvB_row nr_TRegulateChannel (by first | rfl | (simp; done) | (simp; omega)) (fun _ _ _ _ => rfl), CvB_row nr_TRegulateBlock (by first | rfl | (simp; done) | (simp; omega)) (fun _ _ _ _ => rfl), CvB_row nr_i64 (by first | rfl | (simp; done) | (simp; omega)) (fun _ _ _ _ => rfl), CvB_row nr_TRegulateWord (by first | rfl | (simp; done) | (simp; omega)) (fun _ _ _ _ => rfl)⟩ | trivial
  · cases hb
/-! hotspot/regulate.Radar -/
noncomputable def ct22t0 : Ct := tab [(50, edC body50)]
theorem ct22t0_ok : CtOk Try.prog ct22t0 := tab_cons ok50 <| tab_nil
theorem ct22t0_50 (l : List AV) (h : List ABlk) : ct22t0 50 l h = edC body50 l h := rfl
noncomputable def ct22t1 : Ct := tab [(54, edC body54_0)]
theorem ct22t1_ok : CtOk Try.prog ct22t1 := tab_cons ok54_0 <| tab_nil
theorem ct22t1_54 (l : List AV) (h : List ABlk) : ct22t1 54 l h = edC body54_0 l h := rfl
noncomputable def F22 (p0 : TRegulate) (p1 : Int) (p2 : Int) : Option (TRegulate × (List TRegulateWord) × Int) :=
  (F50 p0 p2 p1).bind fun r1 => bif r1.1.isSome then (bif (!bEq r1.2 0) then (some ((TRegulate.mk [] 0 false 0 false false 0 0 [] []), [], r1.2)) else (bif (gt r1.1).Stopped then (some ((TRegulate.mk [] 0 false 0 false false 0 0 [] []), [], 20)) else ((F54_0 (TRegulate.mk ((gt r1.1).Table) ((gt r1.1).Channel) ((gt r1.1).Lead) ((gt r1.1).Heard) ((gt r1.1).Stopped) ((gt r1.1).Moving) ((gt r1.1).To) ((gt r1.1).At) ((gt r1.1).Blocked) ((gt r1.1).Clear)) p1 p2).bind fun r4 => some ((TRegulate.mk r4.2.Table r4.2.Channel r4.2.Lead r4.2.Heard r4.2.Stopped r4.2.Moving r4.2.To r4.2.At r4.2.Blocked r4.2.Clear), r4.1, 0)))) else (bif (!bEq r1.2 0) then (some ((TRegulate.mk [] 0 false 0 false false 0 0 [] []), [], r1.2)) else (none))
noncomputable def body22 : List AV -> List ABlk -> ED
  | [v0, v1, v2], h => .ed [] (aK 10 k_TRegulate (roD (deadL h []) v0) /\ roDOb (deadL h []) v0 /\ iK .i64 (roD (deadL h []) v1) /\ roDOb (deadL h []) v1 /\ iK .i64 (roD (deadL h []) v2) /\ roDOb (deadL h []) v2 /\ (F22 (g_TRegulate (aL (roD (deadL h []) v0))) (iA (roD (deadL h []) v1)) (iA (roD (deadL h []) v2))).isSome = true) (.tup [.agg [.sl 0 3 0 ((((gt (F22 (g_TRegulate (aL (roD (deadL h []) v0))) (iA (roD (deadL h []) v1)) (iA (roD (deadL h []) v2)))).1).Table).length) false, .int .i64 (((gt (F22 (g_TRegulate (aL (roD (deadL h []) v0))) (iA (roD (deadL h []) v1)) (iA (roD (deadL h []) v2)))).1).Channel), .bool (((gt (F22 (g_TRegulate (aL (roD (deadL h []) v0))) (iA (roD (deadL h []) v1)) (iA (roD (deadL h []) v2)))).1).Lead), .int .i64 (((gt (F22 (g_TRegulate (aL (roD (deadL h []) v0))) (iA (roD (deadL h []) v1)) (iA (roD (deadL h []) v2)))).1).Heard), .bool (((gt (F22 (g_TRegulate (aL (roD (deadL h []) v0))) (iA (roD (deadL h []) v1)) (iA (roD (deadL h []) v2)))).1).Stopped), .bool (((gt (F22 (g_TRegulate (aL (roD (deadL h []) v0))) (iA (roD (deadL h []) v1)) (iA (roD (deadL h []) v2)))).1).Moving), .int .i64 (((gt (F22 (g_TRegulate (aL (roD (deadL h []) v0))) (iA (roD (deadL h []) v1)) (iA (roD (deadL h []) v2)))).1).To), .int .i64 (((gt (F22 (g_TRegulate (aL (roD (deadL h []) v0))) (iA (roD (deadL h []) v1)) (iA (roD (deadL h []) v2)))).1).At), .sl 1 2 0 ((((gt (F22 (g_TRegulate (aL (roD (deadL h []) v0))) (iA (roD (deadL h []) v1)) (iA (roD (deadL h []) v2)))).1).Blocked).length) false, .sl 2 1 0 ((((gt (F22 (g_TRegulate (aL (roD (deadL h []) v0))) (iA (roD (deadL h []) v1)) (iA (roD (deadL h []) v2)))).1).Clear).length) false], .sl 3 4 0 (((gt (F22 (g_TRegulate (aL (roD (deadL h []) v0))) (iA (roD (deadL h []) v1)) (iA (roD (deadL h []) v2)))).2.1).length) false, .int .i64 ((gt (F22 (g_TRegulate (aL (roD (deadL h []) v0))) (iA (roD (deadL h []) v1)) (iA (roD (deadL h []) v2)))).2.2)]) [.row 45 3 ((((gt (F22 (g_TRegulate (aL (roD (deadL h []) v0))) (iA (roD (deadL h []) v1)) (iA (roD (deadL h []) v2)))).1).Table).length) (enR c_TRegulateChannel (((gt (F22 (g_TRegulate (aL (roD (deadL h []) v0))) (iA (roD (deadL h []) v1)) (iA (roD (deadL h []) v2)))).1).Table)), .row 79 2 ((((gt (F22 (g_TRegulate (aL (roD (deadL h []) v0))) (iA (roD (deadL h []) v1)) (iA (roD (deadL h []) v2)))).1).Blocked).length) (enR c_TRegulateBlock (((gt (F22 (g_TRegulate (aL (roD (deadL h []) v0))) (iA (roD (deadL h []) v1)) (iA (roD (deadL h []) v2)))).1).Blocked)), .row 3 1 ((((gt (F22 (g_TRegulate (aL (roD (deadL h []) v0))) (iA (roD (deadL h []) v1)) (iA (roD (deadL h []) v2)))).1).Clear).length) (enR c_i64 (((gt (F22 (g_TRegulate (aL (roD (deadL h []) v0))) (iA (roD (deadL h []) v1)) (iA (roD (deadL h []) v2)))).1).Clear)), .row 23 4 (((gt (F22 (g_TRegulate (aL (roD (deadL h []) v0))) (iA (roD (deadL h []) v1)) (iA (roD (deadL h []) v2)))).2.1).length) (enR c_TRegulateWord ((gt (F22 (g_TRegulate (aL (roD (deadL h []) v0))) (iA (roD (deadL h []) v1)) (iA (roD (deadL h []) v2)))).2.1))]
  | _, _ => .fail
set_option maxHeartbeats 4000000 in
set_option maxRecDepth 20000 in
theorem ok22 : FnOk Try.prog 22 (edC body22) := by
  refine edit_fnV body22 (rs := [.cell 6 39, .tmp 7, .tmp 8]) Try.func22 (by kernel_rfl) rfl rfl ?_
  intro l h bs ob q0 g0 hb hob
  unfold body22 at hb
  split at hb
  · rename_i v0 v1 v2
    injection hb with q1 q2 q3 q4; subst q1 q2 q3 q4
    obtain ⟨hk0_0, hk0_1, hk1_0, hk1_1, hk2_0, hk2_1, hob⟩ := hob
    obtain ⟨r, H⟩ := Option.isSome_iff_exists.1 hob
    rw [H, gt_some]
    have hw0 := wA_TRegulate hk0_0
    obtain ⟨p0, hp_p0⟩ : ∃ p0, p0 = g_TRegulate (aL (roD (deadL h []) v0)) := ⟨_, rfl⟩
    rw [← hp_p0] at H hw0
    have hw1 := iK_wk hk1_0
    obtain ⟨p1, hp_p1⟩ : ∃ p1, p1 = iA (roD (deadL h []) v1) := ⟨_, rfl⟩
    rw [← hp_p1] at H hw1
    have hw2 := iK_wk hk2_0
    obtain ⟨p2, hp_p2⟩ : ∃ p2, p2 = iA (roD (deadL h []) v2) := ⟨_, rfl⟩
    rw [← hp_p2] at H hw2
    refine ⟨[.agg [.ro 3 p0.Table.length false (enR c_TRegulateChannel p0.Table), .int .i64 p0.Channel, .bool p0.Lead, .int .i64 p0.Heard, .bool p0.Stopped, .bool p0.Moving, .int .i64 p0.To, .int .i64 p0.At, .ro 2 p0.Blocked.length false (enR c_TRegulateBlock p0.Blocked), .ro 1 p0.Clear.length false (enR c_i64 p0.Clear)], .int .i64 p1, .int .i64 p2], [], rfl, ⟨(EW_view hk0_1 hw0), ⟨(EW_view hk1_1 hw1), ⟨(EW_view hk2_1 hw2), trivial⟩⟩⟩, trivial, trivial, ⟨(nfB_en nr_TRegulateChannel), ⟨(nfB_en nr_TRegulateBlock), ⟨(nfB_en nr_i64), ⟨(nfB_en nr_TRegulateWord), trivial⟩⟩⟩⟩, ⟨noroB_en, ⟨noroB_en, ⟨noroB_en, ⟨noroB_en, trivial⟩⟩⟩⟩, (by first | (simp only [noro, noroL, and_self]; done) | (simp only [noro, noroL]; and_intros <;> first | trivial | exact noro_bif (by simp only [noro]) (by simp only [noro]) | (simp only [noro, noroL, and_self]))), ?_⟩
    rw [Try.ntmps22]
    simp only [List.length_cons, List.length_nil, Nat.reduceAdd, Nat.reduceSub, List.replicate_succ, List.replicate_zero, List.cons_append, List.nil_append]
    unfold F22 at H
    refine sq ctNo_ok ?_
    simp only [go_sem]
    refine seqM ?_
    obtain ⟨r1, e2, H⟩ := bsi H
    refine rg ct22t0_ok ?_
    simp only [go_sem, Nat.reduceLT, Nat.reduceAdd, ct22t0_50, body50, e2]
    refine bif_split (c := r1.1.isSome) (fun hq3 => ?_) (fun hq3 => ?_)
    · replace H := cond_t hq3 H
      simp only [go_sem, Nat.reduceAdd, hq3, cond_true, rnm, rnmL, rhoN]
      refine seqM ?_
      refine sq ctNo_ok ?_
      simp only [go_sem]
      refine condM rfl trivial (fun hc => ?_) (fun hc => ?_)
      · replace H := cond_t hc H
        refine sq ctNo_ok ?_
        simp only [go_sem, Nat.reduceLT, Nat.reduceAdd]
        refine rg ctNo_ok ?_
        simp only [go_sem, Nat.reduceLT, Nat.reduceAdd]
        obtain rfl := Option.some.inj H
        refine RetE_mk [] [none, none, none, none] ?_ ?_ ?_ ?_ (by rfl) (by rfl)
        · simp only [go_sem]
        · simp only [go_sem]
        · simp only [go_sem]
          exact Cv_tup (CvL_cons (by first | (simp [Cv, CvL]; done) | (simp [Cv, CvL, getM, gt_some]; omega)) (CvL_cons (by first | (simp [Cv]; done) | (simp [Cv, CvL, getM, gt_some]; omega)) (CvL_cons (by simp [Cv]) CvL_nil)))
        · simp only [go_sem, CvH]
          first | exact ⟨CvB_none, CvB_none, CvB_none, CvB_none⟩ | trivial
      replace H := cond_f hc H
      refine rg ctNo_ok ?_
      simp only [go_sem]
      refine seqM ?_
      refine sq ctNo_ok ?_
      simp only [go_sem, Nat.reduceLeDiff, Nat.reduceLT, Nat.reduceAdd]
      refine condM rfl trivial (fun hc => ?_) (fun hc => ?_)
      · replace H := cond_t hc H
        refine sq ctNo_ok ?_
        simp only [go_sem, Nat.reduceLT, Nat.reduceAdd]
        refine rg ctNo_ok ?_
        simp only [go_sem, Nat.reduceLT, Nat.reduceAdd]
        obtain rfl := Option.some.inj H
        refine RetE_mk [] [none, none, none, none] ?_ ?_ ?_ ?_ (by rfl) (by rfl)
        · simp only [go_sem]
        · simp only [go_sem]
        · simp only [go_sem]
          exact Cv_tup (CvL_cons (by first | (simp [Cv, CvL]; done) | (simp [Cv, CvL, getM, gt_some]; omega)) (CvL_cons (by first | (simp [Cv]; done) | (simp [Cv, CvL, getM, gt_some]; omega)) (CvL_cons (by simp [Cv]) CvL_nil)))
        · simp only [go_sem, CvH]
          first | exact ⟨CvB_none, CvB_none, CvB_none, CvB_none⟩ | trivial
      replace H := cond_f hc H
      refine rg ctNo_ok ?_
      simp only [go_sem]
      refine seqM ?_
      obtain ⟨r4, e5, H⟩ := bsi H
      refine rg ct22t1_ok ?_
      simp only [go_sem, Nat.reduceAdd, Nat.reduceBEq, ct22t1_54, body54_0, e5]
      refine sq ctNo_ok ?_
      simp only [go_sem, Nat.reduceLT, Nat.reduceAdd]
      refine rg ctNo_ok ?_
      simp only [go_sem, Nat.reduceLT, Nat.reduceAdd]
      obtain rfl := Option.some.inj H
      refine RetE_mk [] [some 6, some 7, some 8, some 9] ?_ ?_ ?_ ?_ (by rfl) (by rfl)
      · simp only [go_sem]
      · simp only [go_sem]
      · simp only [go_sem]
        exact Cv_tup (CvL_cons (by first | (simp [Cv, CvL, getM]; done) | (simp [Cv, CvL, getM, gt_some]; omega)) (CvL_cons (by first | (simp [Cv, getM]; done) | (simp [Cv, CvL, getM, gt_some]; omega)) (CvL_cons (by simp [Cv]) CvL_nil)))
      · simp only [go_sem, CvH]
        first | exact ⟨CvB_row nr_TRegulateChannel (by first | rfl | (simp; done) | (simp; omega)) (fun _ _ _ _ => rfl), CvB_row nr_TRegulateBlock (by first | rfl | (simp; done) | (simp; omega)) (fun _ _ _ _ => rfl), CvB_row nr_i64 (by first | rfl | (simp; done) | (simp; omega)) (fun _ _ _ _ => rfl), CvB_row nr_TRegulateWord (by first | rfl | (simp; done) | (simp; omega)) (fun _ _ _ _ => rfl)⟩ | trivial
    replace H := cond_f hq3 H
    simp only [go_sem, hq3, cond_false]
    refine seqM ?_
    refine sq ctNo_ok ?_
    simp only [go_sem]
    refine condM' rfl trivial (fun hc => ?_) (fun hc => ?_)
    · replace H := cond_f hc H
      refine rg ctNo_ok ?_
      simp only [go_sem]
      refine seqM ?_
      refine seqM ?_
      cases H
    replace H := cond_t hc H
    refine sq ctNo_ok ?_
    simp only [go_sem, Nat.reduceLT, Nat.reduceAdd]
    refine rg ctNo_ok ?_
    simp only [go_sem, Nat.reduceLT, Nat.reduceAdd]
    obtain rfl := Option.some.inj H
    refine RetE_mk [] [none, none, none, none] ?_ ?_ ?_ ?_ (by rfl) (by rfl)
    · simp only [go_sem]
    · simp only [go_sem]
    · simp only [go_sem]
      exact Cv_tup (CvL_cons (by first | (simp [Cv, CvL]; done) | (simp [Cv, CvL, getM, gt_some]; omega)) (CvL_cons (by first | (simp [Cv]; done) | (simp [Cv, CvL, getM, gt_some]; omega)) (CvL_cons (by simp [Cv]) CvL_nil)))
    · simp only [go_sem, CvH]
      first | exact ⟨CvB_none, CvB_none, CvB_none, CvB_none⟩ | trivial
  · cases hb
/-! hotspot/hotspotref45.Find -/
noncomputable def F18_L1 (p0 : List TRegulateChannel) (p1 : Int) (v1_1 : Int) : Option (Lp (Int) ((Unit) ⊕ (TRegulateChannel × Bool))) :=
  bif (bLt v1_1 (p0.length : Nat)) then (need (inb v1_1 p0.length) <| bif (bEq ((gd p0 v1_1.toNat).Number) p1) then (need (inb v1_1 p0.length) <| some (.done (.inr ((gd p0 v1_1.toNat), true)))) else (some (.next (wr .i64 (v1_1 + 1))))) else (some (.done (.inl ())))
noncomputable def F18 (p0 : List TRegulateChannel) (p1 : Int) : Option (TRegulateChannel × Bool) :=
  lp (loopD (fun s => F18_L1 p0 p1 s) 0) (fun e => some ((TRegulateChannel.mk 0 0 false), false)) some
noncomputable def body18 : List AV -> AR
  | [v0, v1] => .pure (lK k_TRegulateChannel 3 v0 /\ iK .i64 v1 /\ (F18 (lA g_TRegulateChannel v0) (iA v1)).isSome = true) (.tup [.agg [.int .i64 (((gt (F18 (lA g_TRegulateChannel v0) (iA v1))).1).Number), .int .i64 (((gt (F18 (lA g_TRegulateChannel v0) (iA v1))).1).Max), .bool (((gt (F18 (lA g_TRegulateChannel v0) (iA v1))).1).Radar)], .bool ((gt (F18 (lA g_TRegulateChannel v0) (iA v1))).2)])
  | _ => .fail
set_option maxHeartbeats 4000000 in
set_option maxRecDepth 20000 in
theorem ok18 : FnOk Try.prog 18 (pureC body18) := by
  refine pure_fnM body18 (rs := [.cell 4 45, .tmp 5]) Try.func18 (by kernel_rfl) rfl rfl ?_
  intro l ob v hb hob
  unfold body18 at hb
  split at hb
  · rename_i v0 v1
    injection hb with q1 q2; subst q1 q2
    obtain ⟨hk0_0, hk1_0, hob⟩ := hob
    obtain ⟨r, H⟩ := Option.isSome_iff_exists.1 hob
    rw [H, gt_some]
    have hw0 := lK_wk (fun r h => w_TRegulateChannel h) hk0_0
    have hw1 := iK_wk hk1_0
    generalize lA g_TRegulateChannel v0 = p0 at H hw0
    generalize iA v1 = p1 at H hw1
    refine ⟨[.ro 3 p0.length false (enR c_TRegulateChannel p0), .int .i64 p1], _, (fun E vs F => FR_wk1 hw0.1 F (fun vs F => FR_wk1 hw1.1 F (fun vs F => F))), rfl, rfl, ?_⟩
    rw [Try.ntmps18]
    simp only [List.length_cons, List.length_nil, Nat.reduceAdd, Nat.reduceSub, List.replicate_succ, List.replicate_zero, List.cons_append, List.nil_append]
    unfold F18 at H
    refine sq ctNo_ok ?_
    simp only [go_sem]
    refine seqM ?_
    refine sq ctNo_ok ?_
    simp only [go_sem]
    refine blkM ?_
    refine loop_den (fun s : Int => (.ro 3 p0.length false (enR c_TRegulateChannel p0) :: .int .i64 p1 :: .top :: .top :: .ptr 0 0 0 0 :: .top :: .int .i64 s :: tp 18 [])) (fun s => [.lit 45 [.int .i64 0, .int .i64 0, .bool false]]) (fun e : Unit => (tp 4 (.ptr 0 0 0 0 :: tp 20 []))) (fun e => [.lit 45 [.int .i64 0, .int .i64 0, .bool false]]) H ?_ (fun v1_1 o H hn1_1 hn2_1 => ?_) (fun e H => ?_)
    · refine SubF_of ⟨[some 0], ?_, ?_, by rfl, by rfl⟩
      · simp [CvL, Cv, getM, tp]
      · exact ⟨(by simp [CvB, CvL, Cv, blkAt, geth]), trivial⟩
    · unfold F18_L1 at H
      try simp only [tp]
      refine seqM ?_
      refine sq ctNo_ok ?_
      simp only [go_sem]
      refine condM' rfl trivial (fun hc => ?_) (fun hc => ?_)
      · replace H := cond_f hc H
        refine rg ctNo_ok ?_
        simp only [go_sem]
        refine ⟨_, (Option.some.inj H).symm, ?_⟩
        refine SubF_of ⟨[some 0], ?_, ?_, by rfl, by rfl⟩
        · simp [CvL, Cv, getM]
        · exact ⟨(by simp [CvB, CvL, Cv, blkAt, geth]), trivial⟩
      replace H := cond_t hc H
      refine rg ctNo_ok ?_
      simp only [go_sem]
      refine seqM ?_
      refine blkM ?_
      refine seqM ?_
      obtain ⟨f1, H⟩ := need_some.1 H
      replace f1 := inb_iff.1 f1
      refine rg ctNo_ok ?_
      simp only [go_sem, Nat.reduceLeDiff, Nat.reduceLT, f1]
      refine condM' rfl trivial (fun hc => ?_) (fun hc => ?_)
      · replace H := cond_f hc H
        refine rg ctNo_ok ?_
        simp only [go_sem]
        refine rg ctNo_ok ?_
        simp only [go_sem]
        refine ⟨_, (Option.some.inj H).symm, ?_⟩
        refine SubF_of ⟨[some 0], ?_, ?_, by rfl, by rfl⟩
        · simp [CvL, Cv, getM]
        · exact ⟨(by simp [CvB, CvL, Cv, blkAt, geth]), trivial⟩
      replace H := cond_t hc H
      refine seqM ?_
      obtain ⟨f2, H⟩ := need_some.1 H
      replace f2 := inb_iff.1 f2
      refine rg ctNo_ok ?_
      simp only [go_sem, Nat.reduceLT, Nat.reduceAdd, f2]
      refine rg ctNo_ok ?_
      simp only [go_sem, Nat.reduceLT, Nat.reduceAdd]
      have H := hn2_1 _ (Option.some.inj H).symm
      obtain rfl := Option.some.inj H
      first | rfl | simp only [Bool.and_false, Bool.false_and, Bool.and_true, Bool.true_and]
    · try dsimp only at H ⊢
      try simp only [tp]
      try simp only [m_normal]
      refine sq ctNo_ok ?_
      simp only [go_sem, Nat.reduceAdd]
      refine rg ctNo_ok ?_
      simp only [go_sem, Nat.reduceLT, Nat.reduceAdd]
      obtain rfl := Option.some.inj H
      first | rfl | simp only [Bool.and_false, Bool.false_and, Bool.and_true, Bool.true_and]
  · cases hb
/-! hotspot/hotspotref45.Table -/
noncomputable def F62_L1 (p0 : List TRegulateChannel) (v1_1 : Int) : Option (Lp (Int) ((Unit) ⊕ (Bool))) :=
  bif (bLt v1_1 (p0.length : Nat)) then (need (inb v1_1 p0.length) <| need (bif (!(bLt ((gd p0 v1_1.toNat).Number) 1)) then inb v1_1 p0.length else true) <| need (bif (!((bLt ((gd p0 v1_1.toNat).Number) 1) || (bLt 255 ((gd p0 v1_1.toNat).Number)))) then inb v1_1 p0.length else true) <| need (bif (!(((bLt ((gd p0 v1_1.toNat).Number) 1) || (bLt 255 ((gd p0 v1_1.toNat).Number))) || (bLt ((gd p0 v1_1.toNat).Max) 0))) then inb v1_1 p0.length else true) <| need (bif ((!((((bLt ((gd p0 v1_1.toNat).Number) 1) || (bLt 255 ((gd p0 v1_1.toNat).Number))) || (bLt ((gd p0 v1_1.toNat).Max) 0)) || (bLt 400 ((gd p0 v1_1.toNat).Max)))) && (bLt 0 v1_1)) then inb v1_1 p0.length else true) <| need (bif ((!((((bLt ((gd p0 v1_1.toNat).Number) 1) || (bLt 255 ((gd p0 v1_1.toNat).Number))) || (bLt ((gd p0 v1_1.toNat).Max) 0)) || (bLt 400 ((gd p0 v1_1.toNat).Max)))) && (bLt 0 v1_1)) then inb (wr .i64 (v1_1 - 1)) p0.length else true) <| bif (((((bLt ((gd p0 v1_1.toNat).Number) 1) || (bLt 255 ((gd p0 v1_1.toNat).Number))) || (bLt ((gd p0 v1_1.toNat).Max) 0)) || (bLt 400 ((gd p0 v1_1.toNat).Max))) || ((bLt 0 v1_1) && (bLe ((gd p0 v1_1.toNat).Number) ((gd p0 ((wr .i64 (v1_1 - 1)).toNat)).Number)))) then (some (.done (.inr false))) else (some (.next (wr .i64 (v1_1 + 1))))) else (some (.done (.inl ())))
noncomputable def F62 (p0 : List TRegulateChannel) : Option (Bool) :=
  lp (loopD (fun s => F62_L1 p0 s) 0) (fun e => some ((bLe 2 (p0.length : Nat)) && (bLe (p0.length : Nat) 16))) some
noncomputable def body62 : List AV -> AR
  | [v0] => .pure (lK k_TRegulateChannel 3 v0 /\ (F62 (lA g_TRegulateChannel v0)).isSome = true) (.bool (gt (F62 (lA g_TRegulateChannel v0))))
  | _ => .fail
set_option maxHeartbeats 4000000 in
set_option maxRecDepth 20000 in
theorem ok62 : FnOk Try.prog 62 (pureC body62) := by
  refine pure_fnM body62 (rs := [.tmp 2]) Try.func62 (by kernel_rfl) rfl rfl ?_
  intro l ob v hb hob
  unfold body62 at hb
  split at hb
  · rename_i v0
    injection hb with q1 q2; subst q1 q2
    obtain ⟨hk0_0, hob⟩ := hob
    obtain ⟨r, H⟩ := Option.isSome_iff_exists.1 hob
    rw [H, gt_some]
    have hw0 := lK_wk (fun r h => w_TRegulateChannel h) hk0_0
    generalize lA g_TRegulateChannel v0 = p0 at H hw0
    refine ⟨[.ro 3 p0.length false (enR c_TRegulateChannel p0)], _, (fun E vs F => FR_wk1 hw0.1 F (fun vs F => F)), rfl, rfl, ?_⟩
    rw [Try.ntmps62]
    simp only [List.length_cons, List.length_nil, Nat.reduceAdd, Nat.reduceSub, List.replicate_succ, List.replicate_zero, List.cons_append, List.nil_append]
    unfold F62 at H
    refine sq ctNo_ok ?_
    simp only [go_sem]
    refine seqM ?_
    refine sq ctNo_ok ?_
    simp only [go_sem]
    refine blkM ?_
    refine loop_den (fun s : Int => (.ro 3 p0.length false (enR c_TRegulateChannel p0) :: .top :: .top :: .int .i64 s :: tp 62 [])) (fun s => []) (fun e : Unit => (.ro 3 p0.length false (enR c_TRegulateChannel p0) :: tp 65 [])) (fun e => []) H ?_ (fun v1_1 o H hn1_1 hn2_1 => ?_) (fun e H => ?_)
    · refine SubF_of ⟨[], ?_, ?_, by rfl, by rfl⟩
      · simp [CvL, Cv, tp]
      · trivial
    · unfold F62_L1 at H
      try simp only [tp]
      refine seqM ?_
      refine sq ctNo_ok ?_
      simp only [go_sem]
      refine condM' rfl trivial (fun hc => ?_) (fun hc => ?_)
      · replace H := cond_f hc H
        refine rg ctNo_ok ?_
        simp only [go_sem]
        refine ⟨_, (Option.some.inj H).symm, ?_⟩
        refine SubF_of ⟨[], ?_, ?_, by rfl, by rfl⟩
        · simp [CvL, Cv]
        · trivial
      replace H := cond_t hc H
      refine rg ctNo_ok ?_
      simp only [go_sem]
      refine seqM ?_
      refine blkM ?_
      refine seqM ?_
      obtain ⟨f1, H⟩ := need_some.1 H
      replace f1 := inb_iff.1 f1
      obtain ⟨f2, H⟩ := need_some.1 H
      replace f2 := g_iff.1 f2
      replace f2 := fun g => inb_iff.1 (f2 g)
      obtain ⟨f3, H⟩ := need_some.1 H
      replace f3 := g_iff.1 f3
      replace f3 := fun g => inb_iff.1 (f3 g)
      obtain ⟨f4, H⟩ := need_some.1 H
      replace f4 := g_iff.1 f4
      replace f4 := fun g => inb_iff.1 (f4 g)
      obtain ⟨f5, H⟩ := need_some.1 H
      replace f5 := g_iff.1 f5
      replace f5 := fun g => inb_iff.1 (f5 g)
      obtain ⟨f6, H⟩ := need_some.1 H
      replace f6 := g_iff.1 f6
      replace f6 := fun g => inb_iff.1 (f6 g)
      refine draw_quiet shT_ok ctNo_ok (by kernel_rfl) (by kernel_rfl) ?_
      simp only [go_sem, Nat.reduceLeDiff, Nat.reduceLT, Nat.reduceAdd, f1]
      repeat ((with_reducible refine And.intro ?_ ?_); focus (first | (with_reducible trivial) | omega | exact f2 | exact f3 | exact f4 | exact f5 | exact f6 | (intro g; have q := f2 (by first | exact g | (rw [g]; rfl) | simpa using g); first | exact q | exact ⟨q.1, q.2.1⟩ | exact q.2.2 | omega | exact ⟨g, q⟩ | exact ⟨trivial, q⟩ | exact ⟨g, q.1, q.2.1⟩ | exact ⟨g, q.2.2⟩) | (intro g; have q := f3 (by first | exact g | (rw [g]; rfl) | simpa using g); first | exact q | exact ⟨q.1, q.2.1⟩ | exact q.2.2 | omega | exact ⟨g, q⟩ | exact ⟨trivial, q⟩ | exact ⟨g, q.1, q.2.1⟩ | exact ⟨g, q.2.2⟩) | (intro g; have q := f4 (by first | exact g | (rw [g]; rfl) | simpa using g); first | exact q | exact ⟨q.1, q.2.1⟩ | exact q.2.2 | omega | exact ⟨g, q⟩ | exact ⟨trivial, q⟩ | exact ⟨g, q.1, q.2.1⟩ | exact ⟨g, q.2.2⟩) | (intro g; have q := f5 (by first | exact g | (rw [g]; rfl) | simpa using g); first | exact q | exact ⟨q.1, q.2.1⟩ | exact q.2.2 | omega | exact ⟨g, q⟩ | exact ⟨trivial, q⟩ | exact ⟨g, q.1, q.2.1⟩ | exact ⟨g, q.2.2⟩) | (intro g; have q := f6 (by first | exact g | (rw [g]; rfl) | simpa using g); first | exact q | exact ⟨q.1, q.2.1⟩ | exact q.2.2 | omega | exact ⟨g, q⟩ | exact ⟨trivial, q⟩ | exact ⟨g, q.1, q.2.1⟩ | exact ⟨g, q.2.2⟩) | grind))
      refine condM rfl trivial (fun hc => ?_) (fun hc => ?_)
      · replace H := cond_t hc H
        refine sq ctNo_ok ?_
        simp only [go_sem]
        refine rg ctNo_ok ?_
        simp only [go_sem]
        have H := hn2_1 _ (Option.some.inj H).symm
        obtain rfl := Option.some.inj H
        first | rfl | simp only [Bool.and_false, Bool.false_and, Bool.and_true, Bool.true_and]
      replace H := cond_f hc H
      refine rg ctNo_ok ?_
      simp only [go_sem]
      refine rg ctNo_ok ?_
      simp only [go_sem]
      refine ⟨_, (Option.some.inj H).symm, ?_⟩
      refine SubF_of ⟨[], ?_, ?_, by rfl, by rfl⟩
      · simp [CvL, Cv]
      · trivial
    · try dsimp only at H ⊢
      try simp only [tp]
      try simp only [m_normal]
      refine sq ctNo_ok ?_
      simp only [go_sem]
      refine rg ctNo_ok ?_
      simp only [go_sem]
      obtain rfl := Option.some.inj H
      first | rfl | simp only [Bool.and_false, Bool.false_and, Bool.and_true, Bool.true_and]
  · cases hb
/-! hotspot/hotspotref45.moment -/
noncomputable def F63 (p0 : Int) : Option (Bool) :=
  some ((bLe 0 p0) && (bLe p0 1099511627776))
noncomputable def body63 : List AV -> AR
  | [v0] => .pure (iK .i64 v0 /\ (F63 (iA v0)).isSome = true) (.bool (gt (F63 (iA v0))))
  | _ => .fail
set_option maxHeartbeats 4000000 in
set_option maxRecDepth 20000 in
theorem ok63 : FnOk Try.prog 63 (pureC body63) := by
  refine pure_fnM body63 (rs := [.tmp 2]) Try.func63 (by kernel_rfl) rfl rfl ?_
  intro l ob v hb hob
  unfold body63 at hb
  split at hb
  · rename_i v0
    injection hb with q1 q2; subst q1 q2
    obtain ⟨hk0_0, hob⟩ := hob
    obtain ⟨r, H⟩ := Option.isSome_iff_exists.1 hob
    rw [H, gt_some]
    have hw0 := iK_wk hk0_0
    generalize iA v0 = p0 at H hw0
    refine ⟨[.int .i64 p0], _, (fun E vs F => FR_wk1 hw0.1 F (fun vs F => F)), rfl, rfl, ?_⟩
    rw [Try.ntmps63]
    simp only [List.length_cons, List.length_nil, Nat.reduceAdd, Nat.reduceSub, List.replicate_succ, List.replicate_zero, List.cons_append, List.nil_append]
    unfold F63 at H
    refine sq ctNo_ok ?_
    simp only [go_sem]
    refine sq ctNo_ok ?_
    simp only [go_sem]
    refine rg ctNo_ok ?_
    simp only [go_sem]
    obtain rfl := Option.some.inj H
    first | rfl | simp only [Bool.and_false, Bool.false_and, Bool.and_true, Bool.true_and]
  · cases hb
/-! hotspot/hotspotref45.Until -/
noncomputable def F19_L1 (p0 : List TRegulateBlock) (p1 : Int) (v1_1 : Int) : Option (Lp (Int) ((Unit) ⊕ (Int × Bool))) :=
  bif (bLt v1_1 (p0.length : Nat)) then (need (inb v1_1 p0.length) <| bif (bEq ((gd p0 v1_1.toNat).Channel) p1) then (need (inb v1_1 p0.length) <| some (.done (.inr ((gd p0 v1_1.toNat).Until, true)))) else (some (.next (wr .i64 (v1_1 + 1))))) else (some (.done (.inl ())))
noncomputable def F19 (p0 : List TRegulateBlock) (p1 : Int) : Option (Int × Bool) :=
  lp (loopD (fun s => F19_L1 p0 p1 s) 0) (fun e => some (0, false)) some
noncomputable def body19 : List AV -> AR
  | [v0, v1] => .pure (lK k_TRegulateBlock 2 v0 /\ iK .i64 v1 /\ (F19 (lA g_TRegulateBlock v0) (iA v1)).isSome = true) (.tup [.int .i64 ((gt (F19 (lA g_TRegulateBlock v0) (iA v1))).1), .bool ((gt (F19 (lA g_TRegulateBlock v0) (iA v1))).2)])
  | _ => .fail
set_option maxHeartbeats 4000000 in
set_option maxRecDepth 20000 in
theorem ok19 : FnOk Try.prog 19 (pureC body19) := by
  refine pure_fnM body19 (rs := [.tmp 4, .tmp 5]) Try.func19 (by kernel_rfl) rfl rfl ?_
  intro l ob v hb hob
  unfold body19 at hb
  split at hb
  · rename_i v0 v1
    injection hb with q1 q2; subst q1 q2
    obtain ⟨hk0_0, hk1_0, hob⟩ := hob
    obtain ⟨r, H⟩ := Option.isSome_iff_exists.1 hob
    rw [H, gt_some]
    have hw0 := lK_wk (fun r h => w_TRegulateBlock h) hk0_0
    have hw1 := iK_wk hk1_0
    generalize lA g_TRegulateBlock v0 = p0 at H hw0
    generalize iA v1 = p1 at H hw1
    refine ⟨[.ro 2 p0.length false (enR c_TRegulateBlock p0), .int .i64 p1], _, (fun E vs F => FR_wk1 hw0.1 F (fun vs F => FR_wk1 hw1.1 F (fun vs F => F))), rfl, rfl, ?_⟩
    rw [Try.ntmps19]
    simp only [List.length_cons, List.length_nil, Nat.reduceAdd, Nat.reduceSub, List.replicate_succ, List.replicate_zero, List.cons_append, List.nil_append]
    unfold F19 at H
    refine sq ctNo_ok ?_
    simp only [go_sem]
    refine seqM ?_
    refine sq ctNo_ok ?_
    simp only [go_sem]
    refine blkM ?_
    refine loop_den (fun s : Int => (.ro 2 p0.length false (enR c_TRegulateBlock p0) :: .int .i64 p1 :: tp 4 (.int .i64 s :: tp 18 []))) (fun s => []) (fun e : Unit => (tp 25 [])) (fun e => []) H ?_ (fun v1_1 o H hn1_1 hn2_1 => ?_) (fun e H => ?_)
    · refine SubF_of ⟨[], ?_, ?_, by rfl, by rfl⟩
      · simp [CvL, Cv, tp]
      · trivial
    · unfold F19_L1 at H
      try simp only [tp]
      refine seqM ?_
      refine sq ctNo_ok ?_
      simp only [go_sem]
      refine condM' rfl trivial (fun hc => ?_) (fun hc => ?_)
      · replace H := cond_f hc H
        refine rg ctNo_ok ?_
        simp only [go_sem]
        refine ⟨_, (Option.some.inj H).symm, ?_⟩
        refine SubF_of ⟨[], ?_, ?_, by rfl, by rfl⟩
        · simp [CvL, Cv]
        · trivial
      replace H := cond_t hc H
      refine rg ctNo_ok ?_
      simp only [go_sem]
      refine seqM ?_
      refine blkM ?_
      refine seqM ?_
      obtain ⟨f1, H⟩ := need_some.1 H
      replace f1 := inb_iff.1 f1
      refine rg ctNo_ok ?_
      simp only [go_sem, Nat.reduceLeDiff, Nat.reduceLT, f1]
      refine condM' rfl trivial (fun hc => ?_) (fun hc => ?_)
      · replace H := cond_f hc H
        refine rg ctNo_ok ?_
        simp only [go_sem]
        refine rg ctNo_ok ?_
        simp only [go_sem]
        refine ⟨_, (Option.some.inj H).symm, ?_⟩
        refine SubF_of ⟨[], ?_, ?_, by rfl, by rfl⟩
        · simp [CvL, Cv]
        · trivial
      replace H := cond_t hc H
      refine seqM ?_
      obtain ⟨f2, H⟩ := need_some.1 H
      replace f2 := inb_iff.1 f2
      refine rg ctNo_ok ?_
      simp only [go_sem, Nat.reduceLT, Nat.reduceAdd, f2]
      refine rg ctNo_ok ?_
      simp only [go_sem]
      have H := hn2_1 _ (Option.some.inj H).symm
      obtain rfl := Option.some.inj H
      first | rfl | simp only [Bool.and_false, Bool.false_and, Bool.and_true, Bool.true_and]
    · try dsimp only at H ⊢
      try simp only [tp]
      try simp only [m_normal]
      refine sq ctNo_ok ?_
      simp only [go_sem]
      refine rg ctNo_ok ?_
      simp only [go_sem]
      obtain rfl := Option.some.inj H
      first | rfl | simp only [Bool.and_false, Bool.false_and, Bool.and_true, Bool.true_and]
  · cases hb
/-! hotspot/hotspotref45.Valid -/
noncomputable def ct34t0 : Ct := tab [(18, pureC body18)]
theorem ct34t0_ok : CtOk Try.prog ct34t0 := tab_cons ok18 <| tab_nil
theorem ct34t0_18 (l : List AV) (h : List ABlk) : ct34t0 18 l h = pureC body18 l h := rfl
noncomputable def ct34t1 : Ct := tab [(62, pureC body62), (63, pureC body63)]
theorem ct34t1_ok : CtOk Try.prog ct34t1 := tab_cons ok62 <| tab_cons ok63 <| tab_nil
theorem ct34t1_62 (l : List AV) (h : List ABlk) : ct34t1 62 l h = pureC body62 l h := rfl
theorem ct34t1_63 (l : List AV) (h : List ABlk) : ct34t1 63 l h = pureC body63 l h := rfl
noncomputable def ct34t2 : Ct := tab [(63, pureC body63)]
theorem ct34t2_ok : CtOk Try.prog ct34t2 := tab_cons ok63 <| tab_nil
theorem ct34t2_63 (l : List AV) (h : List ABlk) : ct34t2 63 l h = pureC body63 l h := rfl
noncomputable def ct34t3 : Ct := tab [(19, pureC body19)]
theorem ct34t3_ok : CtOk Try.prog ct34t3 := tab_cons ok19 <| tab_nil
theorem ct34t3_19 (l : List AV) (h : List ABlk) : ct34t3 19 l h = pureC body19 l h := rfl
noncomputable def F34_L1 (p0 : TRegulate) (v1_1 : Int) : Option (Lp (Int) ((Unit) ⊕ (Bool))) :=
  bif (bLt v1_1 (p0.Blocked.length : Nat)) then (need (inb v1_1 p0.Blocked.length) <| (F18 p0.Table ((gd p0.Blocked v1_1.toNat).Channel)).bind fun r10 => need (bif (!(!r10.2)) then inb v1_1 p0.Blocked.length else true) <| need (bif (!(!r10.2)) then ((F63 ((gd p0.Blocked v1_1.toNat).Until)).isSome) else true) <| need (bif ((!((!r10.2) || (!(gt (F63 ((gd p0.Blocked v1_1.toNat).Until)))))) && (bLt 0 v1_1)) then inb v1_1 p0.Blocked.length else true) <| need (bif ((!((!r10.2) || (!(gt (F63 ((gd p0.Blocked v1_1.toNat).Until)))))) && (bLt 0 v1_1)) then inb (wr .i64 (v1_1 - 1)) p0.Blocked.length else true) <| bif (((!r10.2) || (!(gt (F63 ((gd p0.Blocked v1_1.toNat).Until))))) || ((bLt 0 v1_1) && (bLe ((gd p0.Blocked v1_1.toNat).Channel) ((gd p0.Blocked ((wr .i64 (v1_1 - 1)).toNat)).Channel)))) then (some (.done (.inr false))) else (some (.next (wr .i64 (v1_1 + 1))))) else (some (.done (.inl ())))
noncomputable def F34_L2 (p0 : TRegulate) (v2_1 : Int) : Option (Lp (Int) ((Unit) ⊕ (Bool))) :=
  bif (bLt v2_1 (p0.Clear.length : Nat)) then (need (inb v2_1 p0.Clear.length) <| (F18 p0.Table (gd p0.Clear v2_1.toNat)).bind fun r17 => need (inb v2_1 p0.Clear.length) <| (F19 p0.Blocked (gd p0.Clear v2_1.toNat)).bind fun r20 => need (bif ((!(((!r17.2) || (!r17.1.Radar)) || r20.2)) && (bLt 0 v2_1)) then inb v2_1 p0.Clear.length else true) <| need (bif ((!(((!r17.2) || (!r17.1.Radar)) || r20.2)) && (bLt 0 v2_1)) then inb (wr .i64 (v2_1 - 1)) p0.Clear.length else true) <| bif ((((!r17.2) || (!r17.1.Radar)) || r20.2) || ((bLt 0 v2_1) && (bLe (gd p0.Clear v2_1.toNat) (gd p0.Clear ((wr .i64 (v2_1 - 1)).toNat))))) then (some (.done (.inr false))) else (some (.next (wr .i64 (v2_1 + 1))))) else (some (.done (.inl ())))
noncomputable def F34 (p0 : TRegulate) : Option (Bool) :=
  (F18 p0.Table p0.Channel).bind fun r1 => (F62 p0.Table).bind fun r3 => need (bif (!((!r3) || (!r1.2))) then ((F63 p0.Heard).isSome) else true) <| need (bif (!(((!r3) || (!r1.2)) || (!(gt (F63 p0.Heard))))) then ((F63 p0.At).isSome) else true) <| bif ((((((!r3) || (!r1.2)) || (!(gt (F63 p0.Heard)))) || (!(gt (F63 p0.At)))) || (p0.Lead && (!bEq p0.Heard 0))) || (p0.Moving && (!p0.Stopped))) then (some false) else ((F18 p0.Table p0.To).bind fun r7 => bif ((p0.Moving && (!r7.2)) || ((!p0.Moving) && ((!bEq p0.To 0) || (!bEq p0.At 0)))) then (some false) else (lp (loopD (fun s => F34_L1 p0 s) 0) (fun e => lp (loopD (fun s => F34_L2 p0 s) 0) (fun e => some true) some) some))
noncomputable def body34 : List AV -> AR
  | [v0] => .pure (aK 10 k_TRegulate v0 /\ (F34 (g_TRegulate (aL v0))).isSome = true) (.bool (gt (F34 (g_TRegulate (aL v0)))))
  | _ => .fail
set_option maxHeartbeats 4000000 in
set_option maxRecDepth 20000 in
theorem ok34 : FnOk Try.prog 34 (pureC body34) := by
  refine pure_fnM body34 (rs := [.tmp 2]) Try.func34 (by kernel_rfl) rfl rfl ?_
  intro l ob v hb hob
  unfold body34 at hb
  split at hb
  · rename_i v0
    injection hb with q1 q2; subst q1 q2
    obtain ⟨hk0_0, hob⟩ := hob
    obtain ⟨r, H⟩ := Option.isSome_iff_exists.1 hob
    rw [H, gt_some]
    have hw0 := wA_TRegulate hk0_0
    generalize g_TRegulate (aL v0) = p0 at H hw0
    refine ⟨[.agg [.ro 3 p0.Table.length false (enR c_TRegulateChannel p0.Table), .int .i64 p0.Channel, .bool p0.Lead, .int .i64 p0.Heard, .bool p0.Stopped, .bool p0.Moving, .int .i64 p0.To, .int .i64 p0.At, .ro 2 p0.Blocked.length false (enR c_TRegulateBlock p0.Blocked), .ro 1 p0.Clear.length false (enR c_i64 p0.Clear)]], _, (fun E vs F => FR_wk1 hw0.1 F (fun vs F => F)), rfl, rfl, ?_⟩
    rw [Try.ntmps34]
    simp only [List.length_cons, List.length_nil, Nat.reduceAdd, Nat.reduceSub, List.replicate_succ, List.replicate_zero, List.cons_append, List.nil_append]
    unfold F34 at H
    refine sq ctNo_ok ?_
    simp only [go_sem]
    refine seqM ?_
    obtain ⟨r1, e2, H⟩ := bsi H
    refine rg ct34t0_ok ?_
    simp only [go_sem, Nat.reduceLeDiff, Nat.reduceLT, Nat.reduceAdd, ct34t0_18, body18, e2]
    repeat ((with_reducible refine And.intro ?_ ?_); focus (first | (and_intros <;> first | (with_reducible trivial) | omega | assumption | exact nfc | first | exact rfl | exact trivial | exact fitI | exact .inr rfl | exact .inl rfl | exact fun x hx => absurd hx (by omega)) | grind))
    refine seqM ?_
    refine seqM ?_
    obtain ⟨r3, e4, H⟩ := bsi H
    obtain ⟨f5, H⟩ := need_some.1 H
    replace f5 := g_iff.1 f5
    obtain ⟨f6, H⟩ := need_some.1 H
    replace f6 := g_iff.1 f6
    refine rg ct34t1_ok ?_
    simp only [go_sem, Nat.reduceLeDiff, Nat.reduceLT, Nat.reduceAdd, ct34t1_62, body62, ct34t1_63, body63, e4]
    repeat ((with_reducible refine And.intro ?_ ?_); focus (first | (with_reducible trivial) | omega | exact f5 | exact f6 | (intro g; have q := f5 (by first | exact g | (rw [g]; rfl) | simpa using g); first | exact q | exact ⟨q.1, q.2.1⟩ | exact q.2.2 | omega | exact ⟨g, q⟩ | exact ⟨trivial, q⟩ | exact ⟨g, q.1, q.2.1⟩ | exact ⟨g, q.2.2⟩) | (intro g; have q := f6 (by first | exact g | (rw [g]; rfl) | simpa using g); first | exact q | exact ⟨q.1, q.2.1⟩ | exact q.2.2 | omega | exact ⟨g, q⟩ | exact ⟨trivial, q⟩ | exact ⟨g, q.1, q.2.1⟩ | exact ⟨g, q.2.2⟩) | (intro g; (try have q0 := f5 (by first | exact g | (rw [g]; rfl) | simpa using g)); (try have q1 := f6 (by first | exact g | (rw [g]; rfl) | simpa using g)); and_intros <;> first | (with_reducible trivial) | assumption | exact nfc | (intro g2; rw [g, g2]; rfl) | (intro g2; assumption) | (simp only [g, Bool.true_and, Bool.and_true, Bool.not_false, Bool.not_true]; assumption) | grind) | (and_intros <;> first | (with_reducible trivial) | omega | assumption | exact nfc | first | exact rfl | exact trivial | exact fitI | exact .inr rfl | exact .inl rfl | exact fun x hx => absurd hx (by omega)) | grind))
    refine condM rfl trivial (fun hc => ?_) (fun hc => ?_)
    · replace H := cond_t hc H
      refine sq ctNo_ok ?_
      simp only [go_sem]
      refine rg ctNo_ok ?_
      simp only [go_sem]
      obtain rfl := Option.some.inj H
      first | rfl | simp only [Bool.and_false, Bool.false_and, Bool.and_true, Bool.true_and]
    replace H := cond_f hc H
    refine rg ctNo_ok ?_
    simp only [go_sem]
    refine seqM ?_
    obtain ⟨r7, e8, H⟩ := bsi H
    refine rg ct34t0_ok ?_
    simp only [go_sem, Nat.reduceLeDiff, Nat.reduceLT, Nat.reduceAdd, ct34t0_18, body18, e8]
    refine seqM ?_
    refine sq ctNo_ok ?_
    simp only [go_sem, Nat.reduceLeDiff, Nat.reduceLT, Nat.reduceAdd]
    repeat ((with_reducible refine And.intro ?_ ?_); focus (first | (with_reducible trivial) | omega | grind))
    refine condM rfl trivial (fun hc => ?_) (fun hc => ?_)
    · replace H := cond_t hc H
      refine sq ctNo_ok ?_
      simp only [go_sem]
      refine rg ctNo_ok ?_
      simp only [go_sem]
      obtain rfl := Option.some.inj H
      first | rfl | simp only [Bool.and_false, Bool.false_and, Bool.and_true, Bool.true_and]
    replace H := cond_f hc H
    refine rg ctNo_ok ?_
    simp only [go_sem]
    refine seqM ?_
    refine sq ctNo_ok ?_
    simp only [go_sem]
    refine blkM ?_
    refine loop_den (fun s : Int => (.top :: .ptr 0 0 0 0 :: tp 5 (.int .i64 s :: tp 190 []))) (fun s => [.lit 39 [.ro 3 p0.Table.length false (enR c_TRegulateChannel p0.Table), .int .i64 p0.Channel, .bool p0.Lead, .int .i64 p0.Heard, .bool p0.Stopped, .bool p0.Moving, .int .i64 p0.To, .int .i64 p0.At, .ro 2 p0.Blocked.length false (enR c_TRegulateBlock p0.Blocked), .ro 1 p0.Clear.length false (enR c_i64 p0.Clear)], .dead, .dead]) (fun e : Unit => (.top :: .ptr 0 0 0 0 :: tp 196 [])) (fun e => [.lit 39 [.ro 3 p0.Table.length false (enR c_TRegulateChannel p0.Table), .int .i64 p0.Channel, .bool p0.Lead, .int .i64 p0.Heard, .bool p0.Stopped, .bool p0.Moving, .int .i64 p0.To, .int .i64 p0.At, .ro 2 p0.Blocked.length false (enR c_TRegulateBlock p0.Blocked), .ro 1 p0.Clear.length false (enR c_i64 p0.Clear)], .dead, .dead]) H ?_ (fun v1_1 o H hn1_1 hn2_1 => ?_) (fun e H => ?_)
    · refine SubF_of ⟨[some 0, some 1, some 2], ?_, ?_, by rfl, by rfl⟩
      · simp [CvL, Cv, getM, tp]
      · exact ⟨(by simp [CvB, CvL, Cv, blkAt, geth]), CvB_dead, CvB_dead, trivial⟩
    · unfold F34_L1 at H
      try dsimp only at H ⊢
      try simp only [tp]
      refine seqM ?_
      refine sq ctNo_ok ?_
      simp only [go_sem, Nat.reduceLeDiff, Nat.reduceLT, Nat.reduceAdd]
      refine condM' rfl trivial (fun hc => ?_) (fun hc => ?_)
      · replace H := cond_f hc H
        refine rg ctNo_ok ?_
        simp only [go_sem]
        refine ⟨_, (Option.some.inj H).symm, ?_⟩
        refine SubF_of ⟨[some 0, some 1, some 2], ?_, ?_, by rfl, by rfl⟩
        · simp [CvL, Cv, getM]
        · exact ⟨(by simp [CvB, CvL, Cv, blkAt, geth]), CvB_dead, CvB_dead, trivial⟩
      replace H := cond_t hc H
      refine rg ctNo_ok ?_
      simp only [go_sem]
      refine seqM ?_
      refine blkM ?_
      refine seqM ?_
      obtain ⟨f9, H⟩ := need_some.1 H
      replace f9 := inb_iff.1 f9
      obtain ⟨r10, e11, H⟩ := bsi H
      refine draw_rule shT_ok ct34t0_ok 1 (by kernel_rfl) (by kernel_rfl) ?_
      intro an han
      simp only [d_nil, d_cons, nxtD, xrD, xoD, roEq, minL, List.append_nil, refsOp, refs, refsL, mask, maskF, place, placeF, okLog, pairOk, hit, inL, slotsF, ren, rnN, nrH, nrB, nrL, nr, List.replicate_zero, List.replicate_succ, Nat.sub_self, Nat.add_zero, Nat.zero_add, Nat.reduceSub, Nat.lt_add_one, go_sem, Nat.reduceLeDiff, Nat.reduceLT, Nat.reduceAdd, Nat.reduceSub, Nat.reduceBEq, ct34t0_18, body18, f9, e11]
      repeat ((with_reducible refine And.intro ?_ ?_); focus (and_intros <;> first | (with_reducible trivial) | (show anB _ _ _ = true; subst han; kernel_rfl) | (show (anB _ _ _ && _) = true; subst han; kernel_rfl) | omega | assumption | exact nrc | exact nfc | first | exact rfl | exact trivial | exact fitI | exact .inr rfl | exact .inl rfl | exact fun x hx => absurd hx (by omega)))
      refine seqM ?_
      obtain ⟨f12, H⟩ := need_some.1 H
      replace f12 := g_iff.1 f12
      replace f12 := fun g => inb_iff.1 (f12 g)
      obtain ⟨f13, H⟩ := need_some.1 H
      replace f13 := g_iff.1 f13
      obtain ⟨f14, H⟩ := need_some.1 H
      replace f14 := g_iff.1 f14
      replace f14 := fun g => inb_iff.1 (f14 g)
      obtain ⟨f15, H⟩ := need_some.1 H
      replace f15 := g_iff.1 f15
      replace f15 := fun g => inb_iff.1 (f15 g)
      refine draw_quiet shT_ok ct34t2_ok (by kernel_rfl) (by kernel_rfl) ?_
      simp only [go_sem, Nat.reduceLeDiff, Nat.reduceLT, Nat.reduceAdd, ct34t2_63, body63]
      repeat ((with_reducible refine And.intro ?_ ?_); focus (first | (with_reducible trivial) | omega | exact f12 | exact f13 | exact f14 | exact f15 | (intro g; have q := f12 (by first | exact g | (rw [g]; rfl) | simpa using g); first | exact q | exact ⟨q.1, q.2.1⟩ | exact q.2.2 | omega | exact ⟨g, q⟩ | exact ⟨trivial, q⟩ | exact ⟨g, q.1, q.2.1⟩ | exact ⟨g, q.2.2⟩) | (intro g; have q := f13 (by first | exact g | (rw [g]; rfl) | simpa using g); first | exact q | exact ⟨q.1, q.2.1⟩ | exact q.2.2 | omega | exact ⟨g, q⟩ | exact ⟨trivial, q⟩ | exact ⟨g, q.1, q.2.1⟩ | exact ⟨g, q.2.2⟩) | (intro g; have q := f14 (by first | exact g | (rw [g]; rfl) | simpa using g); first | exact q | exact ⟨q.1, q.2.1⟩ | exact q.2.2 | omega | exact ⟨g, q⟩ | exact ⟨trivial, q⟩ | exact ⟨g, q.1, q.2.1⟩ | exact ⟨g, q.2.2⟩) | (intro g; have q := f15 (by first | exact g | (rw [g]; rfl) | simpa using g); first | exact q | exact ⟨q.1, q.2.1⟩ | exact q.2.2 | omega | exact ⟨g, q⟩ | exact ⟨trivial, q⟩ | exact ⟨g, q.1, q.2.1⟩ | exact ⟨g, q.2.2⟩) | (intro g; (try have q0 := f12 (by first | exact g | (rw [g]; rfl) | simpa using g)); (try have q1 := f13 (by first | exact g | (rw [g]; rfl) | simpa using g)); (try have q2 := f14 (by first | exact g | (rw [g]; rfl) | simpa using g)); (try have q3 := f15 (by first | exact g | (rw [g]; rfl) | simpa using g)); and_intros <;> first | (with_reducible trivial) | assumption | exact nfc | (intro g2; rw [g, g2]; rfl) | (intro g2; assumption) | (simp only [g, Bool.true_and, Bool.and_true, Bool.not_false, Bool.not_true]; assumption) | grind) | (and_intros <;> first | (with_reducible trivial) | omega | assumption | exact nfc | first | exact rfl | exact trivial | exact fitI | exact .inr rfl | exact .inl rfl | exact fun x hx => absurd hx (by omega)) | grind))
      refine condM rfl trivial (fun hc => ?_) (fun hc => ?_)
      · replace H := cond_t hc H
        refine sq ctNo_ok ?_
        simp only [go_sem]
        refine rg ctNo_ok ?_
        simp only [go_sem]
        have H := hn2_1 _ (Option.some.inj H).symm
        obtain rfl := Option.some.inj H
        first | rfl | simp only [Bool.and_false, Bool.false_and, Bool.and_true, Bool.true_and]
      replace H := cond_f hc H
      refine rg ctNo_ok ?_
      simp only [go_sem]
      refine rg ctNo_ok ?_
      simp only [go_sem]
      refine ⟨_, (Option.some.inj H).symm, ?_⟩
      refine SubF_of ⟨[some 0, some 1, some 2], ?_, ?_, by rfl, by rfl⟩
      · simp [CvL, Cv, getM]
      · exact ⟨(by simp [CvB, CvL, Cv, blkAt, geth]), CvB_dead, CvB_dead, trivial⟩
    · try dsimp only at H ⊢
      try simp only [tp]
      try simp only [m_normal]
      refine seqM ?_
      refine sq ctNo_ok ?_
      simp only [go_sem]
      refine blkM ?_
      refine loop_den (fun s : Int => (.top :: .ptr 0 0 0 0 :: tp 8 (.int .i64 s :: tp 187 []))) (fun s => [.lit 39 [.ro 3 p0.Table.length false (enR c_TRegulateChannel p0.Table), .int .i64 p0.Channel, .bool p0.Lead, .int .i64 p0.Heard, .bool p0.Stopped, .bool p0.Moving, .int .i64 p0.To, .int .i64 p0.At, .ro 2 p0.Blocked.length false (enR c_TRegulateBlock p0.Blocked), .ro 1 p0.Clear.length false (enR c_i64 p0.Clear)], .dead, .dead]) (fun e : Unit => (tp 198 [])) (fun e => [.dead, .dead, .dead]) H ?_ (fun v2_1 o H hn1_2 hn2_2 => ?_) (fun e H => ?_)
      · refine SubF_of ⟨[some 0, some 1, some 2], ?_, ?_, by rfl, by rfl⟩
        · simp [CvL, Cv, getM, tp]
        · exact ⟨(by simp [CvB, CvL, Cv, blkAt, geth]), CvB_dead, CvB_dead, trivial⟩
      · unfold F34_L2 at H
        try simp only [tp]
        refine seqM ?_
        refine sq ctNo_ok ?_
        simp only [go_sem, Nat.reduceLT, Nat.reduceAdd]
        repeat ((with_reducible refine And.intro ?_ ?_); focus (first | (and_intros <;> first | (with_reducible trivial) | omega | assumption | exact nfc | first | exact rfl | exact trivial | exact fitI | exact .inr rfl | exact .inl rfl | exact fun x hx => absurd hx (by omega)) | grind))
        refine condM' rfl trivial (fun hc => ?_) (fun hc => ?_)
        · replace H := cond_f hc H
          refine rg ctNo_ok ?_
          simp only [go_sem]
          refine ⟨_, (Option.some.inj H).symm, ?_⟩
          refine SubF_of ⟨[some 0, some 1, some 2], ?_, ?_, by rfl, by rfl⟩
          · simp [CvL, Cv]
          · exact ⟨CvB_dead, CvB_dead, CvB_dead, trivial⟩
        replace H := cond_t hc H
        refine rg ctNo_ok ?_
        simp only [go_sem]
        refine seqM ?_
        refine blkM ?_
        refine seqM ?_
        obtain ⟨f16, H⟩ := need_some.1 H
        replace f16 := inb_iff.1 f16
        obtain ⟨r17, e18, H⟩ := bsi H
        refine draw_rule shT_ok ct34t0_ok 1 (by kernel_rfl) (by kernel_rfl) ?_
        intro an han
        simp only [d_nil, d_cons, nxtD, xrD, xoD, roEq, minL, List.append_nil, refsOp, refs, refsL, mask, maskF, place, placeF, okLog, pairOk, hit, inL, slotsF, ren, rnN, nrH, nrB, nrL, nr, List.replicate_zero, List.replicate_succ, Nat.sub_self, Nat.add_zero, Nat.zero_add, Nat.reduceSub, Nat.lt_add_one, go_sem, Nat.reduceLeDiff, Nat.reduceLT, Nat.reduceAdd, Nat.reduceSub, Nat.reduceBEq, ct34t0_18, body18, f16, e18]
        repeat ((with_reducible refine And.intro ?_ ?_); focus (and_intros <;> first | (with_reducible trivial) | (show anB _ _ _ = true; subst han; kernel_rfl) | (show (anB _ _ _ && _) = true; subst han; kernel_rfl) | omega | assumption | exact nrc | exact nfc | first | exact rfl | exact trivial | exact fitI | exact .inr rfl | exact .inl rfl | exact fun x hx => absurd hx (by omega)))
        refine seqM ?_
        obtain ⟨f19, H⟩ := need_some.1 H
        replace f19 := inb_iff.1 f19
        obtain ⟨r20, e21, H⟩ := bsi H
        refine draw_quiet shT_ok ct34t3_ok (by kernel_rfl) (by kernel_rfl) ?_
        simp only [go_sem, Nat.reduceLeDiff, Nat.reduceLT, Nat.reduceAdd, ct34t3_19, body19, f19, e21]
        refine seqM ?_
        obtain ⟨f22, H⟩ := need_some.1 H
        replace f22 := g_iff.1 f22
        replace f22 := fun g => inb_iff.1 (f22 g)
        obtain ⟨f23, H⟩ := need_some.1 H
        replace f23 := g_iff.1 f23
        replace f23 := fun g => inb_iff.1 (f23 g)
        refine draw_quiet shT_ok ctNo_ok (by kernel_rfl) (by kernel_rfl) ?_
        simp only [go_sem, Nat.reduceLT, Nat.reduceAdd]
        repeat ((with_reducible refine And.intro ?_ ?_); focus (first | (with_reducible trivial) | omega | exact f22 | exact f23 | (intro g; have q := f22 (by first | exact g | (rw [g]; rfl) | simpa using g); first | exact q | exact ⟨q.1, q.2.1⟩ | exact q.2.2 | omega | exact ⟨g, q⟩ | exact ⟨trivial, q⟩ | exact ⟨g, q.1, q.2.1⟩ | exact ⟨g, q.2.2⟩) | (intro g; have q := f23 (by first | exact g | (rw [g]; rfl) | simpa using g); first | exact q | exact ⟨q.1, q.2.1⟩ | exact q.2.2 | omega | exact ⟨g, q⟩ | exact ⟨trivial, q⟩ | exact ⟨g, q.1, q.2.1⟩ | exact ⟨g, q.2.2⟩) | grind))
        refine condM rfl trivial (fun hc => ?_) (fun hc => ?_)
        · replace H := cond_t hc H
          refine sq ctNo_ok ?_
          simp only [go_sem]
          refine rg ctNo_ok ?_
          simp only [go_sem]
          have H := hn2_2 _ (Option.some.inj H).symm
          obtain rfl := Option.some.inj H
          first | rfl | simp only [Bool.and_false, Bool.false_and, Bool.and_true, Bool.true_and]
        replace H := cond_f hc H
        refine rg ctNo_ok ?_
        simp only [go_sem]
        refine rg ctNo_ok ?_
        simp only [go_sem]
        refine ⟨_, (Option.some.inj H).symm, ?_⟩
        refine SubF_of ⟨[some 0, some 1, some 2], ?_, ?_, by rfl, by rfl⟩
        · simp [CvL, Cv, getM]
        · exact ⟨(by simp [CvB, CvL, Cv, blkAt, geth]), CvB_dead, CvB_dead, trivial⟩
      · try dsimp only at H ⊢
        try simp only [tp]
        try simp only [m_normal]
        refine sq ctNo_ok ?_
        simp only [go_sem]
        refine rg ctNo_ok ?_
        simp only [go_sem]
        obtain rfl := Option.some.inj H
        first | rfl | simp only [Bool.and_false, Bool.false_and, Bool.and_true, Bool.true_and]
  · cases hb
/-! hotspot/hotspotref45.start -/
noncomputable def ct64t0 : Ct := tab [(34, pureC body34)]
theorem ct64t0_ok : CtOk Try.prog ct64t0 := tab_cons ok34 <| tab_nil
theorem ct64t0_34 (l : List AV) (h : List ABlk) : ct64t0 34 l h = pureC body34 l h := rfl
noncomputable def ct64t1 : Ct := tab [(63, pureC body63)]
theorem ct64t1_ok : CtOk Try.prog ct64t1 := tab_cons ok63 <| tab_nil
theorem ct64t1_63 (l : List AV) (h : List ABlk) : ct64t1 63 l h = pureC body63 l h := rfl
noncomputable def F64 (p0 : TRegulate) (p1 : Int) (p2 : Int) : Option (Int) :=
  (F34 p0).bind fun r1 => bif (!r1) then (some 8) else ((F63 p1).bind fun r3 => bif ((!r3) || (bLt p2 0)) then (some 2) else (some 0))
noncomputable def body64 : List AV -> AR
  | [v0, v1, v2] => .pure (aK 10 k_TRegulate v0 /\ iK .i64 v1 /\ iK .i64 v2 /\ (F64 (g_TRegulate (aL v0)) (iA v1) (iA v2)).isSome = true) (.int .i64 (gt (F64 (g_TRegulate (aL v0)) (iA v1) (iA v2))))
  | _ => .fail
set_option maxHeartbeats 4000000 in
set_option maxRecDepth 20000 in
theorem ok64 : FnOk Try.prog 64 (pureC body64) := by
  refine pure_fnM body64 (rs := [.tmp 6]) Try.func64 (by kernel_rfl) rfl rfl ?_
  intro l ob v hb hob
  unfold body64 at hb
  split at hb
  · rename_i v0 v1 v2
    injection hb with q1 q2; subst q1 q2
    obtain ⟨hk0_0, hk1_0, hk2_0, hob⟩ := hob
    obtain ⟨r, H⟩ := Option.isSome_iff_exists.1 hob
    rw [H, gt_some]
    have hw0 := wA_TRegulate hk0_0
    have hw1 := iK_wk hk1_0
    have hw2 := iK_wk hk2_0
    generalize g_TRegulate (aL v0) = p0 at H hw0
    generalize iA v1 = p1 at H hw1
    generalize iA v2 = p2 at H hw2
    refine ⟨[.agg [.ro 3 p0.Table.length false (enR c_TRegulateChannel p0.Table), .int .i64 p0.Channel, .bool p0.Lead, .int .i64 p0.Heard, .bool p0.Stopped, .bool p0.Moving, .int .i64 p0.To, .int .i64 p0.At, .ro 2 p0.Blocked.length false (enR c_TRegulateBlock p0.Blocked), .ro 1 p0.Clear.length false (enR c_i64 p0.Clear)], .int .i64 p1, .int .i64 p2], _, (fun E vs F => FR_wk1 hw0.1 F (fun vs F => FR_wk1 hw1.1 F (fun vs F => FR_wk1 hw2.1 F (fun vs F => F)))), rfl, rfl, ?_⟩
    rw [Try.ntmps64]
    simp only [List.length_cons, List.length_nil, Nat.reduceAdd, Nat.reduceSub, List.replicate_succ, List.replicate_zero, List.cons_append, List.nil_append]
    unfold F64 at H
    refine sq ctNo_ok ?_
    simp only [go_sem]
    refine seqM ?_
    refine seqM ?_
    obtain ⟨r1, e2, H⟩ := bsi H
    refine rg ct64t0_ok ?_
    simp only [go_sem, Nat.reduceLT, Nat.reduceAdd, ct64t0_34, body34, e2]
    refine condM rfl trivial (fun hc => ?_) (fun hc => ?_)
    · replace H := cond_t hc H
      refine sq ctNo_ok ?_
      simp only [go_sem]
      refine rg ctNo_ok ?_
      simp only [go_sem]
      obtain rfl := Option.some.inj H
      first | rfl | simp only [Bool.and_false, Bool.false_and, Bool.and_true, Bool.true_and]
    replace H := cond_f hc H
    refine rg ctNo_ok ?_
    simp only [go_sem]
    refine seqM ?_
    refine seqM ?_
    obtain ⟨r3, e4, H⟩ := bsi H
    refine rg ct64t1_ok ?_
    simp only [go_sem, ct64t1_63, body63, e4]
    refine condM rfl trivial (fun hc => ?_) (fun hc => ?_)
    · replace H := cond_t hc H
      refine sq ctNo_ok ?_
      simp only [go_sem]
      refine rg ctNo_ok ?_
      simp only [go_sem]
      obtain rfl := Option.some.inj H
      first | rfl | simp only [Bool.and_false, Bool.false_and, Bool.and_true, Bool.true_and]
    replace H := cond_f hc H
    refine rg ctNo_ok ?_
    simp only [go_sem]
    refine sq ctNo_ok ?_
    simp only [go_sem]
    refine rg ctNo_ok ?_
    simp only [go_sem]
    obtain rfl := Option.some.inj H
    first | rfl | simp only [Bool.and_false, Bool.false_and, Bool.and_true, Bool.true_and]
  · cases hb
/-! hotspot/hotspotref45.without -/
noncomputable def F110_L1 (p0 : List Int) (p1 : Int) (v1_1 : List Int) (v1_2 : Int) : Option (Lp ((List Int) × Int) ((List Int) ⊕ (List Int))) :=
  bif (bLt v1_2 (p0.length : Nat)) then (need (inb v1_2 p0.length) <| bif (!bEq (gd p0 v1_2.toNat) p1) then (need (inb v1_2 p0.length) <| need (capb 8 (v1_1.length + 1)) <| some (.next ((v1_1 ++ [(gd p0 v1_2.toNat)]), wr .i64 (v1_2 + 1)))) else (some (.next (v1_1, wr .i64 (v1_2 + 1))))) else (some (.done (.inl v1_1)))
noncomputable def F110 (p0 : List Int) (p1 : Int) : Option (List Int) :=
  lp (loopD (fun s => F110_L1 p0 p1 s.1 s.2) ([], 0)) (fun w1_3 => some w1_3) some
noncomputable def body110 : List AV -> List ABlk -> ED
  | [v0, v1], h => .ed [] (lK k_i64 1 (roD (deadL h []) v0) /\ roDOb (deadL h []) v0 /\ iK .i64 (roD (deadL h []) v1) /\ roDOb (deadL h []) v1 /\ (F110 (lA g_i64 (roD (deadL h []) v0)) (iA (roD (deadL h []) v1))).isSome = true) (.sl 0 1 0 ((gt (F110 (lA g_i64 (roD (deadL h []) v0)) (iA (roD (deadL h []) v1)))).length) false) [.row 3 1 ((gt (F110 (lA g_i64 (roD (deadL h []) v0)) (iA (roD (deadL h []) v1)))).length) (enR c_i64 (gt (F110 (lA g_i64 (roD (deadL h []) v0)) (iA (roD (deadL h []) v1)))))]
  | _, _ => .fail
set_option maxHeartbeats 4000000 in
set_option maxRecDepth 20000 in
theorem ok110 : FnOk Try.prog 110 (edC body110) := by
  refine edit_fnV body110 (rs := [.tmp 4]) Try.func110 (by kernel_rfl) rfl rfl ?_
  intro l h bs ob q0 g0 hb hob
  unfold body110 at hb
  split at hb
  · rename_i v0 v1
    injection hb with q1 q2 q3 q4; subst q1 q2 q3 q4
    obtain ⟨hk0_0, hk0_1, hk1_0, hk1_1, hob⟩ := hob
    obtain ⟨r, H⟩ := Option.isSome_iff_exists.1 hob
    rw [H, gt_some]
    have hw0 := lK_wk (fun r h => w_i64 h) hk0_0
    obtain ⟨p0, hp_p0⟩ : ∃ p0, p0 = lA g_i64 (roD (deadL h []) v0) := ⟨_, rfl⟩
    rw [← hp_p0] at H hw0
    have hw1 := iK_wk hk1_0
    obtain ⟨p1, hp_p1⟩ : ∃ p1, p1 = iA (roD (deadL h []) v1) := ⟨_, rfl⟩
    rw [← hp_p1] at H hw1
    refine ⟨[.ro 1 p0.length false (enR c_i64 p0), .int .i64 p1], [], rfl, ⟨(EW_view hk0_1 hw0), ⟨(EW_view hk1_1 hw1), trivial⟩⟩, trivial, trivial, ⟨(nfB_en nr_i64), trivial⟩, ⟨noroB_en, trivial⟩, (by first | (simp only [noro]; done) | (simp only [noro, noroL]; and_intros <;> first | trivial | exact noro_bif (by simp only [noro]) (by simp only [noro]) | (simp only [noro, noroL, and_self]))), ?_⟩
    rw [Try.ntmps110]
    simp only [List.length_cons, List.length_nil, Nat.reduceAdd, Nat.reduceSub, List.replicate_succ, List.replicate_zero, List.cons_append, List.nil_append]
    unfold F110 at H
    refine sq ctNo_ok ?_
    simp only [go_sem]
    refine sq ctNo_ok ?_
    simp only [go_sem]
    refine seqM ?_
    refine sq ctNo_ok ?_
    simp only [go_sem]
    refine blkM ?_
    refine loop_den (fun s : (List Int) × Int => (.ro 1 p0.length false (enR c_i64 p0) :: .int .i64 p1 :: .top :: .top :: .top :: .sl 0 1 0 s.1.length false :: .int .i64 s.2 :: tp 20 [])) (fun s => [.row 3 1 s.1.length (enR c_i64 s.1)]) (fun e : List Int => (tp 5 (.sl 0 1 0 e.length false :: tp 21 []))) (fun e => [.row 3 1 e.length (enR c_i64 e)]) H ?_ (fun s o H hn1_1 hn2_1 => ?_) (fun w1_3 H => ?_)
    · refine SubF_of ⟨[none], ?_, ?_, by rfl, by rfl⟩
      · simp [CvL, Cv, tp]
      · exact ⟨CvB_none, trivial⟩
    · obtain ⟨v1_1, v1_2⟩ := s
      unfold F110_L1 at H
      try simp only [tp]
      refine seqM ?_
      refine sq ctNo_ok ?_
      simp only [go_sem]
      refine condM' rfl trivial (fun hc => ?_) (fun hc => ?_)
      · replace H := cond_f hc H
        refine rg ctNo_ok ?_
        simp only [go_sem]
        refine ⟨_, (Option.some.inj H).symm, ?_⟩
        refine SubF_of ⟨[some 0], ?_, ?_, by rfl, by rfl⟩
        · simp [CvL, Cv, getM]
        · exact ⟨CvB_row nr_i64 (by first | rfl | (simp; done) | (simp; omega)) (fun _ _ _ _ => rfl), trivial⟩
      replace H := cond_t hc H
      refine rg ctNo_ok ?_
      simp only [go_sem]
      refine seqM ?_
      refine blkM ?_
      refine seqM ?_
      obtain ⟨f1, H⟩ := need_some.1 H
      replace f1 := inb_iff.1 f1
      refine rg ctNo_ok ?_
      simp only [go_sem, Nat.reduceLT, f1]
      refine condM' rfl trivial (fun hc => ?_) (fun hc => ?_)
      · replace H := cond_f hc H
        refine rg ctNo_ok ?_
        simp only [go_sem]
        refine rg ctNo_ok ?_
        simp only [go_sem]
        refine ⟨_, (Option.some.inj H).symm, ?_⟩
        refine SubF_of ⟨[some 0], ?_, ?_, by rfl, by rfl⟩
        · simp [CvL, Cv, getM]
        · exact ⟨CvB_row nr_i64 (by first | rfl | (simp; done) | (simp; omega)) (fun _ _ _ _ => rfl), trivial⟩
      replace H := cond_t hc H
      obtain ⟨f2, H⟩ := need_some.1 H
      replace f2 := inb_iff.1 f2
      obtain ⟨f3, H⟩ := need_some.1 H
      replace f3 := capb_iff.1 f3
      refine rg ctNo_ok ?_
      simp only [go_sem, Nat.reduceLeDiff, Nat.reduceLT, Nat.reduceAdd, Nat.reduceBEq, f2, f3]
      repeat ((with_reducible refine And.intro ?_ ?_); focus (first | (and_intros <;> first | (with_reducible trivial) | omega | assumption | exact nfc | first | exact rfl | exact trivial | exact fitI | exact .inr rfl | exact .inl rfl | exact fun x hx => absurd hx (by omega) | (intro x hx; (repeat (first | (and_intros <;> (first | exact rfl | exact trivial | exact fitI | exact .inr rfl | exact .inl rfl | exact fun x hx => absurd hx (by omega))) | (exfalso; omega) | (rcases x with _ | x))); done) | (refine Fit_app ?_ ?_ <;> first | exact fitI | (intro x hx; (repeat (first | (and_intros <;> (first | exact rfl | exact trivial | exact fitI | exact .inr rfl | exact .inl rfl | exact fun x hx => absurd hx (by omega))) | (exfalso; omega) | (rcases x with _ | x))); done) | (refine Fit_app ?_ ?_ <;> first | exact fitI | (intro x hx; (repeat (first | (and_intros <;> (first | exact rfl | exact trivial | exact fitI | exact .inr rfl | exact .inl rfl | exact fun x hx => absurd hx (by omega))) | (exfalso; omega) | (rcases x with _ | x))); done)))) | grind))
      refine rg ctNo_ok ?_
      simp only [go_sem]
      refine ⟨_, (Option.some.inj H).symm, ?_⟩
      refine SubF_of ⟨[some 2], ?_, ?_, by rfl, by rfl⟩
      · simp [CvL, Cv, getM]
      · exact ⟨CvB_row nr_i64 (by first | rfl | (simp; done) | (simp; omega)) (app_row (f := c_i64) v1_1 [(gd p0 v1_2.toNat)] (fun _ _ _ _ => rfl) (lit_row (f := c_i64) [(gd p0 v1_2.toNat)] (fun _ _ => rfl) rfl)), trivial⟩
    · try dsimp only at H ⊢
      try simp only [tp]
      try simp only [m_normal]
      refine sq ctNo_ok ?_
      simp only [go_sem]
      refine rg ctNo_ok ?_
      simp only [go_sem]
      obtain rfl := Option.some.inj H
      refine RetE_mk [] [some 0] ?_ ?_ ?_ ?_ (by rfl) (by rfl)
      · simp only [go_sem]
      · simp only [go_sem]
      · simp only [go_sem]
        exact (by first | (simp [Cv, getM]; done) | (simp [Cv, CvL, getM, gt_some]; omega))
      · simp only [go_sem, CvH]
        exact CvB_row nr_i64 (by first | rfl | (simp; done) | (simp; omega)) (fun _ _ _ _ => rfl)
  · cases hb
/-! hotspot/hotspotref45.block -/
noncomputable def F72_L1 (p0 : List TRegulateBlock) (p1 : Int) (p2 : Int) (v1_1 : List TRegulateBlock) (v1_2 : Bool) (v1_3 : Int) : Option (Lp ((List TRegulateBlock) × Bool × Int) (((List TRegulateBlock) × Bool) ⊕ (List TRegulateBlock))) :=
  bif (bLt v1_3 (p0.length : Nat)) then (need (bif (!v1_2) then inb v1_3 p0.length else true) <| bif ((!v1_2) && (bLe p1 ((gd p0 v1_3.toNat).Channel))) then (need (capb 16 (v1_1.length + 1)) <| need (inb v1_3 p0.length) <| bif (!bEq ((gd p0 v1_3.toNat).Channel) p1) then (need (inb v1_3 p0.length) <| need (capb 16 (v1_1.length + 1 + 1)) <| some (.next (((v1_1 ++ [(TRegulateBlock.mk p1 p2)]) ++ [(gd p0 v1_3.toNat)]), true, wr .i64 (v1_3 + 1)))) else (some (.next ((v1_1 ++ [(TRegulateBlock.mk p1 p2)]), true, wr .i64 (v1_3 + 1))))) else (need (inb v1_3 p0.length) <| bif (!bEq ((gd p0 v1_3.toNat).Channel) p1) then (need (inb v1_3 p0.length) <| need (capb 16 (v1_1.length + 1)) <| some (.next ((v1_1 ++ [(gd p0 v1_3.toNat)]), v1_2, wr .i64 (v1_3 + 1)))) else (some (.next (v1_1, v1_2, wr .i64 (v1_3 + 1)))))) else (some (.done (.inl (v1_1, v1_2))))
noncomputable def F72 (p0 : List TRegulateBlock) (p1 : Int) (p2 : Int) : Option (List TRegulateBlock) :=
  lp (loopD (fun s => F72_L1 p0 p1 p2 s.1 s.2.1 s.2.2) ([], (bLt p2 0), 0)) (fun e => bif (!e.2) then (need (capb 16 (e.1.length + 1)) <| some (e.1 ++ [(TRegulateBlock.mk p1 p2)])) else (some e.1)) some
noncomputable def body72 : List AV -> List ABlk -> ED
  | [v0, v1, v2], h => .ed [] (lK k_TRegulateBlock 2 (roD (deadL h []) v0) /\ roDOb (deadL h []) v0 /\ iK .i64 (roD (deadL h []) v1) /\ roDOb (deadL h []) v1 /\ iK .i64 (roD (deadL h []) v2) /\ roDOb (deadL h []) v2 /\ (F72 (lA g_TRegulateBlock (roD (deadL h []) v0)) (iA (roD (deadL h []) v1)) (iA (roD (deadL h []) v2))).isSome = true) (.sl 0 2 0 ((gt (F72 (lA g_TRegulateBlock (roD (deadL h []) v0)) (iA (roD (deadL h []) v1)) (iA (roD (deadL h []) v2)))).length) false) [.row 79 2 ((gt (F72 (lA g_TRegulateBlock (roD (deadL h []) v0)) (iA (roD (deadL h []) v1)) (iA (roD (deadL h []) v2)))).length) (enR c_TRegulateBlock (gt (F72 (lA g_TRegulateBlock (roD (deadL h []) v0)) (iA (roD (deadL h []) v1)) (iA (roD (deadL h []) v2)))))]
  | _, _ => .fail
set_option maxHeartbeats 4000000 in
set_option maxRecDepth 20000 in
theorem ok72 : FnOk Try.prog 72 (edC body72) := by
  refine edit_fnV body72 (rs := [.tmp 6]) Try.func72 (by kernel_rfl) rfl rfl ?_
  intro l h bs ob q0 g0 hb hob
  unfold body72 at hb
  split at hb
  · rename_i v0 v1 v2
    injection hb with q1 q2 q3 q4; subst q1 q2 q3 q4
    obtain ⟨hk0_0, hk0_1, hk1_0, hk1_1, hk2_0, hk2_1, hob⟩ := hob
    obtain ⟨r, H⟩ := Option.isSome_iff_exists.1 hob
    rw [H, gt_some]
    have hw0 := lK_wk (fun r h => w_TRegulateBlock h) hk0_0
    obtain ⟨p0, hp_p0⟩ : ∃ p0, p0 = lA g_TRegulateBlock (roD (deadL h []) v0) := ⟨_, rfl⟩
    rw [← hp_p0] at H hw0
    have hw1 := iK_wk hk1_0
    obtain ⟨p1, hp_p1⟩ : ∃ p1, p1 = iA (roD (deadL h []) v1) := ⟨_, rfl⟩
    rw [← hp_p1] at H hw1
    have hw2 := iK_wk hk2_0
    obtain ⟨p2, hp_p2⟩ : ∃ p2, p2 = iA (roD (deadL h []) v2) := ⟨_, rfl⟩
    rw [← hp_p2] at H hw2
    refine ⟨[.ro 2 p0.length false (enR c_TRegulateBlock p0), .int .i64 p1, .int .i64 p2], [], rfl, ⟨(EW_view hk0_1 hw0), ⟨(EW_view hk1_1 hw1), ⟨(EW_view hk2_1 hw2), trivial⟩⟩⟩, trivial, trivial, ⟨(nfB_en nr_TRegulateBlock), trivial⟩, ⟨noroB_en, trivial⟩, (by first | (simp only [noro]; done) | (simp only [noro, noroL]; and_intros <;> first | trivial | exact noro_bif (by simp only [noro]) (by simp only [noro]) | (simp only [noro, noroL, and_self]))), ?_⟩
    rw [Try.ntmps72]
    simp only [List.length_cons, List.length_nil, Nat.reduceAdd, Nat.reduceSub, List.replicate_succ, List.replicate_zero, List.cons_append, List.nil_append]
    unfold F72 at H
    try dsimp only at H
    refine sq ctNo_ok ?_
    simp only [go_sem]
    refine sq ctNo_ok ?_
    simp only [go_sem]
    refine sq ctNo_ok ?_
    simp only [go_sem]
    refine seqM ?_
    refine sq ctNo_ok ?_
    simp only [go_sem]
    refine blkM ?_
    refine loop_den (fun s : (List TRegulateBlock) × Bool × Int => (.ro 2 p0.length false (enR c_TRegulateBlock p0) :: .int .i64 p1 :: .int .i64 p2 :: tp 4 (.sl 0 2 0 s.1.length false :: .bool s.2.1 :: .int .i64 s.2.2 :: tp 48 []))) (fun s => [.row 79 2 s.1.length (enR c_TRegulateBlock s.1)]) (fun e : (List TRegulateBlock) × Bool => (.top :: .int .i64 p1 :: .int .i64 p2 :: tp 4 (.sl 0 2 0 e.1.length false :: .bool e.2 :: tp 49 []))) (fun e => [.row 79 2 e.1.length (enR c_TRegulateBlock e.1)]) H ?_ (fun s o H hn1_1 hn2_1 => ?_) (fun e H => ?_)
    · refine SubF_of ⟨[none], ?_, ?_, by rfl, by rfl⟩
      · simp [CvL, Cv, tp]
      · exact ⟨CvB_none, trivial⟩
    · obtain ⟨v1_1, v1_2, v1_3⟩ := s
      unfold F72_L1 at H
      try simp only [tp]
      refine seqM ?_
      refine sq ctNo_ok ?_
      simp only [go_sem]
      refine condM' rfl trivial (fun hc => ?_) (fun hc => ?_)
      · replace H := cond_f hc H
        refine rg ctNo_ok ?_
        simp only [go_sem]
        refine ⟨_, (Option.some.inj H).symm, ?_⟩
        refine SubF_of ⟨[some 0], ?_, ?_, by rfl, by rfl⟩
        · simp [CvL, Cv, getM]
        · exact ⟨CvB_row nr_TRegulateBlock (by first | rfl | (simp; done) | (simp; omega)) (fun _ _ _ _ => rfl), trivial⟩
      replace H := cond_t hc H
      refine rg ctNo_ok ?_
      simp only [go_sem]
      refine seqM ?_
      refine blkM ?_
      refine seqM ?_
      refine seqM ?_
      obtain ⟨f1, H⟩ := need_some.1 H
      replace f1 := g_iff.1 f1
      replace f1 := fun g => inb_iff.1 (f1 g)
      refine rg ctNo_ok ?_
      simp only [go_sem, Nat.reduceLeDiff, Nat.reduceLT]
      repeat ((with_reducible refine And.intro ?_ ?_); focus (first | (with_reducible trivial) | omega | exact f1 | (intro g; have q := f1 (by first | exact g | (rw [g]; rfl) | simpa using g); first | exact q | exact ⟨q.1, q.2.1⟩ | exact q.2.2 | omega | exact ⟨g, q⟩ | exact ⟨trivial, q⟩ | exact ⟨g, q.1, q.2.1⟩ | exact ⟨g, q.2.2⟩) | grind))
      refine condM' rfl trivial (fun hc => ?_) (fun hc => ?_)
      · replace H := cond_f hc H
        refine rg ctNo_ok ?_
        simp only [go_sem]
        refine seqM ?_
        obtain ⟨f6, H⟩ := need_some.1 H
        replace f6 := inb_iff.1 f6
        refine rg ctNo_ok ?_
        simp only [go_sem, Nat.reduceLeDiff, Nat.reduceLT, f6]
        refine condM' rfl trivial (fun hc => ?_) (fun hc => ?_)
        · replace H := cond_f hc H
          refine rg ctNo_ok ?_
          simp only [go_sem]
          refine rg ctNo_ok ?_
          simp only [go_sem]
          refine ⟨_, (Option.some.inj H).symm, ?_⟩
          refine SubF_of ⟨[some 0], ?_, ?_, by rfl, by rfl⟩
          · simp [CvL, Cv, getM]
          · exact ⟨CvB_row nr_TRegulateBlock (by first | rfl | (simp; done) | (simp; omega)) (fun _ _ _ _ => rfl), trivial⟩
        replace H := cond_t hc H
        obtain ⟨f7, H⟩ := need_some.1 H
        replace f7 := inb_iff.1 f7
        obtain ⟨f8, H⟩ := need_some.1 H
        replace f8 := capb_iff.1 f8
        refine rg ctNo_ok ?_
        simp only [go_sem, Nat.reduceLeDiff, Nat.reduceLT, Nat.reduceAdd, Nat.reduceBEq, f7, f8]
        repeat ((with_reducible refine And.intro ?_ ?_); focus (first | (and_intros <;> first | (with_reducible trivial) | omega | assumption | exact nfc | first | exact rfl | exact trivial | exact fitI | exact .inr rfl | exact .inl rfl | exact fun x hx => absurd hx (by omega) | (intro x hx; (repeat (first | (and_intros <;> (first | exact rfl | exact trivial | exact fitI | exact .inr rfl | exact .inl rfl | exact fun x hx => absurd hx (by omega))) | (exfalso; omega) | (rcases x with _ | x))); done) | (refine Fit_app ?_ ?_ <;> first | exact fitI | (intro x hx; (repeat (first | (and_intros <;> (first | exact rfl | exact trivial | exact fitI | exact .inr rfl | exact .inl rfl | exact fun x hx => absurd hx (by omega))) | (exfalso; omega) | (rcases x with _ | x))); done) | (refine Fit_app ?_ ?_ <;> first | exact fitI | (intro x hx; (repeat (first | (and_intros <;> (first | exact rfl | exact trivial | exact fitI | exact .inr rfl | exact .inl rfl | exact fun x hx => absurd hx (by omega))) | (exfalso; omega) | (rcases x with _ | x))); done)))) | grind))
        refine rg ctNo_ok ?_
        simp only [go_sem]
        refine ⟨_, (Option.some.inj H).symm, ?_⟩
        refine SubF_of ⟨[some 2], ?_, ?_, by rfl, by rfl⟩
        · simp [CvL, Cv, getM]
        · exact ⟨CvB_row nr_TRegulateBlock (by first | rfl | (simp; done) | (simp; omega)) (app_row (f := c_TRegulateBlock) v1_1 [(gd p0 v1_3.toNat)] (fun _ _ _ _ => rfl) (lit_row (f := c_TRegulateBlock) [(gd p0 v1_3.toNat)] (fun _ _ => rfl) rfl)), trivial⟩
      replace H := cond_t hc H
      refine seqM ?_
      obtain ⟨f2, H⟩ := need_some.1 H
      replace f2 := capb_iff.1 f2
      refine rg ctNo_ok ?_
      simp only [go_sem, Nat.reduceLeDiff, Nat.reduceAdd, Nat.reduceBEq, f2]
      repeat ((with_reducible refine And.intro ?_ ?_); focus (first | (and_intros <;> first | (with_reducible trivial) | omega | assumption | exact nfc | first | exact rfl | exact trivial | exact fitI | exact .inr rfl | exact .inl rfl | exact fun x hx => absurd hx (by omega) | (intro x hx; (repeat (first | (and_intros <;> (first | exact rfl | exact trivial | exact fitI | exact .inr rfl | exact .inl rfl | exact fun x hx => absurd hx (by omega))) | (exfalso; omega) | (rcases x with _ | x))); done) | (refine Fit_app ?_ ?_ <;> first | exact fitI | (intro x hx; (repeat (first | (and_intros <;> (first | exact rfl | exact trivial | exact fitI | exact .inr rfl | exact .inl rfl | exact fun x hx => absurd hx (by omega))) | (exfalso; omega) | (rcases x with _ | x))); done) | (refine Fit_app ?_ ?_ <;> first | exact fitI | (intro x hx; (repeat (first | (and_intros <;> (first | exact rfl | exact trivial | exact fitI | exact .inr rfl | exact .inl rfl | exact fun x hx => absurd hx (by omega))) | (exfalso; omega) | (rcases x with _ | x))); done)))) | grind))
      refine rg ctNo_ok ?_
      simp only [go_sem]
      refine seqM ?_
      obtain ⟨f3, H⟩ := need_some.1 H
      replace f3 := inb_iff.1 f3
      refine rg ctNo_ok ?_
      simp only [go_sem, Nat.reduceLeDiff, Nat.reduceLT, f3]
      refine condM' rfl trivial (fun hc => ?_) (fun hc => ?_)
      · replace H := cond_f hc H
        refine rg ctNo_ok ?_
        simp only [go_sem]
        refine rg ctNo_ok ?_
        simp only [go_sem]
        refine ⟨_, (Option.some.inj H).symm, ?_⟩
        refine SubF_of ⟨[some 2], ?_, ?_, by rfl, by rfl⟩
        · simp [CvL, Cv, getM]
        · exact ⟨CvB_row nr_TRegulateBlock (by first | rfl | (simp; done) | (simp; omega)) (app_row (f := c_TRegulateBlock) v1_1 [(TRegulateBlock.mk p1 p2)] (fun _ _ _ _ => rfl) (lit_row (f := c_TRegulateBlock) [(TRegulateBlock.mk p1 p2)] (fun _ _ => rfl) rfl)), trivial⟩
      replace H := cond_t hc H
      obtain ⟨f4, H⟩ := need_some.1 H
      replace f4 := inb_iff.1 f4
      obtain ⟨f5, H⟩ := need_some.1 H
      replace f5 := capb_iff.1 f5
      refine rg ctNo_ok ?_
      simp only [go_sem, Nat.reduceLeDiff, Nat.reduceLT, Nat.reduceAdd, Nat.reduceBEq, f4, f5]
      repeat ((with_reducible refine And.intro ?_ ?_); focus (first | (and_intros <;> first | (with_reducible trivial) | omega | assumption | exact nfc | first | exact rfl | exact trivial | exact fitI | exact .inr rfl | exact .inl rfl | exact fun x hx => absurd hx (by omega) | (intro x hx; (repeat (first | (and_intros <;> (first | exact rfl | exact trivial | exact fitI | exact .inr rfl | exact .inl rfl | exact fun x hx => absurd hx (by omega))) | (exfalso; omega) | (rcases x with _ | x))); done) | (refine Fit_app ?_ ?_ <;> first | exact fitI | (intro x hx; (repeat (first | (and_intros <;> (first | exact rfl | exact trivial | exact fitI | exact .inr rfl | exact .inl rfl | exact fun x hx => absurd hx (by omega))) | (exfalso; omega) | (rcases x with _ | x))); done) | (refine Fit_app ?_ ?_ <;> first | exact fitI | (intro x hx; (repeat (first | (and_intros <;> (first | exact rfl | exact trivial | exact fitI | exact .inr rfl | exact .inl rfl | exact fun x hx => absurd hx (by omega))) | (exfalso; omega) | (rcases x with _ | x))); done)))) | grind))
      refine rg ctNo_ok ?_
      simp only [go_sem]
      refine ⟨_, (Option.some.inj H).symm, ?_⟩
      refine SubF_of ⟨[some 4], ?_, ?_, by rfl, by rfl⟩
      · simp [CvL, Cv, getM]
      · exact ⟨CvB_row nr_TRegulateBlock (by first | rfl | (simp; done) | (simp; omega)) (app_row2 (show (v1_1 ++ [(TRegulateBlock.mk p1 p2)]).length = v1_1.length + 1 from by simp) (f := c_TRegulateBlock) (v1_1 ++ [(TRegulateBlock.mk p1 p2)]) [(gd p0 v1_3.toNat)] (app_row (f := c_TRegulateBlock) v1_1 [(TRegulateBlock.mk p1 p2)] (fun _ _ _ _ => rfl) (lit_row (f := c_TRegulateBlock) [(TRegulateBlock.mk p1 p2)] (fun _ _ => rfl) rfl)) (lit_row (f := c_TRegulateBlock) [(gd p0 v1_3.toNat)] (fun _ _ => rfl) rfl)), trivial⟩
    · obtain ⟨w1_4, w1_5⟩ := e
      try simp only [tp]
      try simp only [m_normal]
      refine seqM ?_
      refine sq ctNo_ok ?_
      simp only [go_sem]
      refine condM' rfl trivial (fun hc => ?_) (fun hc => ?_)
      · replace H := cond_f hc H
        refine rg ctNo_ok ?_
        simp only [go_sem]
        refine sq ctNo_ok ?_
        simp only [go_sem]
        refine rg ctNo_ok ?_
        simp only [go_sem]
        obtain rfl := Option.some.inj H
        refine RetE_mk [] [some 0] ?_ ?_ ?_ ?_ (by rfl) (by rfl)
        · simp only [go_sem]
        · simp only [go_sem]
          try (and_intros <;> first | (with_reducible trivial) | omega | exact nfc | trivial)
        · simp only [go_sem]
          exact (by first | (simp [Cv, getM]; done) | (simp [Cv, CvL, getM, gt_some]; omega))
        · simp only [go_sem, CvH]
          exact CvB_row nr_TRegulateBlock (by first | rfl | (simp; done) | (simp; omega)) (fun _ _ _ _ => rfl)
      replace H := cond_t hc H
      obtain ⟨f9, H⟩ := need_some.1 H
      replace f9 := capb_iff.1 f9
      refine rg ctNo_ok ?_
      simp only [go_sem, Nat.reduceLeDiff, Nat.reduceAdd, Nat.reduceBEq, f9]
      repeat ((with_reducible refine And.intro ?_ ?_); focus (first | (and_intros <;> first | (with_reducible trivial) | omega | assumption | exact nfc | first | exact rfl | exact trivial | exact fitI | exact .inr rfl | exact .inl rfl | exact fun x hx => absurd hx (by omega) | (intro x hx; (repeat (first | (and_intros <;> (first | exact rfl | exact trivial | exact fitI | exact .inr rfl | exact .inl rfl | exact fun x hx => absurd hx (by omega))) | (exfalso; omega) | (rcases x with _ | x))); done) | (refine Fit_app ?_ ?_ <;> first | exact fitI | (intro x hx; (repeat (first | (and_intros <;> (first | exact rfl | exact trivial | exact fitI | exact .inr rfl | exact .inl rfl | exact fun x hx => absurd hx (by omega))) | (exfalso; omega) | (rcases x with _ | x))); done) | (refine Fit_app ?_ ?_ <;> first | exact fitI | (intro x hx; (repeat (first | (and_intros <;> (first | exact rfl | exact trivial | exact fitI | exact .inr rfl | exact .inl rfl | exact fun x hx => absurd hx (by omega))) | (exfalso; omega) | (rcases x with _ | x))); done)))) | grind))
      refine sq ctNo_ok ?_
      simp only [go_sem]
      refine rg ctNo_ok ?_
      simp only [go_sem]
      obtain rfl := Option.some.inj H
      refine RetE_mk [] [some 2] ?_ ?_ ?_ ?_ (by rfl) (by rfl)
      · simp only [go_sem]
      · simp only [go_sem]
        try (and_intros <;> first | (with_reducible trivial) | omega | exact nfc | trivial)
      · simp only [go_sem]
        exact (by first | (simp [Cv, getM]; done) | (simp [Cv, CvL, getM, gt_some]; omega))
      · simp only [go_sem, CvH]
        exact CvB_row nr_TRegulateBlock (by first | rfl | (simp; done) | (simp; omega)) (app_row (f := c_TRegulateBlock) w1_4 [(TRegulateBlock.mk p1 p2)] (fun _ _ _ _ => rfl) (lit_row (f := c_TRegulateBlock) [(TRegulateBlock.mk p1 p2)] (fun _ _ => rfl) rfl))
  · cases hb
/-! hotspot/hotspotref45.stopped -/
noncomputable def ct80t0 : Ct := tab [(24, edC body24)]
theorem ct80t0_ok : CtOk Try.prog ct80t0 := tab_cons ok24 <| tab_nil
theorem ct80t0_24 (l : List AV) (h : List ABlk) : ct80t0 24 l h = edC body24 l h := rfl
noncomputable def ct80t1 : Ct := tab [(110, edC body110)]
theorem ct80t1_ok : CtOk Try.prog ct80t1 := tab_cons ok110 <| tab_nil
theorem ct80t1_110 (l : List AV) (h : List ABlk) : ct80t1 110 l h = edC body110 l h := rfl
noncomputable def ct80t2 : Ct := tab [(72, edC body72)]
theorem ct80t2_ok : CtOk Try.prog ct80t2 := tab_cons ok72 <| tab_nil
theorem ct80t2_72 (l : List AV) (h : List ABlk) : ct80t2 72 l h = edC body72 l h := rfl
noncomputable def F80 (p0 : TRegulate) (p1 : Int) : Option (TRegulate) :=
  (F24 p0).bind fun r1 => (F110 p0.Clear p0.Channel).bind fun r3 => (F72 p0.Blocked p0.Channel (minI (wr .i64 (p1 + 1800000000)) 1099511627776)).bind fun r5 => some (TRegulate.mk r1.Table r1.Channel r1.Lead r1.Heard true r1.Moving r1.To r1.At r5 r3)
noncomputable def body80 : List AV -> List ABlk -> ED
  | [v0, v1], h => .ed [] (aK 10 k_TRegulate (roD (deadL h []) v0) /\ roDOb (deadL h []) v0 /\ iK .i64 (roD (deadL h []) v1) /\ roDOb (deadL h []) v1 /\ (F80 (g_TRegulate (aL (roD (deadL h []) v0))) (iA (roD (deadL h []) v1))).isSome = true) (.agg [.sl 0 3 0 (((gt (F80 (g_TRegulate (aL (roD (deadL h []) v0))) (iA (roD (deadL h []) v1)))).Table).length) false, .int .i64 ((gt (F80 (g_TRegulate (aL (roD (deadL h []) v0))) (iA (roD (deadL h []) v1)))).Channel), .bool ((gt (F80 (g_TRegulate (aL (roD (deadL h []) v0))) (iA (roD (deadL h []) v1)))).Lead), .int .i64 ((gt (F80 (g_TRegulate (aL (roD (deadL h []) v0))) (iA (roD (deadL h []) v1)))).Heard), .bool ((gt (F80 (g_TRegulate (aL (roD (deadL h []) v0))) (iA (roD (deadL h []) v1)))).Stopped), .bool ((gt (F80 (g_TRegulate (aL (roD (deadL h []) v0))) (iA (roD (deadL h []) v1)))).Moving), .int .i64 ((gt (F80 (g_TRegulate (aL (roD (deadL h []) v0))) (iA (roD (deadL h []) v1)))).To), .int .i64 ((gt (F80 (g_TRegulate (aL (roD (deadL h []) v0))) (iA (roD (deadL h []) v1)))).At), .sl 1 2 0 (((gt (F80 (g_TRegulate (aL (roD (deadL h []) v0))) (iA (roD (deadL h []) v1)))).Blocked).length) false, .sl 2 1 0 (((gt (F80 (g_TRegulate (aL (roD (deadL h []) v0))) (iA (roD (deadL h []) v1)))).Clear).length) false]) [.row 45 3 (((gt (F80 (g_TRegulate (aL (roD (deadL h []) v0))) (iA (roD (deadL h []) v1)))).Table).length) (enR c_TRegulateChannel ((gt (F80 (g_TRegulate (aL (roD (deadL h []) v0))) (iA (roD (deadL h []) v1)))).Table)), .row 79 2 (((gt (F80 (g_TRegulate (aL (roD (deadL h []) v0))) (iA (roD (deadL h []) v1)))).Blocked).length) (enR c_TRegulateBlock ((gt (F80 (g_TRegulate (aL (roD (deadL h []) v0))) (iA (roD (deadL h []) v1)))).Blocked)), .row 3 1 (((gt (F80 (g_TRegulate (aL (roD (deadL h []) v0))) (iA (roD (deadL h []) v1)))).Clear).length) (enR c_i64 ((gt (F80 (g_TRegulate (aL (roD (deadL h []) v0))) (iA (roD (deadL h []) v1)))).Clear))]
  | _, _ => .fail
set_option maxHeartbeats 4000000 in
set_option maxRecDepth 20000 in
theorem ok80 : FnOk Try.prog 80 (edC body80) := by
  refine edit_fnV body80 (rs := [.cell 4 39]) Try.func80 (by kernel_rfl) rfl rfl ?_
  intro l h bs ob q0 g0 hb hob
  unfold body80 at hb
  split at hb
  · rename_i v0 v1
    injection hb with q1 q2 q3 q4; subst q1 q2 q3 q4
    obtain ⟨hk0_0, hk0_1, hk1_0, hk1_1, hob⟩ := hob
    obtain ⟨r, H⟩ := Option.isSome_iff_exists.1 hob
    rw [H, gt_some]
    have hw0 := wA_TRegulate hk0_0
    obtain ⟨p0, hp_p0⟩ : ∃ p0, p0 = g_TRegulate (aL (roD (deadL h []) v0)) := ⟨_, rfl⟩
    rw [← hp_p0] at H hw0
    have hw1 := iK_wk hk1_0
    obtain ⟨p1, hp_p1⟩ : ∃ p1, p1 = iA (roD (deadL h []) v1) := ⟨_, rfl⟩
    rw [← hp_p1] at H hw1
    refine ⟨[.agg [.ro 3 p0.Table.length false (enR c_TRegulateChannel p0.Table), .int .i64 p0.Channel, .bool p0.Lead, .int .i64 p0.Heard, .bool p0.Stopped, .bool p0.Moving, .int .i64 p0.To, .int .i64 p0.At, .ro 2 p0.Blocked.length false (enR c_TRegulateBlock p0.Blocked), .ro 1 p0.Clear.length false (enR c_i64 p0.Clear)], .int .i64 p1], [], rfl, ⟨(EW_view hk0_1 hw0), ⟨(EW_view hk1_1 hw1), trivial⟩⟩, trivial, trivial, ⟨(nfB_en nr_TRegulateChannel), ⟨(nfB_en nr_TRegulateBlock), ⟨(nfB_en nr_i64), trivial⟩⟩⟩, ⟨noroB_en, ⟨noroB_en, ⟨noroB_en, trivial⟩⟩⟩, (by first | (simp only [noro, noroL, and_self]; done) | (simp only [noro, noroL]; and_intros <;> first | trivial | exact noro_bif (by simp only [noro]) (by simp only [noro]) | (simp only [noro, noroL, and_self]))), ?_⟩
    rw [Try.ntmps80]
    simp only [List.length_cons, List.length_nil, Nat.reduceAdd, Nat.reduceSub, List.replicate_succ, List.replicate_zero, List.cons_append, List.nil_append]
    unfold F80 at H
    refine sq ctNo_ok ?_
    simp only [go_sem]
    refine seqM ?_
    obtain ⟨r1, e2, H⟩ := bsi H
    refine rg ct80t0_ok ?_
    simp only [go_sem, Nat.reduceLT, Nat.reduceAdd, ct80t0_24, body24, e2]
    refine sq ctNo_ok ?_
    simp only [go_sem, Nat.reduceLeDiff, Nat.reduceAdd]
    refine seqM ?_
    obtain ⟨r3, e4, H⟩ := bsi H
    refine rg ct80t1_ok ?_
    simp only [go_sem, Nat.reduceLeDiff, Nat.reduceLT, Nat.reduceAdd, ct80t1_110, body110, e4]
    refine seqM ?_
    obtain ⟨r5, e6, H⟩ := bsi H
    refine rg ct80t2_ok ?_
    simp only [go_sem, Nat.reduceLeDiff, Nat.reduceLT, Nat.reduceAdd, ct80t2_72, body72, e6]
    refine sq ctNo_ok ?_
    simp only [go_sem, Nat.reduceLT, Nat.reduceAdd]
    refine rg ctNo_ok ?_
    simp only [go_sem, Nat.reduceLT, Nat.reduceAdd]
    obtain rfl := Option.some.inj H
    refine RetE_mk [] [some 2, some 7, some 6] ?_ ?_ ?_ ?_ (by rfl) (by rfl)
    · simp only [go_sem]
    · simp only [go_sem]
    · simp only [go_sem]
      exact (by first | (simp [Cv, CvL, getM]; done) | (simp [Cv, CvL, getM, gt_some]; omega))
    · simp only [go_sem, CvH]
      first | exact ⟨CvB_row nr_TRegulateChannel (by first | rfl | (simp; done) | (simp; omega)) (fun _ _ _ _ => rfl), CvB_row nr_TRegulateBlock (by first | rfl | (simp; done) | (simp; omega)) (fun _ _ _ _ => rfl), CvB_row nr_i64 (by first | rfl | (simp; done) | (simp; omega)) (fun _ _ _ _ => rfl)⟩ | trivial
  · cases hb
/-! hotspot/hotspotref45.In -/
noncomputable def F20_L1 (p0 : List Int) (p1 : Int) (v1_1 : Int) : Option (Lp (Int) ((Unit) ⊕ (Bool))) :=
  bif (bLt v1_1 (p0.length : Nat)) then (need (inb v1_1 p0.length) <| bif (bEq (gd p0 v1_1.toNat) p1) then (some (.done (.inr true))) else (some (.next (wr .i64 (v1_1 + 1))))) else (some (.done (.inl ())))
noncomputable def F20 (p0 : List Int) (p1 : Int) : Option (Bool) :=
  lp (loopD (fun s => F20_L1 p0 p1 s) 0) (fun e => some false) some
noncomputable def body20 : List AV -> AR
  | [v0, v1] => .pure (lK k_i64 1 v0 /\ iK .i64 v1 /\ (F20 (lA g_i64 v0) (iA v1)).isSome = true) (.bool (gt (F20 (lA g_i64 v0) (iA v1))))
  | _ => .fail
set_option maxHeartbeats 4000000 in
set_option maxRecDepth 20000 in
theorem ok20 : FnOk Try.prog 20 (pureC body20) := by
  refine pure_fnM body20 (rs := [.tmp 4]) Try.func20 (by kernel_rfl) rfl rfl ?_
  intro l ob v hb hob
  unfold body20 at hb
  split at hb
  · rename_i v0 v1
    injection hb with q1 q2; subst q1 q2
    obtain ⟨hk0_0, hk1_0, hob⟩ := hob
    obtain ⟨r, H⟩ := Option.isSome_iff_exists.1 hob
    rw [H, gt_some]
    have hw0 := lK_wk (fun r h => w_i64 h) hk0_0
    have hw1 := iK_wk hk1_0
    generalize lA g_i64 v0 = p0 at H hw0
    generalize iA v1 = p1 at H hw1
    refine ⟨[.ro 1 p0.length false (enR c_i64 p0), .int .i64 p1], _, (fun E vs F => FR_wk1 hw0.1 F (fun vs F => FR_wk1 hw1.1 F (fun vs F => F))), rfl, rfl, ?_⟩
    rw [Try.ntmps20]
    simp only [List.length_cons, List.length_nil, Nat.reduceAdd, Nat.reduceSub, List.replicate_succ, List.replicate_zero, List.cons_append, List.nil_append]
    unfold F20 at H
    refine sq ctNo_ok ?_
    simp only [go_sem]
    refine seqM ?_
    refine sq ctNo_ok ?_
    simp only [go_sem]
    refine blkM ?_
    refine loop_den (fun s : Int => (.ro 1 p0.length false (enR c_i64 p0) :: .int .i64 p1 :: .top :: .top :: .top :: .int .i64 s :: tp 12 [])) (fun s => []) (fun e : Unit => (tp 18 [])) (fun e => []) H ?_ (fun v1_1 o H hn1_1 hn2_1 => ?_) (fun e H => ?_)
    · refine SubF_of ⟨[], ?_, ?_, by rfl, by rfl⟩
      · simp [CvL, Cv, tp]
      · trivial
    · unfold F20_L1 at H
      try simp only [tp]
      refine seqM ?_
      refine sq ctNo_ok ?_
      simp only [go_sem]
      refine condM' rfl trivial (fun hc => ?_) (fun hc => ?_)
      · replace H := cond_f hc H
        refine rg ctNo_ok ?_
        simp only [go_sem]
        refine ⟨_, (Option.some.inj H).symm, ?_⟩
        refine SubF_of ⟨[], ?_, ?_, by rfl, by rfl⟩
        · simp [CvL, Cv]
        · trivial
      replace H := cond_t hc H
      refine rg ctNo_ok ?_
      simp only [go_sem]
      refine seqM ?_
      refine blkM ?_
      refine seqM ?_
      obtain ⟨f1, H⟩ := need_some.1 H
      replace f1 := inb_iff.1 f1
      refine rg ctNo_ok ?_
      simp only [go_sem, Nat.reduceLT, f1]
      refine condM rfl trivial (fun hc => ?_) (fun hc => ?_)
      · replace H := cond_t hc H
        refine sq ctNo_ok ?_
        simp only [go_sem]
        refine rg ctNo_ok ?_
        simp only [go_sem]
        have H := hn2_1 _ (Option.some.inj H).symm
        obtain rfl := Option.some.inj H
        first | rfl | simp only [Bool.and_false, Bool.false_and, Bool.and_true, Bool.true_and]
      replace H := cond_f hc H
      refine rg ctNo_ok ?_
      simp only [go_sem]
      refine rg ctNo_ok ?_
      simp only [go_sem]
      refine ⟨_, (Option.some.inj H).symm, ?_⟩
      refine SubF_of ⟨[], ?_, ?_, by rfl, by rfl⟩
      · simp [CvL, Cv]
      · trivial
    · try dsimp only at H ⊢
      try simp only [tp]
      try simp only [m_normal]
      refine sq ctNo_ok ?_
      simp only [go_sem]
      refine rg ctNo_ok ?_
      simp only [go_sem]
      obtain rfl := Option.some.inj H
      first | rfl | simp only [Bool.and_false, Bool.false_and, Bool.and_true, Bool.true_and]
  · cases hb
/-! hotspot/hotspotref45.Free -/
noncomputable def ct66t0 : Ct := tab [(19, pureC body19)]
theorem ct66t0_ok : CtOk Try.prog ct66t0 := tab_cons ok19 <| tab_nil
theorem ct66t0_19 (l : List AV) (h : List ABlk) : ct66t0 19 l h = pureC body19 l h := rfl
noncomputable def ct66t1 : Ct := tab [(20, pureC body20)]
theorem ct66t1_ok : CtOk Try.prog ct66t1 := tab_cons ok20 <| tab_nil
theorem ct66t1_20 (l : List AV) (h : List ABlk) : ct66t1 20 l h = pureC body20 l h := rfl
noncomputable def F66 (p0 : TRegulate) (p1 : TRegulateChannel) (p2 : Int) : Option (Bool) :=
  (F19 p0.Blocked p1.Number).bind fun r1 => need (bif ((!(r1.2 && (bLt p2 r1.1))) && (!(!p1.Radar))) then ((F20 p0.Clear p1.Number).isSome) else true) <| some ((!(r1.2 && (bLt p2 r1.1))) && ((!p1.Radar) || (gt (F20 p0.Clear p1.Number))))
noncomputable def body66 : List AV -> AR
  | [v0, v1, v2] => .pure (aK 10 k_TRegulate v0 /\ aK 3 k_TRegulateChannel v1 /\ iK .i64 v2 /\ (F66 (g_TRegulate (aL v0)) (g_TRegulateChannel (aL v1)) (iA v2)).isSome = true) (.bool (gt (F66 (g_TRegulate (aL v0)) (g_TRegulateChannel (aL v1)) (iA v2))))
  | _ => .fail
set_option maxHeartbeats 4000000 in
set_option maxRecDepth 20000 in
theorem ok66 : FnOk Try.prog 66 (pureC body66) := by
  refine pure_fnM body66 (rs := [.tmp 6]) Try.func66 (by kernel_rfl) rfl rfl ?_
  intro l ob v hb hob
  unfold body66 at hb
  split at hb
  · rename_i v0 v1 v2
    injection hb with q1 q2; subst q1 q2
    obtain ⟨hk0_0, hk1_0, hk2_0, hob⟩ := hob
    obtain ⟨r, H⟩ := Option.isSome_iff_exists.1 hob
    rw [H, gt_some]
    have hw0 := wA_TRegulate hk0_0
    have hw1 := wA_TRegulateChannel hk1_0
    have hw2 := iK_wk hk2_0
    generalize g_TRegulate (aL v0) = p0 at H hw0
    generalize g_TRegulateChannel (aL v1) = p1 at H hw1
    generalize iA v2 = p2 at H hw2
    refine ⟨[.agg [.ro 3 p0.Table.length false (enR c_TRegulateChannel p0.Table), .int .i64 p0.Channel, .bool p0.Lead, .int .i64 p0.Heard, .bool p0.Stopped, .bool p0.Moving, .int .i64 p0.To, .int .i64 p0.At, .ro 2 p0.Blocked.length false (enR c_TRegulateBlock p0.Blocked), .ro 1 p0.Clear.length false (enR c_i64 p0.Clear)], .agg [.int .i64 p1.Number, .int .i64 p1.Max, .bool p1.Radar], .int .i64 p2], _, (fun E vs F => FR_wk1 hw0.1 F (fun vs F => FR_wk1 hw1.1 F (fun vs F => FR_wk1 hw2.1 F (fun vs F => F)))), rfl, rfl, ?_⟩
    rw [Try.ntmps66]
    simp only [List.length_cons, List.length_nil, Nat.reduceAdd, Nat.reduceSub, List.replicate_succ, List.replicate_zero, List.cons_append, List.nil_append]
    unfold F66 at H
    refine sq ctNo_ok ?_
    simp only [go_sem]
    refine seqM ?_
    obtain ⟨r1, e2, H⟩ := bsi H
    refine rg ct66t0_ok ?_
    simp only [go_sem, Nat.reduceLeDiff, Nat.reduceLT, Nat.reduceAdd, ct66t0_19, body19, e2]
    refine seqM ?_
    obtain ⟨f3, H⟩ := need_some.1 H
    replace f3 := g_iff.1 f3
    refine rg ct66t1_ok ?_
    simp only [go_sem, Nat.reduceLeDiff, Nat.reduceLT, Nat.reduceAdd, ct66t1_20, body20]
    repeat ((with_reducible refine And.intro ?_ ?_); focus (first | (with_reducible trivial) | omega | exact f3 | (intro g; have q := f3 (by first | exact g | (rw [g]; rfl) | simpa using g); first | exact q | exact ⟨q.1, q.2.1⟩ | exact q.2.2 | omega | exact ⟨g, q⟩ | exact ⟨trivial, q⟩ | exact ⟨g, q.1, q.2.1⟩ | exact ⟨g, q.2.2⟩) | (intro g; (try have q0 := f3 (by first | exact g | (rw [g]; rfl) | simpa using g)); and_intros <;> first | (with_reducible trivial) | assumption | exact nfc | (intro g2; rw [g, g2]; rfl) | (intro g2; assumption) | (simp only [g, Bool.true_and, Bool.and_true, Bool.not_false, Bool.not_true]; assumption) | grind) | (and_intros <;> first | (with_reducible trivial) | omega | assumption | exact nfc | first | exact rfl | exact trivial | exact fitI | exact .inr rfl | exact .inl rfl | exact fun x hx => absurd hx (by omega)) | grind))
    refine rg ctNo_ok ?_
    simp only [go_sem]
    obtain rfl := Option.some.inj H
    first | rfl | simp only [Bool.and_false, Bool.false_and, Bool.and_true, Bool.true_and]
  · cases hb
/-! hotspot/hotspotref45.usable -/
noncomputable def ct65t0 : Ct := tab [(66, pureC body66)]
theorem ct65t0_ok : CtOk Try.prog ct65t0 := tab_cons ok66 <| tab_nil
theorem ct65t0_66 (l : List AV) (h : List ABlk) : ct65t0 66 l h = pureC body66 l h := rfl
noncomputable def F65_L1 (p0 : TRegulate) (p1 : Int) (v1_1 : List Int) (v1_2 : Int) : Option (Lp ((List Int) × Int) ((List Int) ⊕ (List Int))) :=
  bif (bLt v1_2 (p0.Table.length : Nat)) then (need (inb v1_2 p0.Table.length) <| need (bif (!bEq ((gd p0.Table v1_2.toNat).Number) p0.Channel) then inb v1_2 p0.Table.length else true) <| need (bif (!bEq ((gd p0.Table v1_2.toNat).Number) p0.Channel) then ((F66 p0 (gd p0.Table v1_2.toNat) p1).isSome) else true) <| bif ((!bEq ((gd p0.Table v1_2.toNat).Number) p0.Channel) && (gt (F66 p0 (gd p0.Table v1_2.toNat) p1))) then (need (inb v1_2 p0.Table.length) <| need (capb 8 (v1_1.length + 1)) <| some (.next ((v1_1 ++ [(gd p0.Table v1_2.toNat).Number]), wr .i64 (v1_2 + 1)))) else (some (.next (v1_1, wr .i64 (v1_2 + 1))))) else (some (.done (.inl v1_1)))
noncomputable def F65 (p0 : TRegulate) (p1 : Int) : Option (List Int) :=
  lp (loopD (fun s => F65_L1 p0 p1 s.1 s.2) ([], 0)) (fun w1_3 => some w1_3) some
noncomputable def body65 : List AV -> List ABlk -> ED
  | [v0, v1], h => .ed [] (aK 10 k_TRegulate (roD (deadL h []) v0) /\ roDOb (deadL h []) v0 /\ iK .i64 (roD (deadL h []) v1) /\ roDOb (deadL h []) v1 /\ (F65 (g_TRegulate (aL (roD (deadL h []) v0))) (iA (roD (deadL h []) v1))).isSome = true) (.sl 0 1 0 ((gt (F65 (g_TRegulate (aL (roD (deadL h []) v0))) (iA (roD (deadL h []) v1)))).length) false) [.row 3 1 ((gt (F65 (g_TRegulate (aL (roD (deadL h []) v0))) (iA (roD (deadL h []) v1)))).length) (enR c_i64 (gt (F65 (g_TRegulate (aL (roD (deadL h []) v0))) (iA (roD (deadL h []) v1)))))]
  | _, _ => .fail
set_option maxHeartbeats 4000000 in
set_option maxRecDepth 20000 in
theorem ok65 : FnOk Try.prog 65 (edC body65) := by
  refine edit_fnV body65 (rs := [.tmp 4]) Try.func65 (by kernel_rfl) rfl rfl ?_
  intro l h bs ob q0 g0 hb hob
  unfold body65 at hb
  split at hb
  · rename_i v0 v1
    injection hb with q1 q2 q3 q4; subst q1 q2 q3 q4
    obtain ⟨hk0_0, hk0_1, hk1_0, hk1_1, hob⟩ := hob
    obtain ⟨r, H⟩ := Option.isSome_iff_exists.1 hob
    rw [H, gt_some]
    have hw0 := wA_TRegulate hk0_0
    obtain ⟨p0, hp_p0⟩ : ∃ p0, p0 = g_TRegulate (aL (roD (deadL h []) v0)) := ⟨_, rfl⟩
    rw [← hp_p0] at H hw0
    have hw1 := iK_wk hk1_0
    obtain ⟨p1, hp_p1⟩ : ∃ p1, p1 = iA (roD (deadL h []) v1) := ⟨_, rfl⟩
    rw [← hp_p1] at H hw1
    refine ⟨[.agg [.ro 3 p0.Table.length false (enR c_TRegulateChannel p0.Table), .int .i64 p0.Channel, .bool p0.Lead, .int .i64 p0.Heard, .bool p0.Stopped, .bool p0.Moving, .int .i64 p0.To, .int .i64 p0.At, .ro 2 p0.Blocked.length false (enR c_TRegulateBlock p0.Blocked), .ro 1 p0.Clear.length false (enR c_i64 p0.Clear)], .int .i64 p1], [], rfl, ⟨(EW_view hk0_1 hw0), ⟨(EW_view hk1_1 hw1), trivial⟩⟩, trivial, trivial, ⟨(nfB_en nr_i64), trivial⟩, ⟨noroB_en, trivial⟩, (by first | (simp only [noro]; done) | (simp only [noro, noroL]; and_intros <;> first | trivial | exact noro_bif (by simp only [noro]) (by simp only [noro]) | (simp only [noro, noroL, and_self]))), ?_⟩
    rw [Try.ntmps65]
    simp only [List.length_cons, List.length_nil, Nat.reduceAdd, Nat.reduceSub, List.replicate_succ, List.replicate_zero, List.cons_append, List.nil_append]
    unfold F65 at H
    refine sq ctNo_ok ?_
    simp only [go_sem]
    refine sq ctNo_ok ?_
    simp only [go_sem]
    refine seqM ?_
    refine sq ctNo_ok ?_
    simp only [go_sem]
    refine blkM ?_
    refine loop_den (fun s : (List Int) × Int => (.top :: .int .i64 p1 :: .ptr 0 0 0 0 :: .top :: .top :: .sl 1 1 0 s.1.length false :: .int .i64 s.2 :: tp 36 [])) (fun s => [.lit 39 [.ro 3 p0.Table.length false (enR c_TRegulateChannel p0.Table), .int .i64 p0.Channel, .bool p0.Lead, .int .i64 p0.Heard, .bool p0.Stopped, .bool p0.Moving, .int .i64 p0.To, .int .i64 p0.At, .ro 2 p0.Blocked.length false (enR c_TRegulateBlock p0.Blocked), .ro 1 p0.Clear.length false (enR c_i64 p0.Clear)], .row 3 1 s.1.length (enR c_i64 s.1)]) (fun e : List Int => (tp 5 (.sl 1 1 0 e.length false :: tp 37 []))) (fun e => [.dead, .row 3 1 e.length (enR c_i64 e)]) H ?_ (fun s o H hn1_1 hn2_1 => ?_) (fun w1_3 H => ?_)
    · refine SubF_of ⟨[some 0, none], ?_, ?_, by rfl, by rfl⟩
      · simp [CvL, Cv, getM, tp]
      · exact ⟨(by simp [CvB, CvL, Cv, blkAt, geth]), CvB_none, trivial⟩
    · obtain ⟨v1_1, v1_2⟩ := s
      unfold F65_L1 at H
      try simp only [tp]
      refine seqM ?_
      refine sq ctNo_ok ?_
      simp only [go_sem, Nat.reduceLeDiff, Nat.reduceLT, Nat.reduceAdd]
      refine condM' rfl trivial (fun hc => ?_) (fun hc => ?_)
      · replace H := cond_f hc H
        refine rg ctNo_ok ?_
        simp only [go_sem]
        refine ⟨_, (Option.some.inj H).symm, ?_⟩
        refine SubF_of ⟨[some 0, some 1], ?_, ?_, by rfl, by rfl⟩
        · simp [CvL, Cv, getM]
        · exact ⟨CvB_dead, CvB_row nr_i64 (by first | rfl | (simp; done) | (simp; omega)) (fun _ _ _ _ => rfl), trivial⟩
      replace H := cond_t hc H
      refine rg ctNo_ok ?_
      simp only [go_sem]
      refine seqM ?_
      refine blkM ?_
      refine seqM ?_
      obtain ⟨f1, H⟩ := need_some.1 H
      replace f1 := inb_iff.1 f1
      obtain ⟨f2, H⟩ := need_some.1 H
      replace f2 := g_iff.1 f2
      replace f2 := fun g => inb_iff.1 (f2 g)
      obtain ⟨f3, H⟩ := need_some.1 H
      replace f3 := g_iff.1 f3
      refine draw_quiet shT_ok ct65t0_ok (by kernel_rfl) (by kernel_rfl) ?_
      simp only [go_sem, Nat.reduceLeDiff, Nat.reduceLT, Nat.reduceAdd, ct65t0_66, body66, f1]
      repeat ((with_reducible refine And.intro ?_ ?_); focus (first | (with_reducible trivial) | omega | exact f2 | exact f3 | (intro g; have q := f2 (by first | exact g | (rw [g]; rfl) | simpa using g); first | exact q | exact ⟨q.1, q.2.1⟩ | exact q.2.2 | omega | exact ⟨g, q⟩ | exact ⟨trivial, q⟩ | exact ⟨g, q.1, q.2.1⟩ | exact ⟨g, q.2.2⟩) | (intro g; have q := f3 (by first | exact g | (rw [g]; rfl) | simpa using g); first | exact q | exact ⟨q.1, q.2.1⟩ | exact q.2.2 | omega | exact ⟨g, q⟩ | exact ⟨trivial, q⟩ | exact ⟨g, q.1, q.2.1⟩ | exact ⟨g, q.2.2⟩) | (intro g; (try have q0 := f2 (by first | exact g | (rw [g]; rfl) | simpa using g)); (try have q1 := f3 (by first | exact g | (rw [g]; rfl) | simpa using g)); and_intros <;> first | (with_reducible trivial) | assumption | exact nfc | (intro g2; rw [g, g2]; rfl) | (intro g2; assumption) | (simp only [g, Bool.true_and, Bool.and_true, Bool.not_false, Bool.not_true]; assumption) | grind) | (and_intros <;> first | (with_reducible trivial) | omega | assumption | exact nfc | first | exact rfl | exact trivial | exact fitI | exact .inr rfl | exact .inl rfl | exact fun x hx => absurd hx (by omega)) | grind))
      refine condM' rfl trivial (fun hc => ?_) (fun hc => ?_)
      · replace H := cond_f hc H
        refine rg ctNo_ok ?_
        simp only [go_sem]
        refine rg ctNo_ok ?_
        simp only [go_sem]
        refine ⟨_, (Option.some.inj H).symm, ?_⟩
        refine SubF_of ⟨[some 0, some 1], ?_, ?_, by rfl, by rfl⟩
        · simp [CvL, Cv, getM]
        · exact ⟨(by simp [CvB, CvL, Cv, blkAt, geth]), CvB_row nr_i64 (by first | rfl | (simp; done) | (simp; omega)) (fun _ _ _ _ => rfl), trivial⟩
      replace H := cond_t hc H
      obtain ⟨f4, H⟩ := need_some.1 H
      replace f4 := inb_iff.1 f4
      obtain ⟨f5, H⟩ := need_some.1 H
      replace f5 := capb_iff.1 f5
      refine rg ctNo_ok ?_
      simp only [go_sem, Nat.reduceLeDiff, Nat.reduceLT, Nat.reduceAdd, Nat.reduceBEq, f4, f5]
      repeat ((with_reducible refine And.intro ?_ ?_); focus (first | (and_intros <;> first | (with_reducible trivial) | omega | assumption | exact nfc | first | exact rfl | exact trivial | exact fitI | exact .inr rfl | exact .inl rfl | exact fun x hx => absurd hx (by omega) | (intro x hx; (repeat (first | (and_intros <;> (first | exact rfl | exact trivial | exact fitI | exact .inr rfl | exact .inl rfl | exact fun x hx => absurd hx (by omega))) | (exfalso; omega) | (rcases x with _ | x))); done) | (refine Fit_app ?_ ?_ <;> first | exact fitI | (intro x hx; (repeat (first | (and_intros <;> (first | exact rfl | exact trivial | exact fitI | exact .inr rfl | exact .inl rfl | exact fun x hx => absurd hx (by omega))) | (exfalso; omega) | (rcases x with _ | x))); done) | (refine Fit_app ?_ ?_ <;> first | exact fitI | (intro x hx; (repeat (first | (and_intros <;> (first | exact rfl | exact trivial | exact fitI | exact .inr rfl | exact .inl rfl | exact fun x hx => absurd hx (by omega))) | (exfalso; omega) | (rcases x with _ | x))); done)))) | grind))
      refine rg ctNo_ok ?_
      simp only [go_sem]
      refine ⟨_, (Option.some.inj H).symm, ?_⟩
      refine SubF_of ⟨[some 0, some 3], ?_, ?_, by rfl, by rfl⟩
      · simp [CvL, Cv, getM]
      · exact ⟨(by simp [CvB, CvL, Cv, blkAt, geth]), CvB_row nr_i64 (by first | rfl | (simp; done) | (simp; omega)) (app_row (f := c_i64) v1_1 [(gd p0.Table v1_2.toNat).Number] (fun _ _ _ _ => rfl) (lit_row (f := c_i64) [(gd p0.Table v1_2.toNat).Number] (fun _ _ => rfl) rfl)), trivial⟩
    · try dsimp only at H ⊢
      try simp only [tp]
      try simp only [m_normal]
      refine sq ctNo_ok ?_
      simp only [go_sem]
      refine rg ctNo_ok ?_
      simp only [go_sem]
      obtain rfl := Option.some.inj H
      refine RetE_mk [] [some 1] ?_ ?_ ?_ ?_ (by rfl) (by rfl)
      · simp only [go_sem]
      · simp only [go_sem]
      · simp only [go_sem]
        exact (by first | (simp [Cv, getM]; done) | (simp [Cv, CvL, getM, gt_some]; omega))
      · simp only [go_sem, CvH]
        exact CvB_row nr_i64 (by first | rfl | (simp; done) | (simp; omega)) (fun _ _ _ _ => rfl)
  · cases hb
/-! hotspot/hotspotref45.Announcement -/
noncomputable def F81 (p0 : TRegulate) : Option (TRegulateWord) :=
  some (TRegulateWord.mk 1 p0.Channel p0.To p0.At)
noncomputable def body81 : List AV -> AR
  | [v0] => .pure (aK 10 k_TRegulate v0 /\ (F81 (g_TRegulate (aL v0))).isSome = true) (.agg [.int .u8 ((gt (F81 (g_TRegulate (aL v0)))).Kind), .int .i64 ((gt (F81 (g_TRegulate (aL v0)))).Channel), .int .i64 ((gt (F81 (g_TRegulate (aL v0)))).To), .int .i64 ((gt (F81 (g_TRegulate (aL v0)))).At)])
  | _ => .fail
set_option maxHeartbeats 4000000 in
set_option maxRecDepth 20000 in
theorem ok81 : FnOk Try.prog 81 (pureC body81) := by
  refine pure_fnM body81 (rs := [.cell 2 23]) Try.func81 (by kernel_rfl) rfl rfl ?_
  intro l ob v hb hob
  unfold body81 at hb
  split at hb
  · rename_i v0
    injection hb with q1 q2; subst q1 q2
    obtain ⟨hk0_0, hob⟩ := hob
    obtain ⟨r, H⟩ := Option.isSome_iff_exists.1 hob
    rw [H, gt_some]
    have hw0 := wA_TRegulate hk0_0
    generalize g_TRegulate (aL v0) = p0 at H hw0
    refine ⟨[.agg [.ro 3 p0.Table.length false (enR c_TRegulateChannel p0.Table), .int .i64 p0.Channel, .bool p0.Lead, .int .i64 p0.Heard, .bool p0.Stopped, .bool p0.Moving, .int .i64 p0.To, .int .i64 p0.At, .ro 2 p0.Blocked.length false (enR c_TRegulateBlock p0.Blocked), .ro 1 p0.Clear.length false (enR c_i64 p0.Clear)]], _, (fun E vs F => FR_wk1 hw0.1 F (fun vs F => F)), rfl, rfl, ?_⟩
    rw [Try.ntmps81]
    simp only [List.length_cons, List.length_nil, Nat.reduceAdd, Nat.reduceSub, List.replicate_succ, List.replicate_zero, List.cons_append, List.nil_append]
    unfold F81 at H
    refine sq ctNo_ok ?_
    simp only [go_sem]
    refine sq ctNo_ok ?_
    simp only [go_sem, Nat.reduceLeDiff, Nat.reduceLT, Nat.reduceAdd]
    refine rg ctNo_ok ?_
    simp only [go_sem, Nat.reduceLT, Nat.reduceAdd]
    obtain rfl := Option.some.inj H
    first | rfl | simp only [Bool.and_false, Bool.false_and, Bool.and_true, Bool.true_and]
  · cases hb
end Go.Proofs.Ytjhkehdbjnhplaa
