/-
  What RegulateQuiet reaches.
-/
import Derived.Test.YtjhkehdbjnhplaaY8p1
namespace Go.Proofs.Ytjhkehdbjnhplaa
open Go.Am
set_option maxHeartbeats 4000000
set_option maxRecDepth 20000
set_option linter.unusedVariables false
set_option linter.unusedSimpArgs false
theorem ext115 : ExtOk Try.prog 121 ovC2 := ov_ext2 (t := 36) (tr := 4) (e := 79) (z := 2) Try.func121 (by kernel_rfl) (by kernel_rfl) (by kernel_rfl) (by kernel_rfl) (by kernel_rfl) (by kernel_rfl)
def ctI115 : Ct := tab [(121, ovC2)]
theorem ctI115_ok : CtOk Try.prog ctI115 := tab_ext ext115 tab_nil
theorem ctI115_eq (l : List AV) (h : List ABlk) : ctI115 121 l h = ovC2 l h := rfl
theorem tik115_0 : tintk Try.prog 2 = true := by kernel_rfl
theorem tik115_1 : tintk Try.prog 36 = false := by kernel_rfl
set_option maxHeartbeats 8000000 in
theorem okF115 : FnOk Try.prog 115 (insF 79 2) := by
  refine edit1_fn (sh := fun _ => none) (fun _ _ h => by cases h) ctI115_ok (insF 79 2) (rs := [.tmp 6]) Try.func115 (by kernel_rfl) rfl rfl insF_np ?_
  intro E h l vs ob v h' H F hc hob
  unfold insF at hc
  split at hc
  · rename_i b es' i n nl p b2 es3 i2 m nl2
    split at hc
    · rename_i e' es2 NN c hb
      split at hc
      · rename_i e4 es4 N2 d hb2
        injection hc with q1 q2 q3
        subst q1 q2 q3
        obtain ⟨rfl, rfl, rfl, rfl, rfl, hbb, hN, hN2, hpn, hmm, hbig, hfl, hfl2⟩ := hob
        obtain ⟨vs⟩ := vs
        match vs, F.1 with
        | [u1, u2, u3], _ =>
          have hne : geth h b ≠ .dead := by rw [hb]; exact fun e => by cases e
          obtain ⟨cap, hcap, hV⟩ := csl_of_sl (only_sl (F.2 0 _ u1 rfl rfl))
          have g2 := F.2 1 _ u2 rfl rfl
          have g3 := only_ro (b := b) H (F.2 2 _ u3 rfl rfl) hb2 hne hbb hN2 fun x y hx hy => (hfl2 x y hx hy).1
          obtain rfl := VR_int g2
          refine ⟨b, 79, 2, NN, c, n + m, insA i p m c (subC i2 d), [.csl 0 2 i n cap, .int .i64 p, .ro 2 m nl2 (subC i2 d)], hb, fun x y hx hy => (hfl x y hx hy).1, fun x y hx hy => ?_, rfl, rfl, ?_, ?_⟩
          · unfold insA subC
            split
            · exact hfl _ _ (by omega) hy
            · split
              · exact hfl2 _ _ (by omega) hy
              · exact hfl _ _ (by omega) hy
          · refine ⟨rfl, fun j a w ha hw => ?_⟩
            match j with
            | 0 => simp at ha hw; subst ha hw; exact hV
            | 1 => simp at ha hw; subst ha hw; exact .int _ _
            | 2 => simp at ha hw; subst ha hw; exact g3
            | j + 3 => simp at ha
          · rw [Try.ntmps115]
            show wpC _ _ _ _ _ (.csl 0 2 i n cap :: .int .i64 p :: .ro 2 m nl2 (subC i2 d) :: .top :: .top :: .top :: .top :: .top :: .top :: .top :: .top :: .top :: .top :: .top :: .top :: .top :: .top :: .top :: .top :: .top :: .top :: .top :: .top :: .top :: .top :: .top :: .top :: .top :: .top :: .top :: .top :: .top :: .top :: .top :: .top :: .top :: .top :: .top :: .top :: .top :: .top :: .top :: .top :: .top :: .top :: .top :: .top :: .top :: .top :: .top :: .top :: .top :: .top :: .top :: .top :: .top :: .top :: .top :: .top :: .top :: .top :: .top :: .top :: .top :: .top :: .top :: .top :: .top :: .top :: .top :: .top :: .top :: .top :: .top :: .top :: .top :: .top :: .top :: .top :: .top :: .top :: .top :: .top :: .top :: .top :: .top :: .top :: .top :: .top :: .top :: .top :: .top :: .top :: .top :: .top :: []) _
            have hm0 : 0 < m := by omega
            have hm1 : ((m : Int) == 0) = false := by simp; omega
            rcases Nat.lt_or_ge p n with hp | hp
            · have hpq : ((p : Int) == (n : Int)) = false := by simp; omega
              have w1 : wr .i64 ((n : Int) + (m : Int)) = ((n + m : Nat) : Int) := by unfold wr; rw [IntWalk.i64_in _ (by omega)]; omega
              have w2 : wr .i64 (((n + m : Nat) : Int) - (p : Int)) = ((n + m - p : Nat) : Int) := by unfold wr; rw [IntWalk.i64_in _ (by omega)]; omega
              have w3 : wr .i64 ((p : Int) + (m : Int)) = ((p + m : Nat) : Int) := by unfold wr; rw [IntWalk.i64_in _ (by omega)]; omega
              have hpm : p + (n + m - p) = n + m := by omega
              have mn1 : min m (n + m - p) = m := by omega
              have mn2 : min (n - p) (n + m - (p + m)) = n - p := by omega
              have mn3 : min (n + m - p) (n + m - (p + m)) = n - p := by omega
              have fin : ∀ x y, x < n + m -> insA i p m c (subC i2 d) x y = insA i p m c (subC i2 d) x y := fun _ _ _ => rfl
              by_cases hroom : n + m <= cap
              · have hg : decide ((cap : Int) < ((n + m : Nat) : Int)) = false := by simp; omega
                simp only [go_sem, Nat.reduceLeDiff, Nat.reduceAdd, reduceCtorEq, evCopy, evCopyR, lenS, cutS, evCap, evAppZ, tik115_1, bEq, Option.isNone_some, Option.isSome_none, Option.isNone_none, Int.toNat_natCast, hm1, hpq, hg, Nat.sub_zero, bLt, w1, w2, w3, hpm, ctI115_eq, ovC2, slB, Nat.add_zero, Nat.zero_add]
                refine ⟨by omega, by omega, by omega, by omega, ?_⟩
                refine draw_rule (sh := fun _ => none) (fun _ _ h => by cases h) ctI115_ok 0 (by kernel_rfl) (by kernel_rfl) ?_
                intro an han
                simp only [go_sem, Nat.reduceLeDiff, Nat.reduceAdd, Nat.reduceSub, evCopy, evCopyR, lenS, cutS, Option.isSome_none, Option.isNone_none, Int.toNat_natCast, w3, mn1, mn3, Nat.add_zero, Nat.zero_add, d_nil, d_cons, nxtD, refsOp, refs, refsL, mask, maskF, place, placeF, okLog, pairOk, hit, inL, slotsF, ren, nrH, nrB, List.replicate_zero, Bool.or_false, Bool.or_true, Bool.true_or, Bool.false_and, Nat.sub_self, Nat.add_zero, Nat.zero_add, Nat.reduceSub, Nat.lt_add_one]
                refine ⟨by omega, by omega, by omega, by omega, by omega, ?_⟩
                refine conv_move (b := 0) rfl (by omega) (by omega) fun x y hx hy => ?_
                unfold ovwC insA subC
                by_cases hxp : x < p
                · rw [if_neg (by omega), if_neg (by omega), if_pos hxp]
                · rw [if_neg hxp]
                  by_cases hxm : x < p + m
                  · rw [if_pos (by omega), if_pos hxm]
                    congr 1
                    omega
                  · rw [if_neg (by omega), if_pos (by omega), if_neg hxm]
                    congr 1
                    omega
              · have hg : decide ((cap : Int) < ((n + m : Nat) : Int)) = true := by simp; omega
                have hd : decide (cap < n + m) = true := by simp; omega
                simp only [go_sem, Nat.reduceLeDiff, Nat.reduceAdd, reduceCtorEq, evCopy, evCopyR, lenS, cutS, evCap, evAppZ, tik115_1, bEq, Option.isNone_some, Option.isSome_none, Option.isNone_none, Int.toNat_natCast, hm1, hpq, hg, hd, Nat.sub_zero, bLt, w1, w2, w3, hpm, mn1, ctI115_eq, ovC2, slB, Nat.add_zero, Nat.zero_add]
                refine ⟨by omega, by omega, by omega, by omega, by omega, ?_⟩
                refine draw_rule (sh := fun _ => none) (fun _ _ h => by cases h) ctI115_ok 0 (by kernel_rfl) (by kernel_rfl) ?_
                intro an han
                simp only [go_sem, Nat.reduceLeDiff, Nat.reduceAdd, Nat.reduceSub, Nat.reduceBEq, evCopy, evCopyR, lenS, cutS, Option.isSome_none, Option.isNone_none, Int.toNat_natCast, w3, mn2, Nat.add_zero, Nat.zero_add, d_nil, d_cons, nxtD, refsOp, refs, refsL, mask, maskF, place, placeF, okLog, pairOk, hit, inL, slotsF, ren, nrH, nrB, List.replicate_zero, Bool.or_false, Bool.or_true, Bool.true_or, Bool.false_and, Nat.sub_self, Nat.add_zero, Nat.zero_add, Nat.reduceSub, Nat.lt_add_one]
                refine ⟨by omega, by omega, by omega, ?_⟩
                refine conv_two (by omega) fun x y hx hy => ?_
                unfold ovwC appC insA subC
                by_cases hxp : x < p
                · rw [if_neg (by omega), if_neg (by omega), if_pos hxp, if_pos hxp]
                · by_cases hxm : x < p + m
                  · rw [if_neg (by omega), if_pos (by omega), if_neg hxp, if_pos hxm]
                  · rw [if_pos (by omega), if_neg hxp, if_neg hxm]
                    congr 1
                    omega
            · obtain rfl : p = n := by omega
              have hpq : ((p : Int) == (p : Int)) = true := by simp
              by_cases hroom : p + m <= cap
              · have hd1 : decide (p + m <= cap) = true := by simpa using hroom
                simp only [go_sem, Nat.reduceLeDiff, Nat.reduceAdd, evCopy, evCopyR, lenS, cutS, evCap, evAppZ, tik115_1, bEq, Option.isNone_some, Option.isSome_none, Option.isNone_none, Int.toNat_natCast, hm1, hpq, hd1, Nat.sub_zero]
                refine ⟨by omega, by omega, ?_⟩
                refine conv_move (b := 0) rfl (by omega) (by omega) fun x y hx hy => ?_
                unfold ovwC insA
                by_cases hxp : x < p
                · rw [if_neg (by omega), if_pos hxp]
                · rw [if_pos (by omega), if_neg hxp, if_pos (by omega)]
                  congr 1
                  omega
              · have hd1 : decide (p + m <= cap) = false := by simpa using hroom
                simp only [go_sem, Nat.reduceLeDiff, Nat.reduceAdd, evCopy, evCopyR, lenS, cutS, evCap, evAppZ, tik115_1, bEq, Option.isNone_some, Option.isSome_none, Option.isNone_none, Int.toNat_natCast, hm1, hpq, hd1, Nat.sub_zero]
                refine ⟨by omega, by omega, ?_⟩
                refine conv_two (Nat.le_refl _) fun x y hx hy => ?_
                unfold appC insA subC
                by_cases hxp : x < p
                · rw [if_pos hxp, if_pos hxp]
                · rw [if_neg hxp, if_neg hxp, if_pos (by omega)]
      · cases hc
    · cases hc
  · cases hc
theorem ok115 : FnOk Try.prog 115 (insN 79 2) := insN_ok okF115
noncomputable def ct92_0t0 : Ct := tab [(113, edC body113_0)]
theorem ct92_0t0_ok : CtOk Try.prog ct92_0t0 := tab_cons ok113_0 <| tab_nil
theorem ct92_0t0_113 (l : List AV) (h : List ABlk) : ct92_0t0 113 l h = edC body113_0 l h := rfl
noncomputable def ct92_0t1 : Ct := tab [(67, pureC body67_0)]
theorem ct92_0t1_ok : CtOk Try.prog ct92_0t1 := tab_cons ok67_0 <| tab_nil
theorem ct92_0t1_67 (l : List AV) (h : List ABlk) : ct92_0t1 67 l h = pureC body67_0 l h := rfl
noncomputable def ct92_0t2 : Ct := tab [(115, insN 79 2)]
theorem ct92_0t2_ok : CtOk Try.prog ct92_0t2 := tab_cons ok115 <| tab_nil
theorem ct92_0t2_115 (l : List AV) (h : List ABlk) : ct92_0t2 115 l h = insN 79 2 l h := rfl
noncomputable def F92_0 (p0 : TRegulate) (p1 : Int) : Option (TRegulate) :=
  (F113_0 p0.Clear p0.Channel).bind fun r1 => (F67_0 p0.Blocked p0.Channel).bind fun r3 => bif (!r3.2) then (need (insb r3.1 p0.Blocked.length) <| (some [(TRegulateBlock.mk p0.Channel 0)]).bind fun w7 => (some (insL p0.Blocked r3.1 [(TRegulateBlock.mk p0.Channel 0)])).bind fun w9 => need (inb r3.1 w9.length) <| some (TRegulate.mk p0.Table p0.Channel p0.Lead p0.Heard true p0.Moving p0.To p0.At (w9.set r3.1.toNat (TRegulateBlock.mk ((gd w9 r3.1.toNat).Channel) (minI (wr .i64 (p1 + 1800000000)) 1099511627776))) r1)) else (need (inb r3.1 p0.Blocked.length) <| some (TRegulate.mk p0.Table p0.Channel p0.Lead p0.Heard true p0.Moving p0.To p0.At (p0.Blocked.set r3.1.toNat (TRegulateBlock.mk ((gd p0.Blocked r3.1.toNat).Channel) (minI (wr .i64 (p1 + 1800000000)) 1099511627776))) r1))
noncomputable def body92_0 : List AV -> List ABlk -> ED
  | [v0, v1], h => .ed [ptB v0, slN (getL (celL h v0) 0), slN (getL (celL h v0) 8), slN (getL (celL h v0) 9)] (pK 39 10 h v0 /\ k_TRegulate (getL (roWL h (celL h v0))) /\ oS 45 3 h (getL (celL h v0) 0) /\ nref (getL (celL h v0) 1) /\ nref (getL (celL h v0) 2) /\ nref (getL (celL h v0) 3) /\ nref (getL (celL h v0) 4) /\ nref (getL (celL h v0) 5) /\ nref (getL (celL h v0) 6) /\ nref (getL (celL h v0) 7) /\ oS 79 2 h (getL (celL h v0) 8) /\ oS 3 1 h (getL (celL h v0) 9) /\ iK .i64 (roD (deadL h [ptB v0, slN (getL (celL h v0) 0), slN (getL (celL h v0) 8), slN (getL (celL h v0) 9)]) v1) /\ roDOb (deadL h [ptB v0, slN (getL (celL h v0) 0), slN (getL (celL h v0) 8), slN (getL (celL h v0) 9)]) v1 /\ (F92_0 (g_TRegulate (getL (roWL h (celL h v0)))) (iA (roD (deadL h [ptB v0, slN (getL (celL h v0) 0), slN (getL (celL h v0) 8), slN (getL (celL h v0) 9)]) v1))).isSome = true) (.tup []) [.lit 39 [.sl 4 3 0 (((gt (F92_0 (g_TRegulate (getL (roWL h (celL h v0)))) (iA (roD (deadL h [ptB v0, slN (getL (celL h v0) 0), slN (getL (celL h v0) 8), slN (getL (celL h v0) 9)]) v1)))).Table).length) false, .int .i64 ((gt (F92_0 (g_TRegulate (getL (roWL h (celL h v0)))) (iA (roD (deadL h [ptB v0, slN (getL (celL h v0) 0), slN (getL (celL h v0) 8), slN (getL (celL h v0) 9)]) v1)))).Channel), .bool ((gt (F92_0 (g_TRegulate (getL (roWL h (celL h v0)))) (iA (roD (deadL h [ptB v0, slN (getL (celL h v0) 0), slN (getL (celL h v0) 8), slN (getL (celL h v0) 9)]) v1)))).Lead), .int .i64 ((gt (F92_0 (g_TRegulate (getL (roWL h (celL h v0)))) (iA (roD (deadL h [ptB v0, slN (getL (celL h v0) 0), slN (getL (celL h v0) 8), slN (getL (celL h v0) 9)]) v1)))).Heard), .bool ((gt (F92_0 (g_TRegulate (getL (roWL h (celL h v0)))) (iA (roD (deadL h [ptB v0, slN (getL (celL h v0) 0), slN (getL (celL h v0) 8), slN (getL (celL h v0) 9)]) v1)))).Stopped), .bool ((gt (F92_0 (g_TRegulate (getL (roWL h (celL h v0)))) (iA (roD (deadL h [ptB v0, slN (getL (celL h v0) 0), slN (getL (celL h v0) 8), slN (getL (celL h v0) 9)]) v1)))).Moving), .int .i64 ((gt (F92_0 (g_TRegulate (getL (roWL h (celL h v0)))) (iA (roD (deadL h [ptB v0, slN (getL (celL h v0) 0), slN (getL (celL h v0) 8), slN (getL (celL h v0) 9)]) v1)))).To), .int .i64 ((gt (F92_0 (g_TRegulate (getL (roWL h (celL h v0)))) (iA (roD (deadL h [ptB v0, slN (getL (celL h v0) 0), slN (getL (celL h v0) 8), slN (getL (celL h v0) 9)]) v1)))).At), .sl 5 2 0 (((gt (F92_0 (g_TRegulate (getL (roWL h (celL h v0)))) (iA (roD (deadL h [ptB v0, slN (getL (celL h v0) 0), slN (getL (celL h v0) 8), slN (getL (celL h v0) 9)]) v1)))).Blocked).length) false, .sl 6 1 0 (((gt (F92_0 (g_TRegulate (getL (roWL h (celL h v0)))) (iA (roD (deadL h [ptB v0, slN (getL (celL h v0) 0), slN (getL (celL h v0) 8), slN (getL (celL h v0) 9)]) v1)))).Clear).length) false], .dead, .dead, .dead, .row 45 3 (((gt (F92_0 (g_TRegulate (getL (roWL h (celL h v0)))) (iA (roD (deadL h [ptB v0, slN (getL (celL h v0) 0), slN (getL (celL h v0) 8), slN (getL (celL h v0) 9)]) v1)))).Table).length) (enR c_TRegulateChannel ((gt (F92_0 (g_TRegulate (getL (roWL h (celL h v0)))) (iA (roD (deadL h [ptB v0, slN (getL (celL h v0) 0), slN (getL (celL h v0) 8), slN (getL (celL h v0) 9)]) v1)))).Table)), .row 79 2 (((gt (F92_0 (g_TRegulate (getL (roWL h (celL h v0)))) (iA (roD (deadL h [ptB v0, slN (getL (celL h v0) 0), slN (getL (celL h v0) 8), slN (getL (celL h v0) 9)]) v1)))).Blocked).length) (enR c_TRegulateBlock ((gt (F92_0 (g_TRegulate (getL (roWL h (celL h v0)))) (iA (roD (deadL h [ptB v0, slN (getL (celL h v0) 0), slN (getL (celL h v0) 8), slN (getL (celL h v0) 9)]) v1)))).Blocked)), .row 3 1 (((gt (F92_0 (g_TRegulate (getL (roWL h (celL h v0)))) (iA (roD (deadL h [ptB v0, slN (getL (celL h v0) 0), slN (getL (celL h v0) 8), slN (getL (celL h v0) 9)]) v1)))).Clear).length) (enR c_i64 ((gt (F92_0 (g_TRegulate (getL (roWL h (celL h v0)))) (iA (roD (deadL h [ptB v0, slN (getL (celL h v0) 0), slN (getL (celL h v0) 8), slN (getL (celL h v0) 9)]) v1)))).Clear))]
  | _, _ => .fail
theorem ok92_0 : FnOk Try.prog 92 (edC body92_0) := by
  refine edit_fnV body92_0 (rs := []) Try.func92 (by kernel_rfl) rfl rfl ?_
  intro l h bs ob q0 g0 hb hob
  unfold body92_0 at hb
  split at hb
  · rename_i v0 v1
    injection hb with q1 q2 q3 q4; subst q1 q2 q3 q4
    obtain ⟨hk0_0, hk0_1, hk0_2, hk0_3, hk0_4, hk0_5, hk0_6, hk0_7, hk0_8, hk0_9, hk0_10, hk0_11, hk1_0, hk1_1, hob⟩ := hob
    obtain ⟨r, H⟩ := Option.isSome_iff_exists.1 hob
    rw [H, gt_some]
    obtain ⟨p0, hp0⟩ : ∃ p0, p0 = g_TRegulate (getL (roWL h (celL h v0))) := ⟨_, rfl⟩
    rw [← hp0] at H
    have hw0 : ∀ y, y < 10 -> WkV (getL (c_TRegulate p0) y) (roW h (getL (celL h v0) y)) /\ nref (getL (c_TRegulate p0) y) := fun y hy => by rw [hp0, ← getL_roWL]; exact w_TRegulate hk0_1 y hy
    have hk0_K := hk0_1
    unfold k_TRegulate at hk0_K
    obtain ⟨kk0_0, kk0_1, kk0_2, kk0_3, kk0_4, kk0_5, kk0_6, kk0_7, kk0_8, kk0_9⟩ := hk0_K
    obtain ⟨ev0_0, eb0_0⟩ := own_row2 (f := c_TRegulateChannel) (g := g_TRegulateChannel) (bs := [ptB v0, slN (getL (celL h v0) 0), slN (getL (celL h v0) 8), slN (getL (celL h v0) 9)]) (i := 1) (fun hr => w_TRegulateChannel hr) hk0_2 (by rw [← getL_roWL]; exact kk0_0) (L := p0.Table) (by rw [hp0, ← getL_roWL]; rfl) rfl
    obtain ⟨ev0_8, eb0_8⟩ := own_row2 (f := c_TRegulateBlock) (g := g_TRegulateBlock) (bs := [ptB v0, slN (getL (celL h v0) 0), slN (getL (celL h v0) 8), slN (getL (celL h v0) 9)]) (i := 2) (fun hr => w_TRegulateBlock hr) hk0_10 (by rw [← getL_roWL]; exact kk0_8) (L := p0.Blocked) (by rw [hp0, ← getL_roWL]; rfl) rfl
    obtain ⟨ev0_9, eb0_9⟩ := own_row2 (f := c_i64) (g := g_i64) (bs := [ptB v0, slN (getL (celL h v0) 0), slN (getL (celL h v0) 8), slN (getL (celL h v0) 9)]) (i := 3) (fun hr => w_i64 hr) hk0_11 (by rw [← getL_roWL]; exact kk0_9) (L := p0.Clear) (by rw [hp0, ← getL_roWL]; rfl) rfl
    have hw1 := iK_wk hk1_0
    obtain ⟨p1, hp_p1⟩ : ∃ p1, p1 = iA (roD (deadL h [ptB v0, slN (getL (celL h v0) 0), slN (getL (celL h v0) 8), slN (getL (celL h v0) 9)]) v1) := ⟨_, rfl⟩
    rw [← hp_p1] at H hw1
    refine ⟨[.ptr 0 0 0 0, .int .i64 p1], [.lit 39 [.sl 1 3 0 p0.Table.length false, .int .i64 p0.Channel, .bool p0.Lead, .int .i64 p0.Heard, .bool p0.Stopped, .bool p0.Moving, .int .i64 p0.To, .int .i64 p0.At, .sl 2 2 0 p0.Blocked.length false, .sl 3 1 0 p0.Clear.length false], .row 45 3 p0.Table.length (enR c_TRegulateChannel p0.Table), .row 79 2 p0.Blocked.length (enR c_TRegulateBlock p0.Blocked), .row 3 1 p0.Clear.length (enR c_i64 p0.Clear)], rfl, ⟨(EW_own (EV_pK hk0_0 rfl) (by simp only [noro])), ⟨(EW_view hk1_1 hw1), trivial⟩⟩, ⟨(EB_pK hk0_0 rfl rfl (fun y hy => by
          match y, hy with
          | 0, _ => exact ev0_0
          | 1, _ => exact EV_t hk0_3 (hw0 1 (by decide))
          | 2, _ => exact EV_t hk0_4 (hw0 2 (by decide))
          | 3, _ => exact EV_t hk0_5 (hw0 3 (by decide))
          | 4, _ => exact EV_t hk0_6 (hw0 4 (by decide))
          | 5, _ => exact EV_t hk0_7 (hw0 5 (by decide))
          | 6, _ => exact EV_t hk0_8 (hw0 6 (by decide))
          | 7, _ => exact EV_t hk0_9 (hw0 7 (by decide))
          | 8, _ => exact ev0_8
          | 9, _ => exact ev0_9
          | y + 10, hy => omega)), ⟨eb0_0, ⟨eb0_8, ⟨eb0_9, trivial⟩⟩⟩⟩, ⟨(by simp only [noroB, noroL, noro, and_self]), ⟨noroB_en, ⟨noroB_en, ⟨noroB_en, trivial⟩⟩⟩⟩, ⟨trivial, ⟨trivial, ⟨trivial, ⟨trivial, ⟨(nfB_en nr_TRegulateChannel), ⟨(nfB_en nr_TRegulateBlock), ⟨(nfB_en nr_i64), trivial⟩⟩⟩⟩⟩⟩⟩, ⟨(by simp only [noroB, noroL, noro, and_self]), ⟨trivial, ⟨trivial, ⟨trivial, ⟨noroB_en, ⟨noroB_en, ⟨noroB_en, trivial⟩⟩⟩⟩⟩⟩⟩, (by first | (simp only [noro, noroL]; done) | (simp only [noro, noroL]; and_intros <;> first | trivial | exact noro_bif (by simp only [noro]) (by simp only [noro]) | (simp only [noro, noroL, and_self]))), ?_⟩
    rw [Try.ntmps92]
    simp only [List.length_cons, List.length_nil, Nat.reduceAdd, Nat.reduceSub, List.replicate_succ, List.replicate_zero, List.cons_append, List.nil_append]
    unfold F92_0 at H
    try dsimp only at H
    refine sq ctNo_ok ?_
    simp only [go_sem, Nat.reduceAdd]
    refine sq ctNo_ok ?_
    simp only [go_sem, Nat.reduceLeDiff, Nat.reduceLT, Nat.reduceAdd]
    repeat ((with_reducible refine And.intro ?_ ?_); focus exact an4)
    refine seqM ?_
    obtain ⟨r1, e2, H⟩ := bsi H
    refine draw_ruleX [(16, [0, 1, 2], [4, 0, 1, 2])] shT_ok ct92_0t0_ok 1 (by kernel_rfl) (by kernel_rfl) ?_
    intro an han
    simp only [d_nil, d_cons, nxtD, xrD, xoD, roEq, minL, List.append_nil, refsOp, refs, refsL, mask, maskF, place, placeF, okLog, pairOk, hit, inL, slotsF, ren, rnN, nrH, nrB, nrL, nr, List.replicate_zero, List.replicate_succ, Nat.sub_self, Nat.add_zero, Nat.zero_add, Nat.reduceSub, Nat.lt_add_one, go_sem, Nat.reduceLeDiff, Nat.reduceLT, Nat.reduceAdd, Nat.reduceSub, Nat.reduceBEq, ct92_0t0_113, body113_0, e2]
    repeat ((with_reducible refine And.intro ?_ ?_); focus exact an2)
    refine sq ctNo_ok ?_
    simp only [go_sem]
    repeat ((with_reducible refine And.intro ?_ ?_); focus exact an0)
    refine seqM ?_
    obtain ⟨r3, e4, H⟩ := bsi H
    refine draw_quiet shT_ok ct92_0t1_ok (by kernel_rfl) (by kernel_rfl) ?_
    simp only [go_sem, Nat.reduceLeDiff, Nat.reduceLT, Nat.reduceAdd, ct92_0t1_67, body67_0, e4]
    repeat ((with_reducible refine And.intro ?_ ?_); focus exact an0)
    refine seqM ?_
    refine sq ctNo_ok ?_
    simp only [go_sem]
    refine condM' rfl trivial (fun hc => ?_) (fun hc => ?_)
    · have hk5 : (r3.2) = true := by simpa using hc
      replace H := cond_f hc H
      refine rg ctNo_ok ?_
      simp only [go_sem]
      obtain ⟨f12, H⟩ := need_some.1 H
      replace f12 := inb_iff.1 f12
      refine rg ctNo_ok ?_
      simp only [go_sem, Nat.reduceLeDiff, Nat.reduceLT, Nat.reduceAdd, f12]
      repeat ((with_reducible refine And.intro ?_ ?_); focus exact an4)
      obtain rfl := Option.some.inj H
      try refine And.intro trivial ?_
      refine RetE_mk [] [some 0, some 1, some 2, some 3, some 1, some 2, some 5] ?_ ?_ ?_ ?_ (by rfl) (by rfl)
      · simp only [go_sem]
        try exact at0
      · simp only [go_sem]
        try exact at0
      · simp only [go_sem]
        simp [Cv, CvL]
      · simp only [go_sem, Nat.reduceAdd, CvH]
        first | exact ⟨(by simp [CvB, CvL, Cv, blkAt, geth, getM]), CvB_dead, CvB_dead, CvB_dead, CvB_row nr_TRegulateChannel cl (fun _ _ _ _ => rfl), CvB_row nr_TRegulateBlock cl (upc_row (f := c_TRegulateBlock) p0.Blocked r3.1.toNat 1 (TRegulateBlock.mk ((gd p0.Blocked r3.1.toNat).Channel) (minI (wr .i64 (p1 + 1800000000)) 1099511627776)) (fun _ _ _ _ => rfl) (fun y hy => match y, hy with | 0, _ => rfl | 1, _ => rfl | (y+2), h => absurd h nlt)), CvB_row nr_i64 cl (fun _ _ _ _ => rfl)⟩ | trivial
    have hk5 : (r3.2) = false := by simpa using hc
    replace H := cond_t hc H
    obtain ⟨f6, H⟩ := need_some.1 H
    replace f6 := insb_iff.1 f6
    refine draw_ruleX [(48, [], [6])] shT_ok ct92_0t2_ok 2 (by kernel_rfl) (by kernel_rfl) ?_
    intro an han
    simp only [d_nil, d_cons, nxtD, xrD, xoD, roEq, minL, List.append_nil, refsOp, refs, refsL, mask, maskF, place, placeF, okLog, pairOk, hit, inL, slotsF, ren, rnN, nrH, nrB, nrL, nr, List.replicate_zero, List.replicate_succ, Nat.sub_self, Nat.add_zero, Nat.zero_add, Nat.reduceSub, Nat.lt_add_one, go_sem, Nat.reduceLeDiff, Nat.reduceLT, Nat.reduceAdd, Nat.reduceSub, Nat.reduceEqDiff, Nat.reduceBEq, ct92_0t2_115, insN, f6]
    repeat ((with_reducible refine And.intro ?_ ?_); focus exact an7)
    obtain ⟨w7, hw8, H⟩ := bsi H
    replace hw8 := Option.some.inj hw8
    have lhw8 : w7.length = 1 := by rw [← hw8]; exact cl
    obtain ⟨w9, hw10, H⟩ := bsi H
    replace hw10 := Option.some.inj hw10
    have lhw10 : w9.length = p0.Blocked.length + 1 := by rw [← hw10]; exact (ins_len f6 cl)
    refine subF_mean (t2 := (.top :: .top :: .ptr 4 0 0 0 :: .top :: .int .i64 (minI (wr .i64 (p1 + 1800000000)) 1099511627776) :: .int .i64 r3.1 :: tp 53 [])) (h2 := [.lit 39 [.sl 1 3 0 p0.Table.length false, .int .i64 p0.Channel, .bool p0.Lead, .int .i64 p0.Heard, .bool true, .bool p0.Moving, .int .i64 p0.To, .int .i64 p0.At, .sl 7 2 0 w9.length false, .sl 5 1 0 r1.length false], .row 45 3 p0.Table.length (enR c_TRegulateChannel p0.Table), .dead, .dead, .lit 101 [.ptr 0 0 0 0], .row 3 1 r1.length (enR c_i64 r1), .row 79 2 w7.length (enR c_TRegulateBlock w7), .row 79 2 w9.length (enR c_TRegulateBlock w9)]) ?_ ?_
    · refine SubF_of ⟨[some 0, some 1, some 2, some 3, some 4, some 5, some 6, some 7], ?_, ?_, by rfl, by rfl⟩
      · simp [CvL, Cv, getM, tp]
      · exact ⟨(by simp [CvB, CvL, Cv, blkAt, geth, getM, lhw10]), CvB_row nr_TRegulateChannel rfl (fun _ _ _ _ => rfl), CvB_dead, CvB_dead, (by simp [CvB, CvL, Cv, blkAt, geth, getM]), CvB_row nr_i64 rfl (fun _ _ _ _ => rfl), CvB_row nr_TRegulateBlock lhw8 (hw8 ▸ (lit_row (f := c_TRegulateBlock) [(TRegulateBlock.mk p0.Channel 0)] (fun _ _ => rfl) rfl)), CvB_row nr_TRegulateBlock lhw10 (hw10 ▸ (ins_row f6 cl (fun _ _ _ _ => rfl) (lit_row (f := c_TRegulateBlock) [(TRegulateBlock.mk p0.Channel 0)] (fun _ _ => rfl) rfl))), trivial⟩
    simp only [tp]
    obtain ⟨f11, H⟩ := need_some.1 H
    replace f11 := inb_iff.1 f11
    refine rg ctNo_ok ?_
    simp only [go_sem, Nat.reduceLeDiff, Nat.reduceLT, Nat.reduceAdd, f11]
    repeat ((with_reducible refine And.intro ?_ ?_); focus exact an4)
    obtain rfl := Option.some.inj H
    try refine And.intro trivial ?_
    refine RetE_mk [] [some 0, some 1, some 2, some 3, some 1, some 7, some 5] ?_ ?_ ?_ ?_ (by rfl) (by rfl)
    · simp only [go_sem]
      try exact at0
    · simp only [go_sem]
      try exact at0
    · simp only [go_sem]
      simp [Cv, CvL]
    · simp only [go_sem, Nat.reduceAdd, CvH]
      first | exact ⟨(by simp [CvB, CvL, Cv, blkAt, geth, getM]), CvB_dead, CvB_dead, CvB_dead, CvB_row nr_TRegulateChannel cl (fun _ _ _ _ => rfl), CvB_row nr_TRegulateBlock cl (upc_row (f := c_TRegulateBlock) w9 r3.1.toNat 1 (TRegulateBlock.mk ((gd w9 r3.1.toNat).Channel) (minI (wr .i64 (p1 + 1800000000)) 1099511627776)) (fun _ _ _ _ => rfl) (fun y hy => match y, hy with | 0, _ => rfl | 1, _ => rfl | (y+2), h => absurd h nlt)), CvB_row nr_i64 cl (fun _ _ _ _ => rfl)⟩ | trivial
  · cases hb
noncomputable def ct52_0t0 : Ct := tab [(67, pureC body67_0)]
theorem ct52_0t0_ok : CtOk Try.prog ct52_0t0 := tab_cons ok67_0 <| tab_nil
theorem ct52_0t0_67 (l : List AV) (h : List ABlk) : ct52_0t0 67 l h = pureC body67_0 l h := rfl
noncomputable def ct52_0t1 : Ct := tab [(51, pureC body51_0), (77, pureC body77)]
theorem ct52_0t1_ok : CtOk Try.prog ct52_0t1 := tab_cons ok51_0 <| tab_cons ok77 <| tab_nil
theorem ct52_0t1_51 (l : List AV) (h : List ABlk) : ct52_0t1 51 l h = pureC body51_0 l h := rfl
theorem ct52_0t1_77 (l : List AV) (h : List ABlk) : ct52_0t1 77 l h = pureC body77 l h := rfl
noncomputable def F52_0 (p0_0 : List TRegulateChannel) (p0_8 : List TRegulateBlock) (p0_9 : List Int) (p1 : Int) (p2 : Int) : Option (Bool) :=
  (F67_0 p0_8 p1).bind fun r1 => need (bif r1.2 then inb r1.1 p0_8.length else true) <| bif (r1.2 && (bLt p2 ((gd p0_8 r1.1.toNat).Until))) then (some false) else ((F51_0 p0_0 p1).bind fun r5 => need (bif (!(!r5.Radar)) then ((F77 p0_9 p1).isSome) else true) <| some ((!r5.Radar) || (gt (F77 p0_9 p1))))
noncomputable def body52_0 : List AV -> AR
  | [v0, v1, v2] => .pure (rM 10 v0 /\ lK k_TRegulateChannel 3 (rG v0 0) /\ lK k_TRegulateBlock 2 (rG v0 8) /\ lK k_i64 1 (rG v0 9) /\ iK .i64 v1 /\ iK .i64 v2 /\ (F52_0 (lA g_TRegulateChannel (rG v0 0)) (lA g_TRegulateBlock (rG v0 8)) (lA g_i64 (rG v0 9)) (iA v1) (iA v2)).isSome = true) (.bool (gt (F52_0 (lA g_TRegulateChannel (rG v0 0)) (lA g_TRegulateBlock (rG v0 8)) (lA g_i64 (rG v0 9)) (iA v1) (iA v2))))
  | _ => .fail
theorem ok52_0 : FnOk Try.prog 52 (pureC body52_0) := by
  refine pure_fnM body52_0 (rs := [.tmp 6]) Try.func52 (by kernel_rfl) rfl rfl ?_
  intro l ob v hb hob
  unfold body52_0 at hb
  split at hb
  · rename_i v0 v1 v2
    injection hb with q1 q2; subst q1 q2
    obtain ⟨hk0_0, hk0_1, hk0_2, hk0_3, hk1_0, hk2_0, hob⟩ := hob
    obtain ⟨r, H⟩ := Option.isSome_iff_exists.1 hob
    rw [H, gt_some]
    have hw0 := (rM_wk (cells := [AV.ro 3 (lA g_TRegulateChannel (rG v0 0)).length false (enR c_TRegulateChannel (lA g_TRegulateChannel (rG v0 0))), AV.top, AV.top, AV.top, AV.top, AV.top, AV.top, AV.top, AV.ro 2 (lA g_TRegulateBlock (rG v0 8)).length false (enR c_TRegulateBlock (lA g_TRegulateBlock (rG v0 8))), AV.ro 1 (lA g_i64 (rG v0 9)).length false (enR c_i64 (lA g_i64 (rG v0 9)))]) hk0_0 (fun y hy => match y, hy with | 0, _ => lK_wk (fun r h => w_TRegulateChannel h) hk0_1 | 1, _ => top_wk | 2, _ => top_wk | 3, _ => top_wk | 4, _ => top_wk | 5, _ => top_wk | 6, _ => top_wk | 7, _ => top_wk | 8, _ => lK_wk (fun r h => w_TRegulateBlock h) hk0_2 | 9, _ => lK_wk (fun r h => w_i64 h) hk0_3 | y + 10, hy => absurd hy (by omega)))
    have hw1 := iK_wk hk1_0
    have hw2 := iK_wk hk2_0
    generalize lA g_TRegulateChannel (rG v0 0) = p0_0 at H hw0
    generalize lA g_TRegulateBlock (rG v0 8) = p0_8 at H hw0
    generalize lA g_i64 (rG v0 9) = p0_9 at H hw0
    generalize iA v1 = p1 at H hw1
    generalize iA v2 = p2 at H hw2
    refine ⟨[.rptr 10 1 0 0 (fun _ y => getL [.ro 3 p0_0.length false (enR c_TRegulateChannel p0_0), .top, .top, .top, .top, .top, .top, .top, .ro 2 p0_8.length false (enR c_TRegulateBlock p0_8), .ro 1 p0_9.length false (enR c_i64 p0_9)] y), .int .i64 p1, .int .i64 p2], _, (fun E vs F => FR_wk1 hw0.1 F (fun vs F => FR_wk1 hw1.1 F (fun vs F => FR_wk1 hw2.1 F (fun vs F => F)))), rfl, rfl, ?_⟩
    rw [Try.ntmps52]
    simp only [List.length_cons, List.length_nil, Nat.reduceAdd, Nat.reduceSub, List.replicate_succ, List.replicate_zero, List.cons_append, List.nil_append]
    unfold F52_0 at H
    try dsimp only at H
    refine sq ctNo_ok ?_
    simp only [go_sem]
    refine seqM ?_
    refine seqM ?_
    obtain ⟨r1, e2, H⟩ := bsi H
    refine rg ct52_0t0_ok ?_
    simp only [go_sem, Nat.reduceLeDiff, Nat.reduceLT, Nat.reduceAdd, ct52_0t0_67, body67_0, e2]
    repeat ((with_reducible refine And.intro ?_ ?_); focus exact an3)
    refine seqM ?_
    obtain ⟨f3, H⟩ := need_some.1 H
    replace f3 := g_iff.1 f3
    replace f3 := fun g => inb_iff.1 (f3 g)
    refine rg ctNo_ok ?_
    simp only [go_sem, Nat.reduceLeDiff, Nat.reduceLT, Nat.reduceAdd]
    repeat ((with_reducible refine And.intro ?_ ?_); focus (first | (with_reducible trivial) | omega | exact f3 | (intro g; have q := f3 (by first | exact g | (rw [g]; rfl) | simpa using g); first | exact q | exact ⟨q.1, q.2.1⟩ | exact q.2.2 | omega | exact ⟨g, q⟩ | exact ⟨trivial, q⟩ | exact ⟨g, q.1, q.2.1⟩ | exact ⟨g, q.2.2⟩) | grind))
    refine condM rfl trivial (fun hc => ?_) (fun hc => ?_)
    · have hk4 : (r1.2 && (bLt p2 ((gd p0_8 r1.1.toNat).Until))) = true := by first | simpa using hc | simpa only [Bool.not_eq_true', Bool.not_eq_false'] using hc
      replace H := cond_t hc H
      refine sq ctNo_ok ?_
      simp only [go_sem]
      refine rg ctNo_ok ?_
      simp only [go_sem]
      obtain rfl := Option.some.inj H
      first | rfl | simp only [Bool.and_false, Bool.false_and, Bool.and_true, Bool.true_and] | exact congrArg AV.bool (Eq.symm (by assumption))
    have hk4 : (r1.2 && (bLt p2 ((gd p0_8 r1.1.toNat).Until))) = false := by first | simpa using hc | simpa only [Bool.not_eq_true', Bool.not_eq_false'] using hc
    replace H := cond_f hc H
    refine rg ctNo_ok ?_
    simp only [go_sem]
    refine seqM ?_
    obtain ⟨r5, e6, H⟩ := bsi H
    obtain ⟨f7, H⟩ := need_some.1 H
    replace f7 := g_iff.1 f7
    refine rg ct52_0t1_ok ?_
    simp only [go_sem, Nat.reduceLT, Nat.reduceAdd, ct52_0t1_51, body51_0, ct52_0t1_77, body77, e6]
    repeat ((with_reducible refine And.intro ?_ ?_); focus (first | (with_reducible trivial) | omega | exact f7 | (intro g; have q := f7 (by first | exact g | (rw [g]; rfl) | simpa using g); first | exact q | exact ⟨q.1, q.2.1⟩ | exact q.2.2 | omega | exact ⟨g, q⟩ | exact ⟨trivial, q⟩ | exact ⟨g, q.1, q.2.1⟩ | exact ⟨g, q.2.2⟩) | (intro g; (try have q0 := f7 (by first | exact g | (rw [g]; rfl) | simpa using g)); and_intros <;> first | (with_reducible trivial) | assumption | exact nfc | (intro g2; rw [g, g2]; rfl) | (intro g2; assumption) | (simp only [g, Bool.true_and, Bool.and_true, Bool.not_false, Bool.not_true]; assumption) | grind) | (and_intros <;> first | (with_reducible trivial) | omega | assumption | exact nfc | first | exact rfl | exact trivial | exact fitI | exact .inr rfl | exact .inl rfl | exact fun x hx => absurd hx (by omega) | (intro x hx; (repeat (first | (and_intros <;> (first | exact rfl | exact trivial | exact fitI | exact .inr rfl | exact .inl rfl | exact fun x hx => absurd hx (by omega))) | (exfalso; omega) | (rcases x with _ | x))); done)) | grind))
    refine rg ctNo_ok ?_
    simp only [go_sem]
    obtain rfl := Option.some.inj H
    first | rfl | simp only [Bool.and_false, Bool.false_and, Bool.and_true, Bool.true_and] | exact congrArg AV.bool (Eq.symm (by assumption))
  · cases hb
noncomputable def ct53_0t0 : Ct := tab [(52, pureC body52_0)]
theorem ct53_0t0_ok : CtOk Try.prog ct53_0t0 := tab_cons ok52_0 <| tab_nil
theorem ct53_0t0_52 (l : List AV) (h : List ABlk) : ct53_0t0 52 l h = pureC body52_0 l h := rfl
noncomputable def F53_0_L1 (p0_0 : List TRegulateChannel) (p0_1 : Int) (p0_8 : List TRegulateBlock) (p0_9 : List Int) (p1 : Int) (v1_1 : List Int) (v1_2 : Int) : Option (Lp ((List Int) × Int) ((List Int) ⊕ (List Int))) :=
  bif (bLt v1_2 (p0_0.length : Nat)) then (need (inb v1_2 p0_0.length) <| need (bif (!bEq ((gd p0_0 v1_2.toNat).Number) p0_1) then ((F52_0 p0_0 p0_8 p0_9 ((gd p0_0 v1_2.toNat).Number) p1).isSome) else true) <| bif ((!bEq ((gd p0_0 v1_2.toNat).Number) p0_1) && (gt (F52_0 p0_0 p0_8 p0_9 ((gd p0_0 v1_2.toNat).Number) p1))) then (need (capb 8 (v1_1.length + 1)) <| some (.next ((v1_1 ++ [(gd p0_0 v1_2.toNat).Number]), wr .i64 (v1_2 + 1)))) else (some (.next (v1_1, wr .i64 (v1_2 + 1))))) else (some (.done (.inl v1_1)))
noncomputable def F53_0 (p0_0 : List TRegulateChannel) (p0_1 : Int) (p0_8 : List TRegulateBlock) (p0_9 : List Int) (p1 : Int) : Option (List Int) :=
  lp (loopD (fun s => F53_0_L1 p0_0 p0_1 p0_8 p0_9 p1 s.1 s.2) ([], 0)) (fun w1_3 => some w1_3) some
noncomputable def body53_0 : List AV -> List ABlk -> ED
  | [v0, v1], h => .ed [] (rM 10 (roD (deadL h []) v0) /\ lK k_TRegulateChannel 3 (rG (roD (deadL h []) v0) 0) /\ iK .i64 (rG (roD (deadL h []) v0) 1) /\ lK k_TRegulateBlock 2 (rG (roD (deadL h []) v0) 8) /\ lK k_i64 1 (rG (roD (deadL h []) v0) 9) /\ roDOb (deadL h []) v0 /\ iK .i64 (roD (deadL h []) v1) /\ roDOb (deadL h []) v1 /\ (F53_0 (lA g_TRegulateChannel (rG (roD (deadL h []) v0) 0)) (iA (rG (roD (deadL h []) v0) 1)) (lA g_TRegulateBlock (rG (roD (deadL h []) v0) 8)) (lA g_i64 (rG (roD (deadL h []) v0) 9)) (iA (roD (deadL h []) v1))).isSome = true) (.sl 0 1 0 ((gt (F53_0 (lA g_TRegulateChannel (rG (roD (deadL h []) v0) 0)) (iA (rG (roD (deadL h []) v0) 1)) (lA g_TRegulateBlock (rG (roD (deadL h []) v0) 8)) (lA g_i64 (rG (roD (deadL h []) v0) 9)) (iA (roD (deadL h []) v1)))).length) false) [.row 3 1 ((gt (F53_0 (lA g_TRegulateChannel (rG (roD (deadL h []) v0) 0)) (iA (rG (roD (deadL h []) v0) 1)) (lA g_TRegulateBlock (rG (roD (deadL h []) v0) 8)) (lA g_i64 (rG (roD (deadL h []) v0) 9)) (iA (roD (deadL h []) v1)))).length) (enR c_i64 (gt (F53_0 (lA g_TRegulateChannel (rG (roD (deadL h []) v0) 0)) (iA (rG (roD (deadL h []) v0) 1)) (lA g_TRegulateBlock (rG (roD (deadL h []) v0) 8)) (lA g_i64 (rG (roD (deadL h []) v0) 9)) (iA (roD (deadL h []) v1)))))]
  | _, _ => .fail
theorem ok53_0 : FnOk Try.prog 53 (edC body53_0) := by
  refine edit_fnV body53_0 (rs := [.tmp 4]) Try.func53 (by kernel_rfl) rfl rfl ?_
  intro l h bs ob q0 g0 hb hob
  unfold body53_0 at hb
  split at hb
  · rename_i v0 v1
    injection hb with q1 q2 q3 q4; subst q1 q2 q3 q4
    obtain ⟨hk0_0, hk0_1, hk0_2, hk0_3, hk0_4, hk0_5, hk1_0, hk1_1, hob⟩ := hob
    obtain ⟨r, H⟩ := Option.isSome_iff_exists.1 hob
    rw [H, gt_some]
    have hw0 := (rM_wk (cells := [AV.ro 3 (lA g_TRegulateChannel (rG (roD (deadL h []) v0) 0)).length false (enR c_TRegulateChannel (lA g_TRegulateChannel (rG (roD (deadL h []) v0) 0))), AV.int .i64 (iA (rG (roD (deadL h []) v0) 1)), AV.top, AV.top, AV.top, AV.top, AV.top, AV.top, AV.ro 2 (lA g_TRegulateBlock (rG (roD (deadL h []) v0) 8)).length false (enR c_TRegulateBlock (lA g_TRegulateBlock (rG (roD (deadL h []) v0) 8))), AV.ro 1 (lA g_i64 (rG (roD (deadL h []) v0) 9)).length false (enR c_i64 (lA g_i64 (rG (roD (deadL h []) v0) 9)))]) hk0_0 (fun y hy => match y, hy with | 0, _ => lK_wk (fun r h => w_TRegulateChannel h) hk0_1 | 1, _ => iK_wk hk0_2 | 2, _ => top_wk | 3, _ => top_wk | 4, _ => top_wk | 5, _ => top_wk | 6, _ => top_wk | 7, _ => top_wk | 8, _ => lK_wk (fun r h => w_TRegulateBlock h) hk0_3 | 9, _ => lK_wk (fun r h => w_i64 h) hk0_4 | y + 10, hy => absurd hy (by omega)))
    obtain ⟨p0_0, hp_p0_0⟩ : ∃ p0_0, p0_0 = lA g_TRegulateChannel (rG (roD (deadL h []) v0) 0) := ⟨_, rfl⟩
    rw [← hp_p0_0] at H hw0
    obtain ⟨p0_1, hp_p0_1⟩ : ∃ p0_1, p0_1 = iA (rG (roD (deadL h []) v0) 1) := ⟨_, rfl⟩
    rw [← hp_p0_1] at H hw0
    obtain ⟨p0_8, hp_p0_8⟩ : ∃ p0_8, p0_8 = lA g_TRegulateBlock (rG (roD (deadL h []) v0) 8) := ⟨_, rfl⟩
    rw [← hp_p0_8] at H hw0
    obtain ⟨p0_9, hp_p0_9⟩ : ∃ p0_9, p0_9 = lA g_i64 (rG (roD (deadL h []) v0) 9) := ⟨_, rfl⟩
    rw [← hp_p0_9] at H hw0
    have hw1 := iK_wk hk1_0
    obtain ⟨p1, hp_p1⟩ : ∃ p1, p1 = iA (roD (deadL h []) v1) := ⟨_, rfl⟩
    rw [← hp_p1] at H hw1
    refine ⟨[.rptr 10 1 0 0 (fun _ y => getL [.ro 3 p0_0.length false (enR c_TRegulateChannel p0_0), .int .i64 p0_1, .top, .top, .top, .top, .top, .top, .ro 2 p0_8.length false (enR c_TRegulateBlock p0_8), .ro 1 p0_9.length false (enR c_i64 p0_9)] y), .int .i64 p1], [], rfl, ⟨(EW_view hk0_5 hw0), ⟨(EW_view hk1_1 hw1), trivial⟩⟩, trivial, trivial, ⟨(nfB_en nr_i64), trivial⟩, ⟨noroB_en, trivial⟩, (by first | (simp only [noro]; done) | (simp only [noro, noroL]; and_intros <;> first | trivial | exact noro_bif (by simp only [noro]) (by simp only [noro]) | (simp only [noro, noroL, and_self]))), ?_⟩
    rw [Try.ntmps53]
    simp only [List.length_cons, List.length_nil, Nat.reduceAdd, Nat.reduceSub, List.replicate_succ, List.replicate_zero, List.cons_append, List.nil_append]
    unfold F53_0 at H
    try dsimp only at H
    refine sq ctNo_ok ?_
    simp only [go_sem]
    refine sq ctNo_ok ?_
    simp only [go_sem]
    refine seqM ?_
    refine sq ctNo_ok ?_
    simp only [go_sem, Nat.reduceLeDiff, Nat.reduceLT]
    repeat ((with_reducible refine And.intro ?_ ?_); focus exact an3)
    refine blkM ?_
    refine loop_den (fun s : (List Int) × Int => (.rptr 10 1 0 0 (fun _ y => getL [.ro 3 p0_0.length false (enR c_TRegulateChannel p0_0), .int .i64 p0_1, .top, .top, .top, .top, .top, .top, .ro 2 p0_8.length false (enR c_TRegulateBlock p0_8), .ro 1 p0_9.length false (enR c_i64 p0_9)] y) :: .int .i64 p1 :: .top :: .top :: .top :: .sl 0 1 0 s.1.length false :: tp 5 (.ro 3 p0_0.length false (enR c_TRegulateChannel p0_0) :: .int .i64 (p0_0.length : Nat) :: .int .i64 s.2 :: tp 24 []))) (fun s => [.row 3 1 s.1.length (enR c_i64 s.1)]) (fun e : List Int => (tp 5 (.sl 0 1 0 e.length false :: tp 32 []))) (fun e => [.row 3 1 e.length (enR c_i64 e)]) H ?_ (fun s o H hn1_1 hn2_1 => ?_) (fun w1_3 H => ?_)
    · refine SubF_of ⟨[none], ?_, ?_, by rfl, by rfl⟩
      · simp [CvL, Cv, tp]
      · exact ⟨CvB_none, trivial⟩
    · obtain ⟨v1_1, v1_2⟩ := s
      unfold F53_0_L1 at H
      try dsimp only at H ⊢
      try simp only [tp]
      refine sq ctNo_ok ?_
      simp only [go_sem]
      refine seqM ?_
      refine condM' rfl trivial (fun hc => ?_) (fun hc => ?_)
      · have hk1 : (bLt v1_2 (p0_0.length : Nat)) = false := by simpa using hc
        replace H := cond_f hc H
        refine rg ctNo_ok ?_
        simp only [go_sem]
        refine ⟨_, (Option.some.inj H).symm, ?_⟩
        refine SubF_of ⟨[some 0], ?_, ?_, by rfl, by rfl⟩
        · simp [CvL, Cv, getM]
        · exact ⟨CvB_row nr_i64 cl (fun _ _ _ _ => rfl), trivial⟩
      have hk1 : (bLt v1_2 (p0_0.length : Nat)) = true := by simpa using hc
      replace H := cond_t hc H
      refine rg ctNo_ok ?_
      simp only [go_sem]
      refine seqM ?_
      refine blkM ?_
      refine seqM ?_
      obtain ⟨f2, H⟩ := need_some.1 H
      replace f2 := inb_iff.1 f2
      refine rg ctNo_ok ?_
      simp only [go_sem, Nat.reduceLT, Nat.reduceAdd, f2]
      repeat ((with_reducible refine And.intro ?_ ?_); focus exact an4)
      refine seqM ?_
      obtain ⟨f3, H⟩ := need_some.1 H
      replace f3 := g_iff.1 f3
      refine draw_quiet shT_ok ct53_0t0_ok (by kernel_rfl) (by kernel_rfl) ?_
      simp only [go_sem, Nat.reduceLeDiff, Nat.reduceLT, Nat.reduceAdd, ct53_0t0_52, body52_0]
      repeat ((with_reducible refine And.intro ?_ ?_); focus (first | (with_reducible trivial) | omega | exact f3 | (intro g; have q := f3 (by first | exact g | (rw [g]; rfl) | simpa using g); first | exact q | exact ⟨q.1, q.2.1⟩ | exact q.2.2 | omega | exact ⟨g, q⟩ | exact ⟨trivial, q⟩ | exact ⟨g, q.1, q.2.1⟩ | exact ⟨g, q.2.2⟩) | (intro g; (try have q0 := f3 (by first | exact g | (rw [g]; rfl) | simpa using g)); and_intros <;> first | (with_reducible trivial) | assumption | exact nfc | (intro g2; rw [g, g2]; rfl) | (intro g2; assumption) | (simp only [g, Bool.true_and, Bool.and_true, Bool.not_false, Bool.not_true]; assumption) | grind) | (and_intros <;> first | (with_reducible trivial) | omega | assumption | exact nfc | first | exact rfl | exact trivial | exact fitI | exact .inr rfl | exact .inl rfl | exact fun x hx => absurd hx (by omega) | (intro x hx; (repeat (first | (and_intros <;> (first | exact rfl | exact trivial | exact fitI | exact .inr rfl | exact .inl rfl | exact fun x hx => absurd hx (by omega))) | (exfalso; omega) | (rcases x with _ | x))); done)) | grind))
      refine condM' rfl trivial (fun hc => ?_) (fun hc => ?_)
      · have hk4 : ((!bEq ((gd p0_0 v1_2.toNat).Number) p0_1) && (gt (F52_0 p0_0 p0_8 p0_9 ((gd p0_0 v1_2.toNat).Number) p1))) = false := by first | simpa using hc | simpa only [Bool.not_eq_true', Bool.not_eq_false'] using hc
        replace H := cond_f hc H
        refine rg ctNo_ok ?_
        simp only [go_sem]
        refine rg ctNo_ok ?_
        simp only [go_sem]
        refine ⟨_, (Option.some.inj H).symm, ?_⟩
        refine SubF_of ⟨[some 0], ?_, ?_, by rfl, by rfl⟩
        · simp [CvL, Cv, getM]
        · exact ⟨CvB_row nr_i64 cl (fun _ _ _ _ => rfl), trivial⟩
      have hk4 : ((!bEq ((gd p0_0 v1_2.toNat).Number) p0_1) && (gt (F52_0 p0_0 p0_8 p0_9 ((gd p0_0 v1_2.toNat).Number) p1))) = true := by first | simpa using hc | simpa only [Bool.not_eq_true', Bool.not_eq_false'] using hc
      replace H := cond_t hc H
      obtain ⟨f5, H⟩ := need_some.1 H
      replace f5 := capb_iff.1 f5
      refine rg ctNo_ok ?_
      simp only [go_sem, Nat.reduceLeDiff, Nat.reduceLT, Nat.reduceAdd, Nat.reduceBEq, f5]
      repeat ((with_reducible refine And.intro ?_ ?_); focus exact an5)
      refine rg ctNo_ok ?_
      simp only [go_sem]
      refine ⟨_, (Option.some.inj H).symm, ?_⟩
      refine SubF_of ⟨[some 3], ?_, ?_, by rfl, by rfl⟩
      · simp [CvL, Cv, getM]
      · exact ⟨CvB_row nr_i64 cl (app_row (f := c_i64) v1_1 [(gd p0_0 v1_2.toNat).Number] (fun _ _ _ _ => rfl) (lit_row (f := c_i64) [(gd p0_0 v1_2.toNat).Number] (fun _ _ => rfl) rfl)), trivial⟩
    · try dsimp only at H ⊢
      try simp only [tp]
      try simp only [m_normal]
      refine sq ctNo_ok ?_
      simp only [go_sem]
      refine rg ctNo_ok ?_
      simp only [go_sem]
      obtain rfl := Option.some.inj H
      refine RetE_mk [] [some 0] ?_ ?_ ?_ ?_ (by rfl) (by rfl)
      · simp only [go_sem]
        try exact at0
      · simp only [go_sem]
        try exact at0
      · simp only [go_sem]
        exact (by first | (simp [Cv, getM]; done) | (simp [Cv, CvL, getM, gt_some]; omega))
      · simp only [go_sem, CvH]
        exact CvB_row nr_i64 cl (fun _ _ _ _ => rfl)
  · cases hb
noncomputable def F57_0 (p0_1 : Int) (p0_6 : Int) (p0_7 : Int) : Option (List TRegulateWord) :=
  some [(TRegulateWord.mk 1 p0_1 p0_6 p0_7)]
noncomputable def body57_0 : List AV -> List ABlk -> ED
  | [v0], h => .ed [] (rM 10 (roD (deadL h []) v0) /\ iK .i64 (rG (roD (deadL h []) v0) 1) /\ iK .i64 (rG (roD (deadL h []) v0) 6) /\ iK .i64 (rG (roD (deadL h []) v0) 7) /\ roDOb (deadL h []) v0 /\ (F57_0 (iA (rG (roD (deadL h []) v0) 1)) (iA (rG (roD (deadL h []) v0) 6)) (iA (rG (roD (deadL h []) v0) 7))).isSome = true) (.sl 0 4 0 ((gt (F57_0 (iA (rG (roD (deadL h []) v0) 1)) (iA (rG (roD (deadL h []) v0) 6)) (iA (rG (roD (deadL h []) v0) 7)))).length) false) [.row 23 4 ((gt (F57_0 (iA (rG (roD (deadL h []) v0) 1)) (iA (rG (roD (deadL h []) v0) 6)) (iA (rG (roD (deadL h []) v0) 7)))).length) (enR c_TRegulateWord (gt (F57_0 (iA (rG (roD (deadL h []) v0) 1)) (iA (rG (roD (deadL h []) v0) 6)) (iA (rG (roD (deadL h []) v0) 7)))))]
  | _, _ => .fail
theorem ok57_0 : FnOk Try.prog 57 (edC body57_0) := by
  refine edit_fnV body57_0 (rs := [.tmp 2]) Try.func57 (by kernel_rfl) rfl rfl ?_
  intro l h bs ob q0 g0 hb hob
  unfold body57_0 at hb
  split at hb
  · rename_i v0
    injection hb with q1 q2 q3 q4; subst q1 q2 q3 q4
    obtain ⟨hk0_0, hk0_1, hk0_2, hk0_3, hk0_4, hob⟩ := hob
    obtain ⟨r, H⟩ := Option.isSome_iff_exists.1 hob
    rw [H, gt_some]
    have hw0 := (rM_wk (cells := [AV.top, AV.int .i64 (iA (rG (roD (deadL h []) v0) 1)), AV.top, AV.top, AV.top, AV.top, AV.int .i64 (iA (rG (roD (deadL h []) v0) 6)), AV.int .i64 (iA (rG (roD (deadL h []) v0) 7)), AV.top, AV.top]) hk0_0 (fun y hy => match y, hy with | 0, _ => top_wk | 1, _ => iK_wk hk0_1 | 2, _ => top_wk | 3, _ => top_wk | 4, _ => top_wk | 5, _ => top_wk | 6, _ => iK_wk hk0_2 | 7, _ => iK_wk hk0_3 | 8, _ => top_wk | 9, _ => top_wk | y + 10, hy => absurd hy (by omega)))
    obtain ⟨p0_1, hp_p0_1⟩ : ∃ p0_1, p0_1 = iA (rG (roD (deadL h []) v0) 1) := ⟨_, rfl⟩
    rw [← hp_p0_1] at H hw0
    obtain ⟨p0_6, hp_p0_6⟩ : ∃ p0_6, p0_6 = iA (rG (roD (deadL h []) v0) 6) := ⟨_, rfl⟩
    rw [← hp_p0_6] at H hw0
    obtain ⟨p0_7, hp_p0_7⟩ : ∃ p0_7, p0_7 = iA (rG (roD (deadL h []) v0) 7) := ⟨_, rfl⟩
    rw [← hp_p0_7] at H hw0
    refine ⟨[.rptr 10 1 0 0 (fun _ y => getL [.top, .int .i64 p0_1, .top, .top, .top, .top, .int .i64 p0_6, .int .i64 p0_7, .top, .top] y)], [], rfl, ⟨(EW_view hk0_4 hw0), trivial⟩, trivial, trivial, ⟨(nfB_en nr_TRegulateWord), trivial⟩, ⟨noroB_en, trivial⟩, (by first | (simp only [noro]; done) | (simp only [noro, noroL]; and_intros <;> first | trivial | exact noro_bif (by simp only [noro]) (by simp only [noro]) | (simp only [noro, noroL, and_self]))), ?_⟩
    rw [Try.ntmps57]
    simp only [List.length_cons, List.length_nil, Nat.reduceAdd, Nat.reduceSub, List.replicate_succ, List.replicate_zero, List.cons_append, List.nil_append]
    unfold F57_0 at H
    try dsimp only at H
    refine sq ctNo_ok ?_
    simp only [go_sem]
    refine seqM ?_
    refine draw_rule shT_ok ctNo_ok 1 (by kernel_rfl) (by kernel_rfl) ?_
    intro an han
    simp only [d_nil, d_cons, nxtD, xrD, xoD, roEq, minL, List.append_nil, refsOp, refs, mask, maskF, place, placeF, okLog, pairOk, hit, inL, slotsF, ren, rnN, nrH, nrB, List.replicate_zero, List.replicate_succ, Nat.sub_self, Nat.add_zero, Nat.zero_add, Nat.reduceSub, Nat.zero_le, Nat.lt_add_one, go_sem, Nat.reduceLeDiff, Nat.reduceLT, Nat.reduceAdd, Nat.reduceSub]
    repeat ((with_reducible refine And.intro ?_ ?_); focus exact an7)
    refine rg ctNo_ok ?_
    simp only [go_sem]
    obtain rfl := Option.some.inj H
    refine RetE_mk [] [some 0] ?_ ?_ ?_ ?_ (by rfl) (by rfl)
    · simp only [go_sem]
      try exact at0
    · simp only [go_sem]
      try exact at0
    · simp only [go_sem]
      exact (by first | (simp [Cv, getM]; done) | (simp [Cv, CvL, getM, gt_some]; omega))
    · simp only [go_sem, CvH]
      exact CvB_row nr_TRegulateWord cl (lit_row (f := c_TRegulateWord) [(TRegulateWord.mk 1 p0_1 p0_6 p0_7)] (fun _ _ => rfl) rfl)
  · cases hb
noncomputable def ct54_0t0 : Ct := tab [(92, edC body92_0)]
theorem ct54_0t0_ok : CtOk Try.prog ct54_0t0 := tab_cons ok92_0 <| tab_nil
theorem ct54_0t0_92 (l : List AV) (h : List ABlk) : ct54_0t0 92 l h = edC body92_0 l h := rfl
noncomputable def ct54_0t1 : Ct := tab [(53, edC body53_0)]
theorem ct54_0t1_ok : CtOk Try.prog ct54_0t1 := tab_cons ok53_0 <| tab_nil
theorem ct54_0t1_53 (l : List AV) (h : List ABlk) : ct54_0t1 53 l h = edC body53_0 l h := rfl
noncomputable def ct54_0t2 : Ct := tab [(57, edC body57_0)]
theorem ct54_0t2_ok : CtOk Try.prog ct54_0t2 := tab_cons ok57_0 <| tab_nil
theorem ct54_0t2_57 (l : List AV) (h : List ABlk) : ct54_0t2 57 l h = edC body57_0 l h := rfl
noncomputable def F54_0 (p0 : TRegulate) (p1 : Int) (p2 : Int) : Option ((List TRegulateWord) × TRegulate) :=
  (F92_0 (TRegulate.mk p0.Table p0.Channel p0.Lead p0.Heard p0.Stopped p0.Moving p0.To p0.At p0.Blocked p0.Clear) p2).bind fun r1 => bif (!r1.Lead) then (some ([(TRegulateWord.mk 2 r1.Channel 0 0)], (TRegulate.mk r1.Table r1.Channel r1.Lead r1.Heard r1.Stopped r1.Moving r1.To r1.At r1.Blocked r1.Clear))) else ((F53_0 r1.Table r1.Channel r1.Blocked r1.Clear p2).bind fun r4 => bif (bEq (r4.length : Nat) 0) then (some ([], (TRegulate.mk r1.Table r1.Channel r1.Lead r1.Heard r1.Stopped r1.Moving r1.To r1.At r1.Blocked r1.Clear))) else (need (!(bEq (r4.length : Nat) 0)) <| need (inb (p1.tmod (r4.length : Nat)) r4.length) <| (F57_0 r1.Channel (gd r4 ((p1.tmod (r4.length : Nat)).toNat)) (minI (wr .i64 (p2 + 150000)) 1099511627776)).bind fun r9 => some (r9, (TRegulate.mk r1.Table r1.Channel r1.Lead r1.Heard r1.Stopped true (gd r4 ((p1.tmod (r4.length : Nat)).toNat)) (minI (wr .i64 (p2 + 150000)) 1099511627776) r1.Blocked r1.Clear))))
noncomputable def body54_0 : List AV -> List ABlk -> ED
  | [v0, v1, v2], h => .ed [ptB v0, slN (getL (celL h v0) 0), slN (getL (celL h v0) 8), slN (getL (celL h v0) 9)] (pK 39 10 h v0 /\ k_TRegulate (getL (roWL h (celL h v0))) /\ oS 45 3 h (getL (celL h v0) 0) /\ nref (getL (celL h v0) 1) /\ nref (getL (celL h v0) 2) /\ nref (getL (celL h v0) 3) /\ nref (getL (celL h v0) 4) /\ nref (getL (celL h v0) 5) /\ nref (getL (celL h v0) 6) /\ nref (getL (celL h v0) 7) /\ oS 79 2 h (getL (celL h v0) 8) /\ oS 3 1 h (getL (celL h v0) 9) /\ iK .i64 (roD (deadL h [ptB v0, slN (getL (celL h v0) 0), slN (getL (celL h v0) 8), slN (getL (celL h v0) 9)]) v1) /\ roDOb (deadL h [ptB v0, slN (getL (celL h v0) 0), slN (getL (celL h v0) 8), slN (getL (celL h v0) 9)]) v1 /\ iK .i64 (roD (deadL h [ptB v0, slN (getL (celL h v0) 0), slN (getL (celL h v0) 8), slN (getL (celL h v0) 9)]) v2) /\ roDOb (deadL h [ptB v0, slN (getL (celL h v0) 0), slN (getL (celL h v0) 8), slN (getL (celL h v0) 9)]) v2 /\ (F54_0 (g_TRegulate (getL (roWL h (celL h v0)))) (iA (roD (deadL h [ptB v0, slN (getL (celL h v0) 0), slN (getL (celL h v0) 8), slN (getL (celL h v0) 9)]) v1)) (iA (roD (deadL h [ptB v0, slN (getL (celL h v0) 0), slN (getL (celL h v0) 8), slN (getL (celL h v0) 9)]) v2))).isSome = true) (.sl 7 4 0 (((gt (F54_0 (g_TRegulate (getL (roWL h (celL h v0)))) (iA (roD (deadL h [ptB v0, slN (getL (celL h v0) 0), slN (getL (celL h v0) 8), slN (getL (celL h v0) 9)]) v1)) (iA (roD (deadL h [ptB v0, slN (getL (celL h v0) 0), slN (getL (celL h v0) 8), slN (getL (celL h v0) 9)]) v2)))).1).length) false) [.lit 39 [.sl 4 3 0 ((((gt (F54_0 (g_TRegulate (getL (roWL h (celL h v0)))) (iA (roD (deadL h [ptB v0, slN (getL (celL h v0) 0), slN (getL (celL h v0) 8), slN (getL (celL h v0) 9)]) v1)) (iA (roD (deadL h [ptB v0, slN (getL (celL h v0) 0), slN (getL (celL h v0) 8), slN (getL (celL h v0) 9)]) v2)))).2).Table).length) false, .int .i64 (((gt (F54_0 (g_TRegulate (getL (roWL h (celL h v0)))) (iA (roD (deadL h [ptB v0, slN (getL (celL h v0) 0), slN (getL (celL h v0) 8), slN (getL (celL h v0) 9)]) v1)) (iA (roD (deadL h [ptB v0, slN (getL (celL h v0) 0), slN (getL (celL h v0) 8), slN (getL (celL h v0) 9)]) v2)))).2).Channel), .bool (((gt (F54_0 (g_TRegulate (getL (roWL h (celL h v0)))) (iA (roD (deadL h [ptB v0, slN (getL (celL h v0) 0), slN (getL (celL h v0) 8), slN (getL (celL h v0) 9)]) v1)) (iA (roD (deadL h [ptB v0, slN (getL (celL h v0) 0), slN (getL (celL h v0) 8), slN (getL (celL h v0) 9)]) v2)))).2).Lead), .int .i64 (((gt (F54_0 (g_TRegulate (getL (roWL h (celL h v0)))) (iA (roD (deadL h [ptB v0, slN (getL (celL h v0) 0), slN (getL (celL h v0) 8), slN (getL (celL h v0) 9)]) v1)) (iA (roD (deadL h [ptB v0, slN (getL (celL h v0) 0), slN (getL (celL h v0) 8), slN (getL (celL h v0) 9)]) v2)))).2).Heard), .bool (((gt (F54_0 (g_TRegulate (getL (roWL h (celL h v0)))) (iA (roD (deadL h [ptB v0, slN (getL (celL h v0) 0), slN (getL (celL h v0) 8), slN (getL (celL h v0) 9)]) v1)) (iA (roD (deadL h [ptB v0, slN (getL (celL h v0) 0), slN (getL (celL h v0) 8), slN (getL (celL h v0) 9)]) v2)))).2).Stopped), .bool (((gt (F54_0 (g_TRegulate (getL (roWL h (celL h v0)))) (iA (roD (deadL h [ptB v0, slN (getL (celL h v0) 0), slN (getL (celL h v0) 8), slN (getL (celL h v0) 9)]) v1)) (iA (roD (deadL h [ptB v0, slN (getL (celL h v0) 0), slN (getL (celL h v0) 8), slN (getL (celL h v0) 9)]) v2)))).2).Moving), .int .i64 (((gt (F54_0 (g_TRegulate (getL (roWL h (celL h v0)))) (iA (roD (deadL h [ptB v0, slN (getL (celL h v0) 0), slN (getL (celL h v0) 8), slN (getL (celL h v0) 9)]) v1)) (iA (roD (deadL h [ptB v0, slN (getL (celL h v0) 0), slN (getL (celL h v0) 8), slN (getL (celL h v0) 9)]) v2)))).2).To), .int .i64 (((gt (F54_0 (g_TRegulate (getL (roWL h (celL h v0)))) (iA (roD (deadL h [ptB v0, slN (getL (celL h v0) 0), slN (getL (celL h v0) 8), slN (getL (celL h v0) 9)]) v1)) (iA (roD (deadL h [ptB v0, slN (getL (celL h v0) 0), slN (getL (celL h v0) 8), slN (getL (celL h v0) 9)]) v2)))).2).At), .sl 5 2 0 ((((gt (F54_0 (g_TRegulate (getL (roWL h (celL h v0)))) (iA (roD (deadL h [ptB v0, slN (getL (celL h v0) 0), slN (getL (celL h v0) 8), slN (getL (celL h v0) 9)]) v1)) (iA (roD (deadL h [ptB v0, slN (getL (celL h v0) 0), slN (getL (celL h v0) 8), slN (getL (celL h v0) 9)]) v2)))).2).Blocked).length) false, .sl 6 1 0 ((((gt (F54_0 (g_TRegulate (getL (roWL h (celL h v0)))) (iA (roD (deadL h [ptB v0, slN (getL (celL h v0) 0), slN (getL (celL h v0) 8), slN (getL (celL h v0) 9)]) v1)) (iA (roD (deadL h [ptB v0, slN (getL (celL h v0) 0), slN (getL (celL h v0) 8), slN (getL (celL h v0) 9)]) v2)))).2).Clear).length) false], .dead, .dead, .dead, .row 45 3 ((((gt (F54_0 (g_TRegulate (getL (roWL h (celL h v0)))) (iA (roD (deadL h [ptB v0, slN (getL (celL h v0) 0), slN (getL (celL h v0) 8), slN (getL (celL h v0) 9)]) v1)) (iA (roD (deadL h [ptB v0, slN (getL (celL h v0) 0), slN (getL (celL h v0) 8), slN (getL (celL h v0) 9)]) v2)))).2).Table).length) (enR c_TRegulateChannel (((gt (F54_0 (g_TRegulate (getL (roWL h (celL h v0)))) (iA (roD (deadL h [ptB v0, slN (getL (celL h v0) 0), slN (getL (celL h v0) 8), slN (getL (celL h v0) 9)]) v1)) (iA (roD (deadL h [ptB v0, slN (getL (celL h v0) 0), slN (getL (celL h v0) 8), slN (getL (celL h v0) 9)]) v2)))).2).Table)), .row 79 2 ((((gt (F54_0 (g_TRegulate (getL (roWL h (celL h v0)))) (iA (roD (deadL h [ptB v0, slN (getL (celL h v0) 0), slN (getL (celL h v0) 8), slN (getL (celL h v0) 9)]) v1)) (iA (roD (deadL h [ptB v0, slN (getL (celL h v0) 0), slN (getL (celL h v0) 8), slN (getL (celL h v0) 9)]) v2)))).2).Blocked).length) (enR c_TRegulateBlock (((gt (F54_0 (g_TRegulate (getL (roWL h (celL h v0)))) (iA (roD (deadL h [ptB v0, slN (getL (celL h v0) 0), slN (getL (celL h v0) 8), slN (getL (celL h v0) 9)]) v1)) (iA (roD (deadL h [ptB v0, slN (getL (celL h v0) 0), slN (getL (celL h v0) 8), slN (getL (celL h v0) 9)]) v2)))).2).Blocked)), .row 3 1 ((((gt (F54_0 (g_TRegulate (getL (roWL h (celL h v0)))) (iA (roD (deadL h [ptB v0, slN (getL (celL h v0) 0), slN (getL (celL h v0) 8), slN (getL (celL h v0) 9)]) v1)) (iA (roD (deadL h [ptB v0, slN (getL (celL h v0) 0), slN (getL (celL h v0) 8), slN (getL (celL h v0) 9)]) v2)))).2).Clear).length) (enR c_i64 (((gt (F54_0 (g_TRegulate (getL (roWL h (celL h v0)))) (iA (roD (deadL h [ptB v0, slN (getL (celL h v0) 0), slN (getL (celL h v0) 8), slN (getL (celL h v0) 9)]) v1)) (iA (roD (deadL h [ptB v0, slN (getL (celL h v0) 0), slN (getL (celL h v0) 8), slN (getL (celL h v0) 9)]) v2)))).2).Clear)), .row 23 4 (((gt (F54_0 (g_TRegulate (getL (roWL h (celL h v0)))) (iA (roD (deadL h [ptB v0, slN (getL (celL h v0) 0), slN (getL (celL h v0) 8), slN (getL (celL h v0) 9)]) v1)) (iA (roD (deadL h [ptB v0, slN (getL (celL h v0) 0), slN (getL (celL h v0) 8), slN (getL (celL h v0) 9)]) v2)))).1).length) (enR c_TRegulateWord ((gt (F54_0 (g_TRegulate (getL (roWL h (celL h v0)))) (iA (roD (deadL h [ptB v0, slN (getL (celL h v0) 0), slN (getL (celL h v0) 8), slN (getL (celL h v0) 9)]) v1)) (iA (roD (deadL h [ptB v0, slN (getL (celL h v0) 0), slN (getL (celL h v0) 8), slN (getL (celL h v0) 9)]) v2)))).1))]
  | _, _ => .fail
theorem ok54_0 : FnOk Try.prog 54 (edC body54_0) := by
  refine edit_fnV body54_0 (rs := [.tmp 6]) Try.func54 (by kernel_rfl) rfl rfl ?_
  intro l h bs ob q0 g0 hb hob
  unfold body54_0 at hb
  split at hb
  · rename_i v0 v1 v2
    injection hb with q1 q2 q3 q4; subst q1 q2 q3 q4
    obtain ⟨hk0_0, hk0_1, hk0_2, hk0_3, hk0_4, hk0_5, hk0_6, hk0_7, hk0_8, hk0_9, hk0_10, hk0_11, hk1_0, hk1_1, hk2_0, hk2_1, hob⟩ := hob
    obtain ⟨r, H⟩ := Option.isSome_iff_exists.1 hob
    rw [H, gt_some]
    obtain ⟨p0, hp0⟩ : ∃ p0, p0 = g_TRegulate (getL (roWL h (celL h v0))) := ⟨_, rfl⟩
    rw [← hp0] at H
    have hw0 : ∀ y, y < 10 -> WkV (getL (c_TRegulate p0) y) (roW h (getL (celL h v0) y)) /\ nref (getL (c_TRegulate p0) y) := fun y hy => by rw [hp0, ← getL_roWL]; exact w_TRegulate hk0_1 y hy
    have hk0_K := hk0_1
    unfold k_TRegulate at hk0_K
    obtain ⟨kk0_0, kk0_1, kk0_2, kk0_3, kk0_4, kk0_5, kk0_6, kk0_7, kk0_8, kk0_9⟩ := hk0_K
    obtain ⟨ev0_0, eb0_0⟩ := own_row2 (f := c_TRegulateChannel) (g := g_TRegulateChannel) (bs := [ptB v0, slN (getL (celL h v0) 0), slN (getL (celL h v0) 8), slN (getL (celL h v0) 9)]) (i := 1) (fun hr => w_TRegulateChannel hr) hk0_2 (by rw [← getL_roWL]; exact kk0_0) (L := p0.Table) (by rw [hp0, ← getL_roWL]; rfl) rfl
    obtain ⟨ev0_8, eb0_8⟩ := own_row2 (f := c_TRegulateBlock) (g := g_TRegulateBlock) (bs := [ptB v0, slN (getL (celL h v0) 0), slN (getL (celL h v0) 8), slN (getL (celL h v0) 9)]) (i := 2) (fun hr => w_TRegulateBlock hr) hk0_10 (by rw [← getL_roWL]; exact kk0_8) (L := p0.Blocked) (by rw [hp0, ← getL_roWL]; rfl) rfl
    obtain ⟨ev0_9, eb0_9⟩ := own_row2 (f := c_i64) (g := g_i64) (bs := [ptB v0, slN (getL (celL h v0) 0), slN (getL (celL h v0) 8), slN (getL (celL h v0) 9)]) (i := 3) (fun hr => w_i64 hr) hk0_11 (by rw [← getL_roWL]; exact kk0_9) (L := p0.Clear) (by rw [hp0, ← getL_roWL]; rfl) rfl
    have hw1 := iK_wk hk1_0
    obtain ⟨p1, hp_p1⟩ : ∃ p1, p1 = iA (roD (deadL h [ptB v0, slN (getL (celL h v0) 0), slN (getL (celL h v0) 8), slN (getL (celL h v0) 9)]) v1) := ⟨_, rfl⟩
    rw [← hp_p1] at H hw1
    have hw2 := iK_wk hk2_0
    obtain ⟨p2, hp_p2⟩ : ∃ p2, p2 = iA (roD (deadL h [ptB v0, slN (getL (celL h v0) 0), slN (getL (celL h v0) 8), slN (getL (celL h v0) 9)]) v2) := ⟨_, rfl⟩
    rw [← hp_p2] at H hw2
    refine ⟨[.ptr 0 0 0 0, .int .i64 p1, .int .i64 p2], [.lit 39 [.sl 1 3 0 p0.Table.length false, .int .i64 p0.Channel, .bool p0.Lead, .int .i64 p0.Heard, .bool p0.Stopped, .bool p0.Moving, .int .i64 p0.To, .int .i64 p0.At, .sl 2 2 0 p0.Blocked.length false, .sl 3 1 0 p0.Clear.length false], .row 45 3 p0.Table.length (enR c_TRegulateChannel p0.Table), .row 79 2 p0.Blocked.length (enR c_TRegulateBlock p0.Blocked), .row 3 1 p0.Clear.length (enR c_i64 p0.Clear)], rfl, ⟨(EW_own (EV_pK hk0_0 rfl) (by simp only [noro])), ⟨(EW_view hk1_1 hw1), ⟨(EW_view hk2_1 hw2), trivial⟩⟩⟩, ⟨(EB_pK hk0_0 rfl rfl (fun y hy => by
          match y, hy with
          | 0, _ => exact ev0_0
          | 1, _ => exact EV_t hk0_3 (hw0 1 (by decide))
          | 2, _ => exact EV_t hk0_4 (hw0 2 (by decide))
          | 3, _ => exact EV_t hk0_5 (hw0 3 (by decide))
          | 4, _ => exact EV_t hk0_6 (hw0 4 (by decide))
          | 5, _ => exact EV_t hk0_7 (hw0 5 (by decide))
          | 6, _ => exact EV_t hk0_8 (hw0 6 (by decide))
          | 7, _ => exact EV_t hk0_9 (hw0 7 (by decide))
          | 8, _ => exact ev0_8
          | 9, _ => exact ev0_9
          | y + 10, hy => omega)), ⟨eb0_0, ⟨eb0_8, ⟨eb0_9, trivial⟩⟩⟩⟩, ⟨(by simp only [noroB, noroL, noro, and_self]), ⟨noroB_en, ⟨noroB_en, ⟨noroB_en, trivial⟩⟩⟩⟩, ⟨trivial, ⟨trivial, ⟨trivial, ⟨trivial, ⟨(nfB_en nr_TRegulateChannel), ⟨(nfB_en nr_TRegulateBlock), ⟨(nfB_en nr_i64), ⟨(nfB_en nr_TRegulateWord), trivial⟩⟩⟩⟩⟩⟩⟩⟩, ⟨(by simp only [noroB, noroL, noro, and_self]), ⟨trivial, ⟨trivial, ⟨trivial, ⟨noroB_en, ⟨noroB_en, ⟨noroB_en, ⟨noroB_en, trivial⟩⟩⟩⟩⟩⟩⟩⟩, (by first | (simp only [noro]; done) | (simp only [noro, noroL]; and_intros <;> first | trivial | exact noro_bif (by simp only [noro]) (by simp only [noro]) | (simp only [noro, noroL, and_self]))), ?_⟩
    rw [Try.ntmps54]
    simp only [List.length_cons, List.length_nil, Nat.reduceAdd, Nat.reduceSub, List.replicate_succ, List.replicate_zero, List.cons_append, List.nil_append]
    unfold F54_0 at H
    try dsimp only at H
    refine sq ctNo_ok ?_
    simp only [go_sem]
    refine seqM ?_
    obtain ⟨r1, e2, H⟩ := bsi H
    refine rg ct54_0t0_ok ?_
    simp only [go_sem, Nat.reduceAdd, Nat.reduceBEq, ct54_0t0_92, body92_0, e2]
    repeat ((with_reducible refine And.intro ?_ ?_); focus exact an0)
    refine seqM ?_
    refine sq ctNo_ok ?_
    simp only [go_sem, Nat.reduceLeDiff, Nat.reduceLT, Nat.reduceAdd]
    repeat ((with_reducible refine And.intro ?_ ?_); focus exact an4)
    refine condM rfl trivial (fun hc => ?_) (fun hc => ?_)
    · have hk3 : (r1.Lead) = false := by simpa using hc
      replace H := cond_t hc H
      refine sq ctNo_ok ?_
      simp only [go_sem, Nat.reduceLeDiff, Nat.reduceLT, Nat.reduceAdd]
      repeat ((with_reducible refine And.intro ?_ ?_); focus exact an4)
      refine rg ctNo_ok ?_
      simp only [go_sem]
      obtain rfl := Option.some.inj H
      refine RetE_mk [] [some 0, some 1, some 2, some 3, some 4, some 5, some 6, some 7] ?_ ?_ ?_ ?_ (by rfl) (by rfl)
      · simp only [go_sem]
        try exact at0
      · simp only [go_sem]
        try exact at0
      · simp only [go_sem]
        exact (by first | (simp [Cv, getM]; done) | (simp [Cv, CvL, getM, gt_some]; omega))
      · simp only [go_sem, CvH]
        first | exact ⟨(by simp [CvB, CvL, Cv, blkAt, geth, getM]), CvB_dead, CvB_dead, CvB_dead, CvB_row nr_TRegulateChannel cl (fun _ _ _ _ => rfl), CvB_row nr_TRegulateBlock cl (fun _ _ _ _ => rfl), CvB_row nr_i64 cl (fun _ _ _ _ => rfl), CvB_row nr_TRegulateWord cl (lit_row (f := c_TRegulateWord) [(TRegulateWord.mk 2 r1.Channel 0 0)] (fun _ _ => rfl) rfl)⟩ | trivial
    have hk3 : (r1.Lead) = true := by simpa using hc
    replace H := cond_f hc H
    refine rg ctNo_ok ?_
    simp only [go_sem]
    refine seqM ?_
    obtain ⟨r4, e5, H⟩ := bsi H
    refine rg ct54_0t1_ok ?_
    simp only [go_sem, Nat.reduceLT, Nat.reduceAdd, ct54_0t1_53, body53_0, e5]
    repeat ((with_reducible refine And.intro ?_ ?_); focus exact an0)
    refine seqM ?_
    refine sq ctNo_ok ?_
    simp only [go_sem]
    repeat ((with_reducible refine And.intro ?_ ?_); focus exact an0)
    refine condM rfl trivial (fun hc => ?_) (fun hc => ?_)
    · have hk6 : (bEq (r4.length : Nat) 0) = true := by simpa using hc
      replace H := cond_t hc H
      refine sq ctNo_ok ?_
      simp only [go_sem]
      refine rg ctNo_ok ?_
      simp only [go_sem]
      obtain rfl := Option.some.inj H
      refine RetE_mk [] [some 0, some 1, some 2, some 3, some 4, some 5, some 6, none] ?_ ?_ ?_ ?_ (by rfl) (by rfl)
      · simp only [go_sem]
        try exact at0
      · simp only [go_sem]
        try exact at0
      · simp only [go_sem]
        exact (by first | (simp [Cv]; done) | (simp [Cv, CvL, getM, gt_some]; omega))
      · simp only [go_sem, CvH]
        first | exact ⟨(by simp [CvB, CvL, Cv, blkAt, geth, getM]), CvB_dead, CvB_dead, CvB_dead, CvB_row nr_TRegulateChannel cl (fun _ _ _ _ => rfl), CvB_row nr_TRegulateBlock cl (fun _ _ _ _ => rfl), CvB_row nr_i64 cl (fun _ _ _ _ => rfl), CvB_none⟩ | trivial
    have hk6 : (bEq (r4.length : Nat) 0) = false := by simpa using hc
    replace H := cond_f hc H
    refine rg ctNo_ok ?_
    simp only [go_sem]
    refine seqM ?_
    obtain ⟨f7, H⟩ := need_some.1 H
    replace f7 := ne0_iff.1 f7
    obtain ⟨f8, H⟩ := need_some.1 H
    replace f8 := inb_iff.1 f8
    refine rg ctNo_ok ?_
    simp only [go_sem, Nat.reduceLeDiff, Nat.reduceLT, Nat.reduceAdd, f7, f8]
    repeat ((with_reducible refine And.intro ?_ ?_); focus exact an0)
    refine seqM ?_
    obtain ⟨r9, e10, H⟩ := bsi H
    refine rg ct54_0t2_ok ?_
    simp only [go_sem, Nat.reduceLT, Nat.reduceAdd, ct54_0t2_57, body57_0, e10]
    repeat ((with_reducible refine And.intro ?_ ?_); focus exact an0)
    refine rg ctNo_ok ?_
    simp only [go_sem]
    obtain rfl := Option.some.inj H
    refine RetE_mk [] [some 0, some 1, some 2, some 3, some 4, some 5, some 6, some 8] ?_ ?_ ?_ ?_ (by rfl) (by rfl)
    · simp only [go_sem]
      try exact at0
    · simp only [go_sem]
      try exact at0
    · simp only [go_sem]
      exact (by first | (simp [Cv, getM]; done) | (simp [Cv, CvL, getM, gt_some]; omega))
    · simp only [go_sem, CvH]
      first | exact ⟨(by simp [CvB, CvL, Cv, blkAt, geth, getM]), CvB_dead, CvB_dead, CvB_dead, CvB_row nr_TRegulateChannel cl (fun _ _ _ _ => rfl), CvB_row nr_TRegulateBlock cl (fun _ _ _ _ => rfl), CvB_row nr_i64 cl (fun _ _ _ _ => rfl), CvB_row nr_TRegulateWord cl (fun _ _ _ _ => rfl)⟩ | trivial
  · cases hb
noncomputable def ct22t0 : Ct := tab [(50, edC body50)]
theorem ct22t0_ok : CtOk Try.prog ct22t0 := tab_cons ok50 <| tab_nil
theorem ct22t0_50 (l : List AV) (h : List ABlk) : ct22t0 50 l h = edC body50 l h := rfl
noncomputable def ct22t1 : Ct := tab [(54, edC body54_0)]
theorem ct22t1_ok : CtOk Try.prog ct22t1 := tab_cons ok54_0 <| tab_nil
theorem ct22t1_54 (l : List AV) (h : List ABlk) : ct22t1 54 l h = edC body54_0 l h := rfl
noncomputable def F22 (p0 : TRegulate) (p1 : Int) (p2 : Int) : Option (TRegulate × (List TRegulateWord) × Int) :=
  (F50 p0 p2 p1).bind fun r1 => bif r1.1.isSome then (bif (!bEq r1.2 0) then (some ((TRegulate.mk [] 0 false 0 false false 0 0 [] []), [], r1.2)) else (bif (gt r1.1).Stopped then (some ((TRegulate.mk [] 0 false 0 false false 0 0 [] []), [], 20)) else ((F54_0 (TRegulate.mk ((gt r1.1).Table) ((gt r1.1).Channel) ((gt r1.1).Lead) ((gt r1.1).Heard) ((gt r1.1).Stopped) ((gt r1.1).Moving) ((gt r1.1).To) ((gt r1.1).At) ((gt r1.1).Blocked) ((gt r1.1).Clear)) p1 p2).bind fun r6 => some ((TRegulate.mk r6.2.Table r6.2.Channel r6.2.Lead r6.2.Heard r6.2.Stopped r6.2.Moving r6.2.To r6.2.At r6.2.Blocked r6.2.Clear), r6.1, 0)))) else (bif (!bEq r1.2 0) then (some ((TRegulate.mk [] 0 false 0 false false 0 0 [] []), [], r1.2)) else (none))
noncomputable def body22 : List AV -> List ABlk -> ED
  | [v0, v1, v2], h => .ed [] (aK 10 k_TRegulate (roD (deadL h []) v0) /\ roDOb (deadL h []) v0 /\ iK .i64 (roD (deadL h []) v1) /\ roDOb (deadL h []) v1 /\ iK .i64 (roD (deadL h []) v2) /\ roDOb (deadL h []) v2 /\ (F22 (g_TRegulate (aL (roD (deadL h []) v0))) (iA (roD (deadL h []) v1)) (iA (roD (deadL h []) v2))).isSome = true) (.tup [.agg [.sl 0 3 0 ((((gt (F22 (g_TRegulate (aL (roD (deadL h []) v0))) (iA (roD (deadL h []) v1)) (iA (roD (deadL h []) v2)))).1).Table).length) false, .int .i64 (((gt (F22 (g_TRegulate (aL (roD (deadL h []) v0))) (iA (roD (deadL h []) v1)) (iA (roD (deadL h []) v2)))).1).Channel), .bool (((gt (F22 (g_TRegulate (aL (roD (deadL h []) v0))) (iA (roD (deadL h []) v1)) (iA (roD (deadL h []) v2)))).1).Lead), .int .i64 (((gt (F22 (g_TRegulate (aL (roD (deadL h []) v0))) (iA (roD (deadL h []) v1)) (iA (roD (deadL h []) v2)))).1).Heard), .bool (((gt (F22 (g_TRegulate (aL (roD (deadL h []) v0))) (iA (roD (deadL h []) v1)) (iA (roD (deadL h []) v2)))).1).Stopped), .bool (((gt (F22 (g_TRegulate (aL (roD (deadL h []) v0))) (iA (roD (deadL h []) v1)) (iA (roD (deadL h []) v2)))).1).Moving), .int .i64 (((gt (F22 (g_TRegulate (aL (roD (deadL h []) v0))) (iA (roD (deadL h []) v1)) (iA (roD (deadL h []) v2)))).1).To), .int .i64 (((gt (F22 (g_TRegulate (aL (roD (deadL h []) v0))) (iA (roD (deadL h []) v1)) (iA (roD (deadL h []) v2)))).1).At), .sl 1 2 0 ((((gt (F22 (g_TRegulate (aL (roD (deadL h []) v0))) (iA (roD (deadL h []) v1)) (iA (roD (deadL h []) v2)))).1).Blocked).length) false, .sl 2 1 0 ((((gt (F22 (g_TRegulate (aL (roD (deadL h []) v0))) (iA (roD (deadL h []) v1)) (iA (roD (deadL h []) v2)))).1).Clear).length) false], .sl 3 4 0 (((gt (F22 (g_TRegulate (aL (roD (deadL h []) v0))) (iA (roD (deadL h []) v1)) (iA (roD (deadL h []) v2)))).2.1).length) false, .int .i64 ((gt (F22 (g_TRegulate (aL (roD (deadL h []) v0))) (iA (roD (deadL h []) v1)) (iA (roD (deadL h []) v2)))).2.2)]) [.row 45 3 ((((gt (F22 (g_TRegulate (aL (roD (deadL h []) v0))) (iA (roD (deadL h []) v1)) (iA (roD (deadL h []) v2)))).1).Table).length) (enR c_TRegulateChannel (((gt (F22 (g_TRegulate (aL (roD (deadL h []) v0))) (iA (roD (deadL h []) v1)) (iA (roD (deadL h []) v2)))).1).Table)), .row 79 2 ((((gt (F22 (g_TRegulate (aL (roD (deadL h []) v0))) (iA (roD (deadL h []) v1)) (iA (roD (deadL h []) v2)))).1).Blocked).length) (enR c_TRegulateBlock (((gt (F22 (g_TRegulate (aL (roD (deadL h []) v0))) (iA (roD (deadL h []) v1)) (iA (roD (deadL h []) v2)))).1).Blocked)), .row 3 1 ((((gt (F22 (g_TRegulate (aL (roD (deadL h []) v0))) (iA (roD (deadL h []) v1)) (iA (roD (deadL h []) v2)))).1).Clear).length) (enR c_i64 (((gt (F22 (g_TRegulate (aL (roD (deadL h []) v0))) (iA (roD (deadL h []) v1)) (iA (roD (deadL h []) v2)))).1).Clear)), .row 23 4 (((gt (F22 (g_TRegulate (aL (roD (deadL h []) v0))) (iA (roD (deadL h []) v1)) (iA (roD (deadL h []) v2)))).2.1).length) (enR c_TRegulateWord ((gt (F22 (g_TRegulate (aL (roD (deadL h []) v0))) (iA (roD (deadL h []) v1)) (iA (roD (deadL h []) v2)))).2.1))]
  | _, _ => .fail
theorem ok22 : FnOk Try.prog 22 (edC body22) := by
  refine edit_fnV body22 (rs := [.cell 6 39, .tmp 7, .tmp 8]) Try.func22 (by kernel_rfl) rfl rfl ?_
  intro l h bs ob q0 g0 hb hob
  unfold body22 at hb
  split at hb
  · rename_i v0 v1 v2
    injection hb with q1 q2 q3 q4; subst q1 q2 q3 q4
    obtain ⟨hk0_0, hk0_1, hk1_0, hk1_1, hk2_0, hk2_1, hob⟩ := hob
    obtain ⟨r, H⟩ := Option.isSome_iff_exists.1 hob
    rw [H, gt_some]
    have hw0 := wA_TRegulate hk0_0
    obtain ⟨p0, hp_p0⟩ : ∃ p0, p0 = g_TRegulate (aL (roD (deadL h []) v0)) := ⟨_, rfl⟩
    rw [← hp_p0] at H hw0
    have hw1 := iK_wk hk1_0
    obtain ⟨p1, hp_p1⟩ : ∃ p1, p1 = iA (roD (deadL h []) v1) := ⟨_, rfl⟩
    rw [← hp_p1] at H hw1
    have hw2 := iK_wk hk2_0
    obtain ⟨p2, hp_p2⟩ : ∃ p2, p2 = iA (roD (deadL h []) v2) := ⟨_, rfl⟩
    rw [← hp_p2] at H hw2
    refine ⟨[.agg [.ro 3 p0.Table.length false (enR c_TRegulateChannel p0.Table), .int .i64 p0.Channel, .bool p0.Lead, .int .i64 p0.Heard, .bool p0.Stopped, .bool p0.Moving, .int .i64 p0.To, .int .i64 p0.At, .ro 2 p0.Blocked.length false (enR c_TRegulateBlock p0.Blocked), .ro 1 p0.Clear.length false (enR c_i64 p0.Clear)], .int .i64 p1, .int .i64 p2], [], rfl, ⟨(EW_view hk0_1 hw0), ⟨(EW_view hk1_1 hw1), ⟨(EW_view hk2_1 hw2), trivial⟩⟩⟩, trivial, trivial, ⟨(nfB_en nr_TRegulateChannel), ⟨(nfB_en nr_TRegulateBlock), ⟨(nfB_en nr_i64), ⟨(nfB_en nr_TRegulateWord), trivial⟩⟩⟩⟩, ⟨noroB_en, ⟨noroB_en, ⟨noroB_en, ⟨noroB_en, trivial⟩⟩⟩⟩, (by first | (simp only [noro, noroL, and_self]; done) | (simp only [noro, noroL]; and_intros <;> first | trivial | exact noro_bif (by simp only [noro]) (by simp only [noro]) | (simp only [noro, noroL, and_self]))), ?_⟩
    rw [Try.ntmps22]
    simp only [List.length_cons, List.length_nil, Nat.reduceAdd, Nat.reduceSub, List.replicate_succ, List.replicate_zero, List.cons_append, List.nil_append]
    unfold F22 at H
    try dsimp only at H
    refine sq ctNo_ok ?_
    simp only [go_sem]
    refine seqM ?_
    obtain ⟨r1, e2, H⟩ := bsi H
    refine rg ct22t0_ok ?_
    simp only [go_sem, Nat.reduceLT, Nat.reduceAdd, ct22t0_50, body50, e2]
    repeat ((with_reducible refine And.intro ?_ ?_); focus exact an0)
    refine bif_split (c := r1.1.isSome) (fun hq3 => ?_) (fun hq3 => ?_)
    · replace H := cond_t hq3 H
      simp only [go_sem, Nat.reduceAdd, hq3, cond_true, rnm, rnmL, rhoN]
      refine seqM ?_
      refine sq ctNo_ok ?_
      simp only [go_sem]
      refine condM rfl trivial (fun hc => ?_) (fun hc => ?_)
      · have hk4 : (bEq r1.2 0) = false := by simpa using hc
        replace H := cond_t hc H
        refine sq ctNo_ok ?_
        simp only [go_sem, Nat.reduceLT, Nat.reduceAdd]
        repeat ((with_reducible refine And.intro ?_ ?_); focus exact an4)
        refine rg ctNo_ok ?_
        simp only [go_sem, Nat.reduceLT, Nat.reduceAdd]
        obtain rfl := Option.some.inj H
        refine RetE_mk [] [none, none, none, none] ?_ ?_ ?_ ?_ (by rfl) (by rfl)
        · simp only [go_sem]
          try exact at0
        · simp only [go_sem]
          try exact at0
        · simp only [go_sem]
          exact Cv_tup (CvL_cons (by first | (simp [Cv, CvL]; done) | (simp [Cv, CvL, getM, gt_some]; omega)) (CvL_cons (by first | (simp [Cv]; done) | (simp [Cv, CvL, getM, gt_some]; omega)) (CvL_cons (by simp [Cv]) CvL_nil)))
        · simp only [go_sem, CvH]
          first | exact ⟨CvB_none, CvB_none, CvB_none, CvB_none⟩ | trivial
      have hk4 : (bEq r1.2 0) = true := by simpa using hc
      replace H := cond_f hc H
      refine rg ctNo_ok ?_
      simp only [go_sem]
      refine seqM ?_
      refine sq ctNo_ok ?_
      simp only [go_sem, Nat.reduceLeDiff, Nat.reduceLT, Nat.reduceAdd]
      repeat ((with_reducible refine And.intro ?_ ?_); focus exact an4)
      refine condM rfl trivial (fun hc => ?_) (fun hc => ?_)
      · have hk5 : ((gt r1.1).Stopped) = true := by simpa using hc
        replace H := cond_t hc H
        refine sq ctNo_ok ?_
        simp only [go_sem, Nat.reduceLT, Nat.reduceAdd]
        repeat ((with_reducible refine And.intro ?_ ?_); focus exact an4)
        refine rg ctNo_ok ?_
        simp only [go_sem, Nat.reduceLT, Nat.reduceAdd]
        obtain rfl := Option.some.inj H
        refine RetE_mk [] [none, none, none, none] ?_ ?_ ?_ ?_ (by rfl) (by rfl)
        · simp only [go_sem]
          try exact at0
        · simp only [go_sem]
          try exact at0
        · simp only [go_sem]
          exact Cv_tup (CvL_cons (by first | (simp [Cv, CvL]; done) | (simp [Cv, CvL, getM, gt_some]; omega)) (CvL_cons (by first | (simp [Cv]; done) | (simp [Cv, CvL, getM, gt_some]; omega)) (CvL_cons (by simp [Cv]) CvL_nil)))
        · simp only [go_sem, CvH]
          first | exact ⟨CvB_none, CvB_none, CvB_none, CvB_none⟩ | trivial
      have hk5 : ((gt r1.1).Stopped) = false := by simpa using hc
      replace H := cond_f hc H
      refine rg ctNo_ok ?_
      simp only [go_sem]
      refine seqM ?_
      obtain ⟨r6, e7, H⟩ := bsi H
      refine rg ct22t1_ok ?_
      simp only [go_sem, Nat.reduceAdd, Nat.reduceBEq, ct22t1_54, body54_0, e7]
      repeat ((with_reducible refine And.intro ?_ ?_); focus exact an0)
      refine sq ctNo_ok ?_
      simp only [go_sem, Nat.reduceLT, Nat.reduceAdd]
      repeat ((with_reducible refine And.intro ?_ ?_); focus exact an4)
      refine rg ctNo_ok ?_
      simp only [go_sem, Nat.reduceLT, Nat.reduceAdd]
      obtain rfl := Option.some.inj H
      refine RetE_mk [] [some 6, some 7, some 8, some 9] ?_ ?_ ?_ ?_ (by rfl) (by rfl)
      · simp only [go_sem]
        try exact at0
      · simp only [go_sem]
        try exact at0
      · simp only [go_sem]
        exact Cv_tup (CvL_cons (by first | (simp [Cv, CvL, getM]; done) | (simp [Cv, CvL, getM, gt_some]; omega)) (CvL_cons (by first | (simp [Cv, getM]; done) | (simp [Cv, CvL, getM, gt_some]; omega)) (CvL_cons (by simp [Cv]) CvL_nil)))
      · simp only [go_sem, CvH]
        first | exact ⟨CvB_row nr_TRegulateChannel cl (fun _ _ _ _ => rfl), CvB_row nr_TRegulateBlock cl (fun _ _ _ _ => rfl), CvB_row nr_i64 cl (fun _ _ _ _ => rfl), CvB_row nr_TRegulateWord cl (fun _ _ _ _ => rfl)⟩ | trivial
    replace H := cond_f hq3 H
    simp only [go_sem, hq3, cond_false]
    refine seqM ?_
    refine sq ctNo_ok ?_
    simp only [go_sem]
    refine condM' rfl trivial (fun hc => ?_) (fun hc => ?_)
    · have hk8 : (bEq r1.2 0) = true := by simpa using hc
      replace H := cond_f hc H
      refine rg ctNo_ok ?_
      simp only [go_sem]
      refine seqM ?_
      refine seqM ?_
      cases H
    have hk8 : (bEq r1.2 0) = false := by simpa using hc
    replace H := cond_t hc H
    refine sq ctNo_ok ?_
    simp only [go_sem, Nat.reduceLT, Nat.reduceAdd]
    repeat ((with_reducible refine And.intro ?_ ?_); focus exact an4)
    refine rg ctNo_ok ?_
    simp only [go_sem, Nat.reduceLT, Nat.reduceAdd]
    obtain rfl := Option.some.inj H
    refine RetE_mk [] [none, none, none, none] ?_ ?_ ?_ ?_ (by rfl) (by rfl)
    · simp only [go_sem]
      try exact at0
    · simp only [go_sem]
      try exact at0
    · simp only [go_sem]
      exact Cv_tup (CvL_cons (by first | (simp [Cv, CvL]; done) | (simp [Cv, CvL, getM, gt_some]; omega)) (CvL_cons (by first | (simp [Cv]; done) | (simp [Cv, CvL, getM, gt_some]; omega)) (CvL_cons (by simp [Cv]) CvL_nil)))
    · simp only [go_sem, CvH]
      first | exact ⟨CvB_none, CvB_none, CvB_none, CvB_none⟩ | trivial
  · cases hb
noncomputable def F39_L1 (p0 : List TRegulateWord) (p1 : List TRegulateWord) (v1_1 : Int) : Option (Lp (Int) ((Unit) ⊕ (Bool))) :=
  bif (bLt v1_1 (p0.length : Nat)) then (need (inb v1_1 p0.length) <| need (inb v1_1 p1.length) <| bif (!(bEq ((gd p0 v1_1.toNat).Kind) ((gd p1 v1_1.toNat).Kind) && (bEq ((gd p0 v1_1.toNat).Channel) ((gd p1 v1_1.toNat).Channel) && (bEq ((gd p0 v1_1.toNat).To) ((gd p1 v1_1.toNat).To) && (bEq ((gd p0 v1_1.toNat).At) ((gd p1 v1_1.toNat).At)))))) then (some (.done (.inr false))) else (some (.next (wr .i64 (v1_1 + 1))))) else (some (.done (.inl ())))
noncomputable def F39 (p0 : List TRegulateWord) (p1 : List TRegulateWord) : Option (Bool) :=
  bif (!bEq (p0.length : Nat) (p1.length : Nat)) then (some false) else (lp (loopD (fun s => F39_L1 p0 p1 s) 0) (fun _ => some true) some)
noncomputable def body39 : List AV -> AR
  | [v0, v1] => .pure (lK k_TRegulateWord 4 v0 /\ lK k_TRegulateWord 4 v1 /\ (F39 (lA g_TRegulateWord v0) (lA g_TRegulateWord v1)).isSome = true) (.bool (gt (F39 (lA g_TRegulateWord v0) (lA g_TRegulateWord v1))))
  | _ => .fail
theorem ok39 : FnOk Try.prog 39 (pureC body39) := by
  refine pure_fnM body39 (rs := [.tmp 4]) Try.func39 (by kernel_rfl) rfl rfl ?_
  intro l ob v hb hob
  unfold body39 at hb
  split at hb
  · rename_i v0 v1
    injection hb with q1 q2; subst q1 q2
    obtain ⟨hk0_0, hk1_0, hob⟩ := hob
    obtain ⟨r, H⟩ := Option.isSome_iff_exists.1 hob
    rw [H, gt_some]
    have hw0 := lK_wk (fun r h => w_TRegulateWord h) hk0_0
    have hw1 := lK_wk (fun r h => w_TRegulateWord h) hk1_0
    generalize lA g_TRegulateWord v0 = p0 at H hw0
    generalize lA g_TRegulateWord v1 = p1 at H hw1
    refine ⟨[.ro 4 p0.length false (enR c_TRegulateWord p0), .ro 4 p1.length false (enR c_TRegulateWord p1)], _, (fun E vs F => FR_wk1 hw0.1 F (fun vs F => FR_wk1 hw1.1 F (fun vs F => F))), rfl, rfl, ?_⟩
    rw [Try.ntmps39]
    simp only [List.length_cons, List.length_nil, Nat.reduceAdd, Nat.reduceSub, List.replicate_succ, List.replicate_zero, List.cons_append, List.nil_append]
    unfold F39 at H
    try dsimp only at H
    refine sq ctNo_ok ?_
    simp only [go_sem]
    refine seqM ?_
    refine sq ctNo_ok ?_
    simp only [go_sem]
    repeat ((with_reducible refine And.intro ?_ ?_); focus exact an0)
    refine condM rfl trivial (fun hc => ?_) (fun hc => ?_)
    · have hk1 : (bEq (p0.length : Nat) (p1.length : Nat)) = false := by simpa using hc
      replace H := cond_t hc H
      refine sq ctNo_ok ?_
      simp only [go_sem]
      refine rg ctNo_ok ?_
      simp only [go_sem]
      obtain rfl := Option.some.inj H
      first | rfl | simp only [Bool.and_false, Bool.false_and, Bool.and_true, Bool.true_and] | exact congrArg AV.bool (Eq.symm (by assumption))
    have hk1 : (bEq (p0.length : Nat) (p1.length : Nat)) = true := by simpa using hc
    replace H := cond_f hc H
    refine rg ctNo_ok ?_
    simp only [go_sem]
    refine seqM ?_
    refine sq ctNo_ok ?_
    simp only [go_sem]
    refine blkM ?_
    refine loop_den (fun s : Int => (.ro 4 p0.length false (enR c_TRegulateWord p0) :: .ro 4 p1.length false (enR c_TRegulateWord p1) :: .top :: .top :: .top :: .int .i64 s :: tp 20 [])) (fun s => []) (fun e : Unit => (tp 26 [])) (fun e => []) H ?_ (fun v1_1 o H hn1_1 hn2_1 => ?_) (fun e H => ?_)
    · refine SubF_of ⟨[], ?_, ?_, by rfl, by rfl⟩
      · simp [CvL, Cv, tp]
      · trivial
    · unfold F39_L1 at H
      try dsimp only at H ⊢
      try simp only [tp]
      refine seqM ?_
      refine sq ctNo_ok ?_
      simp only [go_sem]
      repeat ((with_reducible refine And.intro ?_ ?_); focus exact an0)
      refine condM' rfl trivial (fun hc => ?_) (fun hc => ?_)
      · have hk2 : (bLt v1_1 (p0.length : Nat)) = false := by simpa using hc
        replace H := cond_f hc H
        refine rg ctNo_ok ?_
        simp only [go_sem]
        refine ⟨_, (Option.some.inj H).symm, ?_⟩
        refine SubF_of ⟨[], ?_, ?_, by rfl, by rfl⟩
        · simp [CvL, Cv]
        · trivial
      have hk2 : (bLt v1_1 (p0.length : Nat)) = true := by simpa using hc
      replace H := cond_t hc H
      refine rg ctNo_ok ?_
      simp only [go_sem]
      refine seqM ?_
      refine blkM ?_
      refine seqM ?_
      obtain ⟨f3, H⟩ := need_some.1 H
      replace f3 := inb_iff.1 f3
      obtain ⟨f4, H⟩ := need_some.1 H
      replace f4 := inb_iff.1 f4
      refine draw_quiet shT_ok ctNo_ok (by kernel_rfl) (by kernel_rfl) ?_
      simp only [go_sem, Nat.reduceLT, Nat.reduceAdd, f3, f4]
      repeat ((with_reducible refine And.intro ?_ ?_); focus exact an4)
      refine condM rfl trivial (fun hc => ?_) (fun hc => ?_)
      · have hk5 : (bEq ((gd p0 v1_1.toNat).Kind) ((gd p1 v1_1.toNat).Kind) && (bEq ((gd p0 v1_1.toNat).Channel) ((gd p1 v1_1.toNat).Channel) && (bEq ((gd p0 v1_1.toNat).To) ((gd p1 v1_1.toNat).To) && (bEq ((gd p0 v1_1.toNat).At) ((gd p1 v1_1.toNat).At))))) = false := by first | simpa using hc | simpa only [Bool.not_eq_true', Bool.not_eq_false'] using hc
        replace H := cond_t hc H
        refine sq ctNo_ok ?_
        simp only [go_sem]
        refine rg ctNo_ok ?_
        simp only [go_sem]
        have H := hn2_1 _ (Option.some.inj H).symm
        obtain rfl := Option.some.inj H
        first | rfl | simp only [Bool.and_false, Bool.false_and, Bool.and_true, Bool.true_and] | exact congrArg AV.bool (Eq.symm (by assumption))
      have hk5 : (bEq ((gd p0 v1_1.toNat).Kind) ((gd p1 v1_1.toNat).Kind) && (bEq ((gd p0 v1_1.toNat).Channel) ((gd p1 v1_1.toNat).Channel) && (bEq ((gd p0 v1_1.toNat).To) ((gd p1 v1_1.toNat).To) && (bEq ((gd p0 v1_1.toNat).At) ((gd p1 v1_1.toNat).At))))) = true := by first | simpa using hc | simpa only [Bool.not_eq_true', Bool.not_eq_false'] using hc
      replace H := cond_f hc H
      refine rg ctNo_ok ?_
      simp only [go_sem]
      refine rg ctNo_ok ?_
      simp only [go_sem]
      refine ⟨_, (Option.some.inj H).symm, ?_⟩
      refine SubF_of ⟨[], ?_, ?_, by rfl, by rfl⟩
      · simp [CvL, Cv]
      · trivial
    · try dsimp only at H ⊢
      try simp only [tp]
      try simp only [m_normal]
      refine sq ctNo_ok ?_
      simp only [go_sem]
      refine rg ctNo_ok ?_
      simp only [go_sem]
      obtain rfl := Option.some.inj H
      first | rfl | simp only [Bool.and_false, Bool.false_and, Bool.and_true, Bool.true_and] | exact congrArg AV.bool (Eq.symm (by assumption))
  · cases hb
noncomputable def ct15t0 : Ct := tab [(25, edC body25), (43, edC body43)]
theorem ct15t0_ok : CtOk Try.prog ct15t0 := tab_cons ok25 <| tab_cons ok43 <| tab_nil
theorem ct15t0_25 (l : List AV) (h : List ABlk) : ct15t0 25 l h = edC body25 l h := rfl
theorem ct15t0_43 (l : List AV) (h : List ABlk) : ct15t0 43 l h = edC body43 l h := rfl
noncomputable def ct15t1 : Ct := tab [(22, edC body22)]
theorem ct15t1_ok : CtOk Try.prog ct15t1 := tab_cons ok22 <| tab_nil
theorem ct15t1_22 (l : List AV) (h : List ABlk) : ct15t1 22 l h = edC body22 l h := rfl
noncomputable def ct15t2 : Ct := tab [(39, pureC body39)]
theorem ct15t2_ok : CtOk Try.prog ct15t2 := tab_cons ok39 <| tab_nil
theorem ct15t2_39 (l : List AV) (h : List ABlk) : ct15t2 39 l h = pureC body39 l h := rfl
noncomputable def F15 : Option (Bool) :=
  (F43).bind fun r1 => (F25 r1 1 true 0).bind fun r3 => (F22 (TRegulate.mk r3.1.Table r3.1.Channel r3.1.Lead r3.1.Heard r3.1.Stopped r3.1.Moving r3.1.To r3.1.At r3.1.Blocked r3.1.Clear) 1 1000).bind fun r5 => (some [(TRegulateWord.mk 1 1 11 151000)]).bind fun w7 => need (bif ((bEq r3.2 0) && (bEq r5.2.2 0)) then ((F39 r5.2.1 w7).isSome) else true) <| need (bif (((((((bEq r3.2 0) && (bEq r5.2.2 0)) && (gt (F39 r5.2.1 w7))) && r5.1.Stopped) && r5.1.Moving) && (bEq r5.1.To 11)) && (bEq (r5.1.Blocked.length : Nat) 1)) then inb 0 r5.1.Blocked.length else true) <| some ((((((((bEq r3.2 0) && (bEq r5.2.2 0)) && (gt (F39 r5.2.1 w7))) && r5.1.Stopped) && r5.1.Moving) && (bEq r5.1.To 11)) && (bEq (r5.1.Blocked.length : Nat) 1)) && (bEq ((gd r5.1.Blocked 0).Channel) 1 && (bEq ((gd r5.1.Blocked 0).Until) 1800001000)))
noncomputable def body15 : List AV -> AR
  | [] => .pure ((F15).isSome = true) (.bool (gt F15))
  | _ => .fail
theorem ok15 : FnOk Try.prog 15 (pureC body15) := by
  refine pure_fnM body15 (rs := [.tmp 0]) Try.func15 (by kernel_rfl) rfl rfl ?_
  intro l ob v hb hob
  unfold body15 at hb
  split at hb
  · injection hb with q1 q2; subst q1 q2
    obtain ⟨r, H⟩ := Option.isSome_iff_exists.1 hob
    rw [H, gt_some]
    refine ⟨[], _, (fun E vs F => F), rfl, rfl, ?_⟩
    rw [Try.ntmps15]
    simp only [List.length_nil, Nat.reduceSub, List.replicate_succ, List.replicate_zero, List.nil_append]
    unfold F15 at H
    try dsimp only at H
    refine sq ctNo_ok ?_
    simp only [go_sem]
    refine seqM ?_
    obtain ⟨r1, e2, H⟩ := bsi H
    obtain ⟨r3, e4, H⟩ := bsi H
    refine rg ct15t0_ok ?_
    simp only [go_sem, Nat.reduceLT, Nat.reduceAdd, ct15t0_25, body25, ct15t0_43, body43, e2, e4]
    repeat ((with_reducible refine And.intro ?_ ?_); focus exact an0)
    refine seqM ?_
    obtain ⟨r5, e6, H⟩ := bsi H
    refine rg ct15t1_ok ?_
    simp only [go_sem, Nat.reduceLT, Nat.reduceAdd, ct15t1_22, body22, e6]
    repeat ((with_reducible refine And.intro ?_ ?_); focus exact an0)
    refine sq ctNo_ok ?_
    simp only [go_sem, Nat.reduceLeDiff, Nat.reduceAdd]
    refine seqM ?_
    obtain ⟨w7, hw8, H⟩ := bsi H
    replace hw8 := Option.some.inj hw8
    have lhw8 : w7.length = 1 := by rw [← hw8]; exact cl
    refine subF_mean (t2 := (.top :: .top :: .int .i64 r3.2 :: .ptr 9 0 0 0 :: .sl 8 4 0 r5.2.1.length false :: .int .i64 r5.2.2 :: .sl 10 4 0 w7.length false :: tp 51 [])) (h2 := [.row 45 3 r1.length (enR c_TRegulateChannel r1), .row 45 3 r3.1.Table.length (enR c_TRegulateChannel r3.1.Table), .row 79 2 r3.1.Blocked.length (enR c_TRegulateBlock r3.1.Blocked), .row 3 1 r3.1.Clear.length (enR c_i64 r3.1.Clear), .lit 39 [.sl 1 3 0 r3.1.Table.length false, .int .i64 r3.1.Channel, .bool r3.1.Lead, .int .i64 r3.1.Heard, .bool r3.1.Stopped, .bool r3.1.Moving, .int .i64 r3.1.To, .int .i64 r3.1.At, .sl 2 2 0 r3.1.Blocked.length false, .sl 3 1 0 r3.1.Clear.length false], .row 45 3 r5.1.Table.length (enR c_TRegulateChannel r5.1.Table), .row 79 2 r5.1.Blocked.length (enR c_TRegulateBlock r5.1.Blocked), .row 3 1 r5.1.Clear.length (enR c_i64 r5.1.Clear), .row 23 4 r5.2.1.length (enR c_TRegulateWord r5.2.1), .lit 39 [.sl 5 3 0 r5.1.Table.length false, .int .i64 r5.1.Channel, .bool r5.1.Lead, .int .i64 r5.1.Heard, .bool r5.1.Stopped, .bool r5.1.Moving, .int .i64 r5.1.To, .int .i64 r5.1.At, .sl 6 2 0 r5.1.Blocked.length false, .sl 7 1 0 r5.1.Clear.length false], .row 23 4 w7.length (enR c_TRegulateWord w7)]) ?_ ?_
    · refine SubF_of ⟨[some 0, some 1, some 2, some 3, some 4, some 5, some 6, some 7, some 8, some 9, some 10], ?_, ?_, by rfl, by rfl⟩
      · simp [CvL, Cv, getM, tp, lhw8]
      · exact ⟨CvB_row nr_TRegulateChannel rfl (fun _ _ _ _ => rfl), CvB_row nr_TRegulateChannel rfl (fun _ _ _ _ => rfl), CvB_row nr_TRegulateBlock rfl (fun _ _ _ _ => rfl), CvB_row nr_i64 rfl (fun _ _ _ _ => rfl), (by simp [CvB, CvL, Cv, blkAt, geth, getM]), CvB_row nr_TRegulateChannel rfl (fun _ _ _ _ => rfl), CvB_row nr_TRegulateBlock rfl (fun _ _ _ _ => rfl), CvB_row nr_i64 rfl (fun _ _ _ _ => rfl), CvB_row nr_TRegulateWord rfl (fun _ _ _ _ => rfl), (by simp [CvB, CvL, Cv, blkAt, geth, getM]), CvB_row nr_TRegulateWord lhw8 (hw8 ▸ (lit_row (f := c_TRegulateWord) [(TRegulateWord.mk 1 1 11 151000)] (fun _ _ => rfl) rfl)), trivial⟩
    simp only [tp]
    obtain ⟨f9, H⟩ := need_some.1 H
    replace f9 := g_iff.1 f9
    obtain ⟨f10, H⟩ := need_some.1 H
    replace f10 := g_iff.1 f10
    replace f10 := fun g => inb_iff.1 (f10 g)
    refine rg ct15t2_ok ?_
    simp only [go_sem, Nat.reduceLeDiff, Nat.reduceLT, Nat.reduceAdd, ct15t2_39, body39]
    repeat ((with_reducible refine And.intro ?_ ?_); focus (first | (with_reducible trivial) | omega | exact f9 | exact f10 | (intro g; have q := f9 (by first | exact g | (rw [g]; rfl) | simpa using g); first | exact q | exact ⟨q.1, q.2.1⟩ | exact q.2.2 | omega | exact ⟨g, q⟩ | exact ⟨trivial, q⟩ | exact ⟨g, q.1, q.2.1⟩ | exact ⟨g, q.2.2⟩) | (intro g; have q := f10 (by first | exact g | (rw [g]; rfl) | simpa using g); first | exact q | exact ⟨q.1, q.2.1⟩ | exact q.2.2 | omega | exact ⟨g, q⟩ | exact ⟨trivial, q⟩ | exact ⟨g, q.1, q.2.1⟩ | exact ⟨g, q.2.2⟩) | (intro g; (try have q0 := f9 (by first | exact g | (rw [g]; rfl) | simpa using g)); (try have q1 := f10 (by first | exact g | (rw [g]; rfl) | simpa using g)); and_intros <;> first | (with_reducible trivial) | assumption | exact nfc | (intro g2; rw [g, g2]; rfl) | (intro g2; assumption) | (simp only [g, Bool.true_and, Bool.and_true, Bool.not_false, Bool.not_true]; assumption) | grind) | (and_intros <;> first | (with_reducible trivial) | omega | assumption | exact nfc | first | exact rfl | exact trivial | exact fitI | exact .inr rfl | exact .inl rfl | exact fun x hx => absurd hx (by omega)) | grind))
    refine rg ctNo_ok ?_
    simp only [go_sem]
    obtain rfl := Option.some.inj H
    first | rfl | simp only [Bool.and_false, Bool.false_and, Bool.and_true, Bool.true_and] | exact congrArg AV.bool (Eq.symm (by assumption))
  · cases hb
noncomputable def ct17t0 : Ct := tab [(50, edC body50)]
theorem ct17t0_ok : CtOk Try.prog ct17t0 := tab_cons ok50 <| tab_nil
theorem ct17t0_50 (l : List AV) (h : List ABlk) : ct17t0 50 l h = edC body50 l h := rfl
noncomputable def ct17t1 : Ct := tab [(51, pureC body51_0)]
theorem ct17t1_ok : CtOk Try.prog ct17t1 := tab_cons ok51_0 <| tab_nil
theorem ct17t1_51 (l : List AV) (h : List ABlk) : ct17t1 51 l h = pureC body51_0 l h := rfl
noncomputable def ct17t2 : Ct := tab [(52, pureC body52_0)]
theorem ct17t2_ok : CtOk Try.prog ct17t2 := tab_cons ok52_0 <| tab_nil
theorem ct17t2_52 (l : List AV) (h : List ABlk) : ct17t2 52 l h = pureC body52_0 l h := rfl
noncomputable def F17 (p0 : TRegulate) (p1 : Int) (p2 : Int) : Option (Bool × Int) :=
  (F50 p0 p2 0).bind fun r1 => bif r1.1.isSome then (bif (!bEq r1.2 0) then (some (false, r1.2)) else (need (bif (!((gt r1.1).Stopped)) then ((F51_0 ((gt r1.1).Table) ((gt r1.1).Channel)).isSome) else true) <| bif (((gt r1.1).Stopped || (bLt ((gt (F51_0 ((gt r1.1).Table) ((gt r1.1).Channel))).Max) p1)) || ((!((gt r1.1).Lead)) && (bLt 500000 (wr .i64 (p2 - ((gt r1.1).Heard)))))) then (some (false, 0)) else ((F52_0 ((gt r1.1).Table) ((gt r1.1).Blocked) ((gt r1.1).Clear) ((gt r1.1).Channel) p2).bind fun r7 => some (r7, 0)))) else (bif (!bEq r1.2 0) then (some (false, r1.2)) else (none))
noncomputable def body17 : List AV -> AR
  | [v0, v1, v2] => .pure (aK 10 k_TRegulate v0 /\ iK .i64 v1 /\ iK .i64 v2 /\ (F17 (g_TRegulate (aL v0)) (iA v1) (iA v2)).isSome = true) (.tup [.bool ((gt (F17 (g_TRegulate (aL v0)) (iA v1) (iA v2))).1), .int .i64 ((gt (F17 (g_TRegulate (aL v0)) (iA v1) (iA v2))).2)])
  | _ => .fail
theorem ok17 : FnOk Try.prog 17 (pureC body17) := by
  refine pure_fnM body17 (rs := [.tmp 6, .tmp 7]) Try.func17 (by kernel_rfl) rfl rfl ?_
  intro l ob v hb hob
  unfold body17 at hb
  split at hb
  · rename_i v0 v1 v2
    injection hb with q1 q2; subst q1 q2
    obtain ⟨hk0_0, hk1_0, hk2_0, hob⟩ := hob
    obtain ⟨r, H⟩ := Option.isSome_iff_exists.1 hob
    rw [H, gt_some]
    have hw0 := wA_TRegulate hk0_0
    have hw1 := iK_wk hk1_0
    have hw2 := iK_wk hk2_0
    generalize g_TRegulate (aL v0) = p0 at H hw0
    generalize iA v1 = p1 at H hw1
    generalize iA v2 = p2 at H hw2
    refine ⟨[.agg [.ro 3 p0.Table.length false (enR c_TRegulateChannel p0.Table), .int .i64 p0.Channel, .bool p0.Lead, .int .i64 p0.Heard, .bool p0.Stopped, .bool p0.Moving, .int .i64 p0.To, .int .i64 p0.At, .ro 2 p0.Blocked.length false (enR c_TRegulateBlock p0.Blocked), .ro 1 p0.Clear.length false (enR c_i64 p0.Clear)], .int .i64 p1, .int .i64 p2], _, (fun E vs F => FR_wk1 hw0.1 F (fun vs F => FR_wk1 hw1.1 F (fun vs F => FR_wk1 hw2.1 F (fun vs F => F)))), rfl, rfl, ?_⟩
    rw [Try.ntmps17]
    simp only [List.length_cons, List.length_nil, Nat.reduceAdd, Nat.reduceSub, List.replicate_succ, List.replicate_zero, List.cons_append, List.nil_append]
    unfold F17 at H
    try dsimp only at H
    refine sq ctNo_ok ?_
    simp only [go_sem]
    refine seqM ?_
    obtain ⟨r1, e2, H⟩ := bsi H
    refine rg ct17t0_ok ?_
    simp only [go_sem, Nat.reduceLT, Nat.reduceAdd, ct17t0_50, body50, e2]
    repeat ((with_reducible refine And.intro ?_ ?_); focus exact an0)
    refine bif_split (c := r1.1.isSome) (fun hq3 => ?_) (fun hq3 => ?_)
    · replace H := cond_t hq3 H
      simp only [go_sem, Nat.reduceAdd, hq3, cond_true, rnm, rnmL, rhoN]
      refine seqM ?_
      refine sq ctNo_ok ?_
      simp only [go_sem]
      refine condM rfl trivial (fun hc => ?_) (fun hc => ?_)
      · have hk4 : (bEq r1.2 0) = false := by simpa using hc
        replace H := cond_t hc H
        refine sq ctNo_ok ?_
        simp only [go_sem]
        refine rg ctNo_ok ?_
        simp only [go_sem]
        obtain rfl := Option.some.inj H
        first | rfl | simp only [Bool.and_false, Bool.false_and, Bool.and_true, Bool.true_and] | exact congrArg AV.bool (Eq.symm (by assumption))
      have hk4 : (bEq r1.2 0) = true := by simpa using hc
      replace H := cond_f hc H
      refine rg ctNo_ok ?_
      simp only [go_sem]
      refine seqM ?_
      refine seqM ?_
      obtain ⟨f5, H⟩ := need_some.1 H
      replace f5 := g_iff.1 f5
      refine rg ct17t1_ok ?_
      simp only [go_sem, Nat.reduceLeDiff, Nat.reduceLT, Nat.reduceAdd, ct17t1_51, body51_0]
      repeat ((with_reducible refine And.intro ?_ ?_); focus (first | (with_reducible trivial) | omega | exact f5 | (intro g; have q := f5 (by first | exact g | (rw [g]; rfl) | simpa using g); first | exact q | exact ⟨q.1, q.2.1⟩ | exact q.2.2 | omega | exact ⟨g, q⟩ | exact ⟨trivial, q⟩ | exact ⟨g, q.1, q.2.1⟩ | exact ⟨g, q.2.2⟩) | (intro g; (try have q0 := f5 (by first | exact g | (rw [g]; rfl) | simpa using g)); and_intros <;> first | (with_reducible trivial) | assumption | exact nfc | (intro g2; rw [g, g2]; rfl) | (intro g2; assumption) | (simp only [g, Bool.true_and, Bool.and_true, Bool.not_false, Bool.not_true]; assumption) | grind) | (and_intros <;> first | (with_reducible trivial) | omega | assumption | exact nfc | first | exact rfl | exact trivial | exact fitI | exact .inr rfl | exact .inl rfl | exact fun x hx => absurd hx (by omega)) | grind))
      refine condM rfl trivial (fun hc => ?_) (fun hc => ?_)
      · have hk6 : (((gt r1.1).Stopped || (bLt ((gt (F51_0 ((gt r1.1).Table) ((gt r1.1).Channel))).Max) p1)) || ((!((gt r1.1).Lead)) && (bLt 500000 (wr .i64 (p2 - ((gt r1.1).Heard)))))) = true := by first | simpa using hc | simpa only [Bool.not_eq_true', Bool.not_eq_false'] using hc
        replace H := cond_t hc H
        refine sq ctNo_ok ?_
        simp only [go_sem]
        refine rg ctNo_ok ?_
        simp only [go_sem]
        obtain rfl := Option.some.inj H
        first | rfl | simp only [Bool.and_false, Bool.false_and, Bool.and_true, Bool.true_and] | exact congrArg AV.bool (Eq.symm (by assumption))
      have hk6 : (((gt r1.1).Stopped || (bLt ((gt (F51_0 ((gt r1.1).Table) ((gt r1.1).Channel))).Max) p1)) || ((!((gt r1.1).Lead)) && (bLt 500000 (wr .i64 (p2 - ((gt r1.1).Heard)))))) = false := by first | simpa using hc | simpa only [Bool.not_eq_true', Bool.not_eq_false'] using hc
      replace H := cond_f hc H
      refine rg ctNo_ok ?_
      simp only [go_sem]
      refine seqM ?_
      obtain ⟨r7, e8, H⟩ := bsi H
      refine rg ct17t2_ok ?_
      simp only [go_sem, Nat.reduceLeDiff, Nat.reduceLT, Nat.reduceAdd, ct17t2_52, body52_0, e8]
      repeat ((with_reducible refine And.intro ?_ ?_); focus exact an0)
      refine rg ctNo_ok ?_
      simp only [go_sem]
      obtain rfl := Option.some.inj H
      first | rfl | simp only [Bool.and_false, Bool.false_and, Bool.and_true, Bool.true_and] | exact congrArg AV.bool (Eq.symm (by assumption))
    replace H := cond_f hq3 H
    simp only [go_sem, hq3, cond_false]
    refine seqM ?_
    refine sq ctNo_ok ?_
    simp only [go_sem]
    refine condM' rfl trivial (fun hc => ?_) (fun hc => ?_)
    · have hk9 : (bEq r1.2 0) = true := by simpa using hc
      replace H := cond_f hc H
      refine rg ctNo_ok ?_
      simp only [go_sem]
      refine seqM ?_
      refine seqM ?_
      cases H
    have hk9 : (bEq r1.2 0) = false := by simpa using hc
    replace H := cond_t hc H
    refine sq ctNo_ok ?_
    simp only [go_sem]
    refine rg ctNo_ok ?_
    simp only [go_sem]
    obtain rfl := Option.some.inj H
    first | rfl | simp only [Bool.and_false, Bool.false_and, Bool.and_true, Bool.true_and] | exact congrArg AV.bool (Eq.symm (by assumption))
  · cases hb
noncomputable def F56_0 (p0 : TRegulateBlock) (p1 : Int) : Option (Bool) :=
  some (bLe p0.Until p1)
noncomputable def body56_0 : List AV -> AR
  | [v0, v1] => .pure (aK 2 k_TRegulateBlock v0 /\ rK 1 k_i64 v1 /\ (F56_0 (g_TRegulateBlock (aL v0)) (g_i64 (rG v1))).isSome = true) (.bool (gt (F56_0 (g_TRegulateBlock (aL v0)) (g_i64 (rG v1)))))
  | _ => .fail
theorem ok56_0 : FnOk Try.prog 56 (pureC body56_0) := by
  refine pure_fnM body56_0 (rs := [.tmp 3]) Try.func56 (by kernel_rfl) rfl rfl ?_
  intro l ob v hb hob
  unfold body56_0 at hb
  split at hb
  · rename_i v0 v1
    injection hb with q1 q2; subst q1 q2
    obtain ⟨hk0_0, hk1_0, hob⟩ := hob
    obtain ⟨r, H⟩ := Option.isSome_iff_exists.1 hob
    rw [H, gt_some]
    have hw0 := wA_TRegulateBlock hk0_0
    have hw1 := rK_wk (f := c_i64) (g := g_i64) (fun r h => w_i64 h) hk1_0
    generalize g_TRegulateBlock (aL v0) = p0 at H hw0
    generalize g_i64 (rG v1) = p1 at H hw1
    refine ⟨[.agg [.int .i64 p0.Channel, .int .i64 p0.Until], .rptr 1 1 0 0 (enR c_i64 [p1])], _, (fun E vs F => FR_wk1 hw0.1 F (fun vs F => FR_wk1 hw1.1 F (fun vs F => F))), rfl, rfl, ?_⟩
    rw [Try.ntmps56]
    simp only [List.length_cons, List.length_nil, Nat.reduceAdd, Nat.reduceSub, List.replicate_succ, List.replicate_zero, List.cons_append, List.nil_append]
    unfold F56_0 at H
    try dsimp only at H
    refine sq ctNo_ok ?_
    simp only [go_sem]
    refine sq ctNo_ok ?_
    simp only [go_sem, Nat.reduceLT, Nat.reduceAdd]
    repeat ((with_reducible refine And.intro ?_ ?_); focus exact an4)
    refine rg ctNo_ok ?_
    simp only [go_sem]
    obtain rfl := Option.some.inj H
    first | rfl | simp only [Bool.and_false, Bool.false_and, Bool.and_true, Bool.true_and] | exact congrArg AV.bool (Eq.symm (by assumption))
  · cases hb
noncomputable def ct93_0t0 : Ct := tab [(56, pureC body56_0)]
theorem ct93_0t0_ok : CtOk Try.prog ct93_0t0 := tab_cons ok56_0 <| tab_nil
theorem ct93_0t0_56 (l : List AV) (h : List ABlk) : ct93_0t0 56 l h = pureC body56_0 l h := rfl
noncomputable def F93_0_L1 (p0 : List TRegulateBlock) (p1 : Int) (v1_1 : Int) : Option (Lp (Int) ((Unit) ⊕ (Int))) :=
  bif (bLt v1_1 (p0.length : Nat)) then (need (inb v1_1 p0.length) <| (F56_0 (gd p0 v1_1.toNat) p1).bind fun r3 => bif r3 then (some (.done (.inr v1_1))) else (some (.next (wr .i64 (v1_1 + 1))))) else (some (.done (.inl ())))
noncomputable def F93_0 (p0 : List TRegulateBlock) (p1 : Int) : Option (Int) :=
  lp (loopD (fun s => F93_0_L1 p0 p1 s) 0) (fun _ => some (-1)) some
noncomputable def body93_0 : List AV -> AR
  | [v0, .fn 56 [v1]] => .pure (lK k_TRegulateBlock 2 v0 /\ rK 1 k_i64 v1 /\ (F93_0 (lA g_TRegulateBlock v0) (g_i64 (rG v1))).isSome = true) (.int .i64 (gt (F93_0 (lA g_TRegulateBlock v0) (g_i64 (rG v1)))))
  | _ => .fail
theorem ok93_0 : FnOk Try.prog 93 (pureC body93_0) := by
  refine pure_fnM body93_0 (rs := [.tmp 4]) Try.func93 (by kernel_rfl) rfl rfl ?_
  intro l ob v hb hob
  unfold body93_0 at hb
  split at hb
  · rename_i v0 v1
    injection hb with q1 q2; subst q1 q2
    obtain ⟨hk0_0, hk1_0, hob⟩ := hob
    obtain ⟨r, H⟩ := Option.isSome_iff_exists.1 hob
    rw [H, gt_some]
    have hw0 := lK_wk (fun r h => w_TRegulateBlock h) hk0_0
    have hw1 := rK_wk (f := c_i64) (g := g_i64) (fun r h => w_i64 h) hk1_0
    generalize lA g_TRegulateBlock v0 = p0 at H hw0
    generalize g_i64 (rG v1) = p1 at H hw1
    refine ⟨[.ro 2 p0.length false (enR c_TRegulateBlock p0), .fn 56 [.rptr 1 1 0 0 (enR c_i64 [p1])]], _, (fun E vs F => FR_wk1 hw0.1 F (fun vs F => FR_wk1 (fn_wk (LW_cons hw1.1 LW_nil)) F (fun vs F => F))), rfl, rfl, ?_⟩
    rw [Try.ntmps93]
    simp only [List.length_cons, List.length_nil, Nat.reduceAdd, Nat.reduceSub, List.replicate_succ, List.replicate_zero, List.cons_append, List.nil_append]
    unfold F93_0 at H
    try dsimp only at H
    refine sq ctNo_ok ?_
    simp only [go_sem]
    refine seqM ?_
    refine sq ctNo_ok ?_
    simp only [go_sem]
    repeat ((with_reducible refine And.intro ?_ ?_); focus exact an0)
    refine blkM ?_
    refine loop_den (fun s : Int => (.ro 2 p0.length false (enR c_TRegulateBlock p0) :: .fn 56 [.rptr 1 1 0 0 (enR c_i64 [p1])] :: tp 5 (.int .i64 (p0.length : Nat) :: .int .i64 s :: tp 10 []))) (fun s => []) (fun e : Unit => (tp 19 [])) (fun e => []) H ?_ (fun v1_1 o H hn1_1 hn2_1 => ?_) (fun e H => ?_)
    · refine SubF_of ⟨[], ?_, ?_, by rfl, by rfl⟩
      · simp [CvL, Cv, tp]
      · trivial
    · unfold F93_0_L1 at H
      try dsimp only at H ⊢
      try simp only [tp]
      refine sq ctNo_ok ?_
      simp only [go_sem]
      refine seqM ?_
      refine condM' rfl trivial (fun hc => ?_) (fun hc => ?_)
      · have hk1 : (bLt v1_1 (p0.length : Nat)) = false := by simpa using hc
        replace H := cond_f hc H
        refine rg ctNo_ok ?_
        simp only [go_sem]
        refine ⟨_, (Option.some.inj H).symm, ?_⟩
        refine SubF_of ⟨[], ?_, ?_, by rfl, by rfl⟩
        · simp [CvL, Cv]
        · trivial
      have hk1 : (bLt v1_1 (p0.length : Nat)) = true := by simpa using hc
      replace H := cond_t hc H
      refine rg ctNo_ok ?_
      simp only [go_sem]
      refine seqM ?_
      refine blkM ?_
      refine sq ctNo_ok ?_
      simp only [go_sem]
      refine seqM ?_
      obtain ⟨f2, H⟩ := need_some.1 H
      replace f2 := inb_iff.1 f2
      obtain ⟨r3, e4, H⟩ := bsi H
      refine rg ct93_0t0_ok ?_
      simp only [go_sem, Nat.reduceLT, Nat.reduceAdd, ct93_0t0_56, body56_0, f2, e4]
      repeat ((with_reducible refine And.intro ?_ ?_); focus exact an0)
      refine condM rfl trivial (fun hc => ?_) (fun hc => ?_)
      · have hk5 : (r3) = true := by simpa using hc
        replace H := cond_t hc H
        refine sq ctNo_ok ?_
        simp only [go_sem]
        refine rg ctNo_ok ?_
        simp only [go_sem]
        have H := hn2_1 _ (Option.some.inj H).symm
        obtain rfl := Option.some.inj H
        first | rfl | simp only [Bool.and_false, Bool.false_and, Bool.and_true, Bool.true_and] | exact congrArg AV.bool (Eq.symm (by assumption))
      have hk5 : (r3) = false := by simpa using hc
      replace H := cond_f hc H
      refine rg ctNo_ok ?_
      simp only [go_sem]
      refine rg ctNo_ok ?_
      simp only [go_sem]
      refine ⟨_, (Option.some.inj H).symm, ?_⟩
      refine SubF_of ⟨[], ?_, ?_, by rfl, by rfl⟩
      · simp [CvL, Cv]
      · trivial
    · try dsimp only at H ⊢
      try simp only [tp]
      try simp only [m_normal]
      refine sq ctNo_ok ?_
      simp only [go_sem]
      refine rg ctNo_ok ?_
      simp only [go_sem]
      obtain rfl := Option.some.inj H
      first | rfl | simp only [Bool.and_false, Bool.false_and, Bool.and_true, Bool.true_and] | exact congrArg AV.bool (Eq.symm (by assumption))
  · cases hb
noncomputable def ct55_0t0 : Ct := tab [(93, pureC body93_0)]
theorem ct55_0t0_ok : CtOk Try.prog ct55_0t0 := tab_cons ok93_0 <| tab_nil
theorem ct55_0t0_93 (l : List AV) (h : List ABlk) : ct55_0t0 93 l h = pureC body93_0 l h := rfl
noncomputable def ct55_0t1 : Ct := tab [(56, pureC body56_0)]
theorem ct55_0t1_ok : CtOk Try.prog ct55_0t1 := tab_cons ok56_0 <| tab_nil
theorem ct55_0t1_56 (l : List AV) (h : List ABlk) : ct55_0t1 56 l h = pureC body56_0 l h := rfl
noncomputable def F55_0_L1 (p1 : Int) (v1_1 : List TRegulateBlock) (v1_2 : Int) (v1_3 : Int) : Option (Lp ((List TRegulateBlock) × Int × Int) (((List TRegulateBlock) × Int) ⊕ (List TRegulateBlock))) :=
  bif (bLt v1_3 (v1_1.length : Nat)) then (need (inb v1_3 v1_1.length) <| (F56_0 (gd v1_1 v1_3.toNat) p1).bind fun r6 => bif (!r6) then (need (inb v1_2 v1_1.length) <| some (.next ((v1_1.set v1_2.toNat (gd v1_1 v1_3.toNat)), wr .i64 (v1_2 + 1), wr .i64 (v1_3 + 1)))) else (some (.next (v1_1, v1_2, wr .i64 (v1_3 + 1))))) else (some (.done (.inl (v1_1, v1_2))))
noncomputable def F55_0 (p0 : List TRegulateBlock) (p1 : Int) : Option (List TRegulateBlock) :=
  (F93_0 p0 p1).bind fun r1 => bif (bEq r1 (-1)) then (some p0) else (lp (loopD (fun s => F55_0_L1 p1 s.1 s.2.1 s.2.2) (p0, r1, wr .i64 (r1 + 1))) (fun e1 => need (slb e1.2 (e1.1.length : Nat) e1.1.length) <| need (slb 0 e1.2 e1.1.length) <| some (List.take e1.2.toNat e1.1)) some)
noncomputable def body55_0 : List AV -> List ABlk -> ED
  | [v0, .fn 56 [v1]], h => .ed [slN v0] (oS 79 2 h v0 /\ lK k_TRegulateBlock 2 (roW h v0) /\ rK 1 k_i64 (roD (deadL h [slN v0]) v1) /\ roDOb (deadL h [slN v0]) v1 /\ (F55_0 (lA g_TRegulateBlock (roW h v0)) (g_i64 (rG (roD (deadL h [slN v0]) v1)))).isSome = true) (.sl 1 2 0 ((gt (F55_0 (lA g_TRegulateBlock (roW h v0)) (g_i64 (rG (roD (deadL h [slN v0]) v1))))).length) false) [.dead, .row 79 2 ((gt (F55_0 (lA g_TRegulateBlock (roW h v0)) (g_i64 (rG (roD (deadL h [slN v0]) v1))))).length) (enR c_TRegulateBlock (gt (F55_0 (lA g_TRegulateBlock (roW h v0)) (g_i64 (rG (roD (deadL h [slN v0]) v1))))))]
  | _, _ => .fail
theorem ok55_0 : FnOk Try.prog 55 (edC body55_0) := by
  refine edit_fnV body55_0 (rs := [.tmp 4]) Try.func55 (by kernel_rfl) rfl rfl ?_
  intro l h bs ob q0 g0 hb hob
  unfold body55_0 at hb
  split at hb
  · rename_i v0 v1
    injection hb with q1 q2 q3 q4; subst q1 q2 q3 q4
    obtain ⟨hk0_0, hk0_1, hk1_0, hk1_1, hob⟩ := hob
    obtain ⟨r, H⟩ := Option.isSome_iff_exists.1 hob
    rw [H, gt_some]
    obtain ⟨p0, hp0⟩ : ∃ p0, p0 = lA g_TRegulateBlock (roW h v0) := ⟨_, rfl⟩
    rw [← hp0] at H
    obtain ⟨ev0, eb0⟩ := own_row2 (f := c_TRegulateBlock) (g := g_TRegulateBlock) (bs := [slN v0]) (i := 0) (fun hr => w_TRegulateBlock hr) hk0_0 hk0_1 (L := p0) (by rw [hp0]) rfl
    have hw1 := rK_wk (f := c_i64) (g := g_i64) (fun r h => w_i64 h) hk1_0
    obtain ⟨p1, hp_p1⟩ : ∃ p1, p1 = g_i64 (rG (roD (deadL h [slN v0]) v1)) := ⟨_, rfl⟩
    rw [← hp_p1] at H hw1
    refine ⟨[.sl 0 2 0 p0.length false, .fn 56 [.rptr 1 1 0 0 (enR c_i64 [p1])]], [.row 79 2 p0.length (enR c_TRegulateBlock p0)], rfl, ⟨(EW_own ev0 (by simp only [noro])), ⟨(EW_fn ⟨(EW_view hk1_1 hw1), trivial⟩), trivial⟩⟩, ⟨eb0, trivial⟩, ⟨noroB_en, trivial⟩, ⟨trivial, ⟨(nfB_en nr_TRegulateBlock), trivial⟩⟩, ⟨trivial, ⟨noroB_en, trivial⟩⟩, (by first | (simp only [noro]; done) | (simp only [noro, noroL]; and_intros <;> first | trivial | exact noro_bif (by simp only [noro]) (by simp only [noro]) | (simp only [noro, noroL, and_self]))), ?_⟩
    rw [Try.ntmps55]
    simp only [List.length_cons, List.length_nil, Nat.reduceAdd, Nat.reduceSub, List.replicate_succ, List.replicate_zero, List.cons_append, List.nil_append]
    unfold F55_0 at H
    try dsimp only at H
    refine sq ctNo_ok ?_
    simp only [go_sem]
    refine seqM ?_
    obtain ⟨r1, e2, H⟩ := bsi H
    refine rg ct55_0t0_ok ?_
    simp only [go_sem, Nat.reduceLT, ct55_0t0_93, body93_0, e2]
    repeat ((with_reducible refine And.intro ?_ ?_); focus exact an0)
    refine seqM ?_
    refine sq ctNo_ok ?_
    simp only [go_sem]
    refine condM rfl trivial (fun hc => ?_) (fun hc => ?_)
    · have hk3 : (bEq r1 (-1)) = true := by simpa using hc
      replace H := cond_t hc H
      refine sq ctNo_ok ?_
      simp only [go_sem]
      refine rg ctNo_ok ?_
      simp only [go_sem]
      obtain rfl := Option.some.inj H
      refine RetE_mk [] [some 0, some 0] ?_ ?_ ?_ ?_ (by rfl) (by rfl)
      · simp only [go_sem]
        try exact at0
      · simp only [go_sem]
        try exact at0
      · simp only [go_sem]
        exact (by first | (simp [Cv, getM]; done) | (simp [Cv, CvL, getM, gt_some]; omega))
      · simp only [go_sem, CvH]
        first | exact ⟨CvB_dead, CvB_row nr_TRegulateBlock cl (fun _ _ _ _ => rfl)⟩ | trivial
    have hk3 : (bEq r1 (-1)) = false := by simpa using hc
    replace H := cond_f hc H
    refine rg ctNo_ok ?_
    simp only [go_sem]
    refine seqM ?_
    refine sq ctNo_ok ?_
    simp only [go_sem]
    refine blkM ?_
    refine loop_den (fun s : (List TRegulateBlock) × Int × Int => (.sl 1 2 0 s.1.length false :: .fn 56 [.rptr 1 1 0 0 (enR c_i64 [p1])] :: .top :: .top :: .top :: .int .i64 s.2.1 :: .int .i64 s.2.2 :: tp 35 [])) (fun s => [.dead, .row 79 2 s.1.length (enR c_TRegulateBlock s.1)]) (fun e : (List TRegulateBlock) × Int => (.sl 1 2 0 e.1.length false :: tp 4 (.int .i64 e.2 :: tp 36 []))) (fun e => [.dead, .row 79 2 e.1.length (enR c_TRegulateBlock e.1)]) H ?_ (fun s o H hn1_1 hn2_1 => ?_) (fun e H => ?_)
    · refine SubF_of ⟨[some 0, some 0], ?_, ?_, by rfl, by rfl⟩
      · simp [CvL, Cv, getM, tp]
      · exact ⟨CvB_dead, CvB_row nr_TRegulateBlock cl (fun _ _ _ _ => rfl), trivial⟩
    · obtain ⟨v1_1, v1_2, v1_3⟩ := s
      unfold F55_0_L1 at H
      try dsimp only at H ⊢
      try simp only [tp]
      refine seqM ?_
      refine sq ctNo_ok ?_
      simp only [go_sem]
      repeat ((with_reducible refine And.intro ?_ ?_); focus exact an0)
      refine condM' rfl trivial (fun hc => ?_) (fun hc => ?_)
      · have hk4 : (bLt v1_3 (v1_1.length : Nat)) = false := by simpa using hc
        replace H := cond_f hc H
        refine rg ctNo_ok ?_
        simp only [go_sem]
        refine ⟨_, (Option.some.inj H).symm, ?_⟩
        refine SubF_of ⟨[some 0, some 1], ?_, ?_, by rfl, by rfl⟩
        · simp [CvL, Cv, getM]
        · exact ⟨CvB_dead, CvB_row nr_TRegulateBlock cl (fun _ _ _ _ => rfl), trivial⟩
      have hk4 : (bLt v1_3 (v1_1.length : Nat)) = true := by simpa using hc
      replace H := cond_t hc H
      refine rg ctNo_ok ?_
      simp only [go_sem]
      refine seqM ?_
      refine blkM ?_
      refine seqM ?_
      obtain ⟨f5, H⟩ := need_some.1 H
      replace f5 := inb_iff.1 f5
      refine rg ctNo_ok ?_
      simp only [go_sem, Nat.reduceLT, Nat.reduceAdd, f5]
      repeat ((with_reducible refine And.intro ?_ ?_); focus exact an4)
      refine seqM ?_
      obtain ⟨r6, e7, H⟩ := bsi H
      refine rg ct55_0t1_ok ?_
      simp only [go_sem, Nat.reduceLT, Nat.reduceAdd, ct55_0t1_56, body56_0, e7]
      repeat ((with_reducible refine And.intro ?_ ?_); focus exact an0)
      refine condM' rfl trivial (fun hc => ?_) (fun hc => ?_)
      · have hk8 : (r6) = true := by simpa using hc
        replace H := cond_f hc H
        refine rg ctNo_ok ?_
        simp only [go_sem]
        refine rg ctNo_ok ?_
        simp only [go_sem]
        refine ⟨_, (Option.some.inj H).symm, ?_⟩
        refine SubF_of ⟨[some 0, some 1], ?_, ?_, by rfl, by rfl⟩
        · simp [CvL, Cv, getM]
        · exact ⟨CvB_dead, CvB_row nr_TRegulateBlock cl (fun _ _ _ _ => rfl), trivial⟩
      have hk8 : (r6) = false := by simpa using hc
      replace H := cond_t hc H
      refine seqM ?_
      obtain ⟨f9, H⟩ := need_some.1 H
      replace f9 := inb_iff.1 f9
      refine rg ctNo_ok ?_
      simp only [go_sem, Nat.reduceLT, Nat.reduceAdd, f9]
      repeat ((with_reducible refine And.intro ?_ ?_); focus exact an4)
      refine rg ctNo_ok ?_
      simp only [go_sem]
      refine rg ctNo_ok ?_
      simp only [go_sem]
      refine ⟨_, (Option.some.inj H).symm, ?_⟩
      refine SubF_of ⟨[some 0, some 1], ?_, ?_, by rfl, by rfl⟩
      · simp [CvL, Cv, getM]
      · exact ⟨CvB_dead, CvB_row nr_TRegulateBlock cl (upc_row (f := c_TRegulateBlock) v1_1 v1_2.toNat 0 (gd v1_1 v1_3.toNat) (fun _ _ _ _ => rfl) (fun y hy => match y, hy with | 0, _ => rfl | 1, _ => rfl | (y+2), h => absurd h nlt)), trivial⟩
    · obtain ⟨w1_4, w1_5⟩ := e
      try dsimp only at H ⊢
      try simp only [tp]
      try simp only [m_normal]
      refine seqM ?_
      obtain ⟨f10, H⟩ := need_some.1 H
      replace f10 := slb_iff.1 f10
      refine rg ctNo_ok ?_
      simp only [go_sem, Nat.reduceLeDiff, Nat.reduceAdd, f10]
      repeat ((with_reducible refine And.intro ?_ ?_); focus exact an3)
      refine seqM ?_
      obtain ⟨f11, H⟩ := need_some.1 H
      replace f11 := slb_iff.1 f11
      refine rg ctNo_ok ?_
      simp only [go_sem, f11]
      repeat ((with_reducible refine And.intro ?_ ?_); focus exact an4)
      refine rg ctNo_ok ?_
      simp only [go_sem]
      obtain rfl := Option.some.inj H
      refine RetE_mk [] [some 0, some 1] ?_ ?_ ?_ ?_ (by rfl) (by rfl)
      · simp only [go_sem]
        try exact at0
      · simp only [go_sem]
        try exact at0
      · simp only [go_sem]
        exact (by first | (simp [Cv, getM, (show (List.take w1_5.toNat w1_4).length = w1_5.toNat from take_len (n := w1_4.length) cl (by omega))]; done) | (simp [Cv, CvL, getM, gt_some, (show (List.take w1_5.toNat w1_4).length = w1_5.toNat from take_len (n := w1_4.length) cl (by omega))]; omega))
      · simp only [go_sem, CvH]
        first | exact ⟨CvB_dead, (CvB_pre nr_TRegulateBlock (by rw [show (List.take w1_5.toNat w1_4).length = w1_5.toNat from take_len (n := w1_4.length) cl (by omega)]; omega) (clr_row (fun _ _ _ _ => rfl)))⟩ | trivial
  · cases hb
noncomputable def ct23t0 : Ct := tab [(50, edC body50)]
theorem ct23t0_ok : CtOk Try.prog ct23t0 := tab_cons ok50 <| tab_nil
theorem ct23t0_50 (l : List AV) (h : List ABlk) : ct23t0 50 l h = edC body50 l h := rfl
noncomputable def ct23t1 : Ct := tab [(55, edC body55_0)]
theorem ct23t1_ok : CtOk Try.prog ct23t1 := tab_cons ok55_0 <| tab_nil
theorem ct23t1_55 (l : List AV) (h : List ABlk) : ct23t1 55 l h = edC body55_0 l h := rfl
noncomputable def ct23t2 : Ct := tab [(57, edC body57_0)]
theorem ct23t2_ok : CtOk Try.prog ct23t2 := tab_cons ok57_0 <| tab_nil
theorem ct23t2_57 (l : List AV) (h : List ABlk) : ct23t2 57 l h = edC body57_0 l h := rfl
noncomputable def F23 (p0 : TRegulate) (p1 : Int) : Option (TRegulate × (List TRegulateWord) × Int) :=
  (F50 p0 p1 0).bind fun r1 => bif r1.1.isSome then (bif (!bEq r1.2 0) then (some ((TRegulate.mk [] 0 false 0 false false 0 0 [] []), [], r1.2)) else ((F55_0 ((gt r1.1).Blocked) p1).bind fun r5 => bif ((gt r1.1).Moving && (bLe ((gt r1.1).At) p1)) then (bif (!((gt r1.1).Lead)) then (some ((TRegulate.mk ((gt r1.1).Table) ((gt r1.1).To) ((gt r1.1).Lead) ((gt r1.1).At) false false 0 0 r5 ((gt r1.1).Clear)), [], 0)) else (some ((TRegulate.mk ((gt r1.1).Table) ((gt r1.1).To) ((gt r1.1).Lead) ((gt r1.1).Heard) false false 0 0 r5 ((gt r1.1).Clear)), [], 0))) else (bif ((gt r1.1).Moving && (gt r1.1).Lead) then ((F57_0 ((gt r1.1).Channel) ((gt r1.1).To) ((gt r1.1).At)).bind fun r10 => some ((TRegulate.mk ((gt r1.1).Table) ((gt r1.1).Channel) ((gt r1.1).Lead) ((gt r1.1).Heard) ((gt r1.1).Stopped) ((gt r1.1).Moving) ((gt r1.1).To) ((gt r1.1).At) r5 ((gt r1.1).Clear)), r10, 0)) else (some ((TRegulate.mk ((gt r1.1).Table) ((gt r1.1).Channel) ((gt r1.1).Lead) ((gt r1.1).Heard) ((gt r1.1).Stopped) ((gt r1.1).Moving) ((gt r1.1).To) ((gt r1.1).At) r5 ((gt r1.1).Clear)), [], 0))))) else (bif (!bEq r1.2 0) then (some ((TRegulate.mk [] 0 false 0 false false 0 0 [] []), [], r1.2)) else (none))
noncomputable def body23 : List AV -> List ABlk -> ED
  | [v0, v1], h => .ed [] (aK 10 k_TRegulate (roD (deadL h []) v0) /\ roDOb (deadL h []) v0 /\ iK .i64 (roD (deadL h []) v1) /\ roDOb (deadL h []) v1 /\ (F23 (g_TRegulate (aL (roD (deadL h []) v0))) (iA (roD (deadL h []) v1))).isSome = true) (.tup [.agg [.sl 0 3 0 ((((gt (F23 (g_TRegulate (aL (roD (deadL h []) v0))) (iA (roD (deadL h []) v1)))).1).Table).length) false, .int .i64 (((gt (F23 (g_TRegulate (aL (roD (deadL h []) v0))) (iA (roD (deadL h []) v1)))).1).Channel), .bool (((gt (F23 (g_TRegulate (aL (roD (deadL h []) v0))) (iA (roD (deadL h []) v1)))).1).Lead), .int .i64 (((gt (F23 (g_TRegulate (aL (roD (deadL h []) v0))) (iA (roD (deadL h []) v1)))).1).Heard), .bool (((gt (F23 (g_TRegulate (aL (roD (deadL h []) v0))) (iA (roD (deadL h []) v1)))).1).Stopped), .bool (((gt (F23 (g_TRegulate (aL (roD (deadL h []) v0))) (iA (roD (deadL h []) v1)))).1).Moving), .int .i64 (((gt (F23 (g_TRegulate (aL (roD (deadL h []) v0))) (iA (roD (deadL h []) v1)))).1).To), .int .i64 (((gt (F23 (g_TRegulate (aL (roD (deadL h []) v0))) (iA (roD (deadL h []) v1)))).1).At), .sl 1 2 0 ((((gt (F23 (g_TRegulate (aL (roD (deadL h []) v0))) (iA (roD (deadL h []) v1)))).1).Blocked).length) false, .sl 2 1 0 ((((gt (F23 (g_TRegulate (aL (roD (deadL h []) v0))) (iA (roD (deadL h []) v1)))).1).Clear).length) false], .sl 3 4 0 (((gt (F23 (g_TRegulate (aL (roD (deadL h []) v0))) (iA (roD (deadL h []) v1)))).2.1).length) false, .int .i64 ((gt (F23 (g_TRegulate (aL (roD (deadL h []) v0))) (iA (roD (deadL h []) v1)))).2.2)]) [.row 45 3 ((((gt (F23 (g_TRegulate (aL (roD (deadL h []) v0))) (iA (roD (deadL h []) v1)))).1).Table).length) (enR c_TRegulateChannel (((gt (F23 (g_TRegulate (aL (roD (deadL h []) v0))) (iA (roD (deadL h []) v1)))).1).Table)), .row 79 2 ((((gt (F23 (g_TRegulate (aL (roD (deadL h []) v0))) (iA (roD (deadL h []) v1)))).1).Blocked).length) (enR c_TRegulateBlock (((gt (F23 (g_TRegulate (aL (roD (deadL h []) v0))) (iA (roD (deadL h []) v1)))).1).Blocked)), .row 3 1 ((((gt (F23 (g_TRegulate (aL (roD (deadL h []) v0))) (iA (roD (deadL h []) v1)))).1).Clear).length) (enR c_i64 (((gt (F23 (g_TRegulate (aL (roD (deadL h []) v0))) (iA (roD (deadL h []) v1)))).1).Clear)), .row 23 4 (((gt (F23 (g_TRegulate (aL (roD (deadL h []) v0))) (iA (roD (deadL h []) v1)))).2.1).length) (enR c_TRegulateWord ((gt (F23 (g_TRegulate (aL (roD (deadL h []) v0))) (iA (roD (deadL h []) v1)))).2.1))]
  | _, _ => .fail
theorem ok23 : FnOk Try.prog 23 (edC body23) := by
  refine edit_fnV body23 (rs := [.cell 4 39, .tmp 5, .tmp 6]) Try.func23 (by kernel_rfl) rfl rfl ?_
  intro l h bs ob q0 g0 hb hob
  unfold body23 at hb
  split at hb
  · rename_i v0 v1
    injection hb with q1 q2 q3 q4; subst q1 q2 q3 q4
    obtain ⟨hk0_0, hk0_1, hk1_0, hk1_1, hob⟩ := hob
    obtain ⟨r, H⟩ := Option.isSome_iff_exists.1 hob
    rw [H, gt_some]
    have hw0 := wA_TRegulate hk0_0
    obtain ⟨p0, hp_p0⟩ : ∃ p0, p0 = g_TRegulate (aL (roD (deadL h []) v0)) := ⟨_, rfl⟩
    rw [← hp_p0] at H hw0
    have hw1 := iK_wk hk1_0
    obtain ⟨p1, hp_p1⟩ : ∃ p1, p1 = iA (roD (deadL h []) v1) := ⟨_, rfl⟩
    rw [← hp_p1] at H hw1
    refine ⟨[.agg [.ro 3 p0.Table.length false (enR c_TRegulateChannel p0.Table), .int .i64 p0.Channel, .bool p0.Lead, .int .i64 p0.Heard, .bool p0.Stopped, .bool p0.Moving, .int .i64 p0.To, .int .i64 p0.At, .ro 2 p0.Blocked.length false (enR c_TRegulateBlock p0.Blocked), .ro 1 p0.Clear.length false (enR c_i64 p0.Clear)], .int .i64 p1], [], rfl, ⟨(EW_view hk0_1 hw0), ⟨(EW_view hk1_1 hw1), trivial⟩⟩, trivial, trivial, ⟨(nfB_en nr_TRegulateChannel), ⟨(nfB_en nr_TRegulateBlock), ⟨(nfB_en nr_i64), ⟨(nfB_en nr_TRegulateWord), trivial⟩⟩⟩⟩, ⟨noroB_en, ⟨noroB_en, ⟨noroB_en, ⟨noroB_en, trivial⟩⟩⟩⟩, (by first | (simp only [noro, noroL, and_self]; done) | (simp only [noro, noroL]; and_intros <;> first | trivial | exact noro_bif (by simp only [noro]) (by simp only [noro]) | (simp only [noro, noroL, and_self]))), ?_⟩
    rw [Try.ntmps23]
    simp only [List.length_cons, List.length_nil, Nat.reduceAdd, Nat.reduceSub, List.replicate_succ, List.replicate_zero, List.cons_append, List.nil_append]
    unfold F23 at H
    try dsimp only at H
    refine sq ctNo_ok ?_
    simp only [go_sem, Nat.reduceAdd]
    refine seqM ?_
    obtain ⟨r1, e2, H⟩ := bsi H
    refine rg ct23t0_ok ?_
    simp only [go_sem, Nat.reduceLT, Nat.reduceAdd, ct23t0_50, body50, e2]
    repeat ((with_reducible refine And.intro ?_ ?_); focus exact an0)
    refine bif_split (c := r1.1.isSome) (fun hq3 => ?_) (fun hq3 => ?_)
    · replace H := cond_t hq3 H
      simp only [go_sem, Nat.reduceAdd, hq3, cond_true, rnm, rnmL, rhoN]
      refine seqM ?_
      refine sq ctNo_ok ?_
      simp only [go_sem]
      refine condM rfl trivial (fun hc => ?_) (fun hc => ?_)
      · have hk4 : (bEq r1.2 0) = false := by simpa using hc
        replace H := cond_t hc H
        refine sq ctNo_ok ?_
        simp only [go_sem, Nat.reduceLT, Nat.reduceAdd]
        repeat ((with_reducible refine And.intro ?_ ?_); focus exact an4)
        refine rg ctNo_ok ?_
        simp only [go_sem, Nat.reduceLT, Nat.reduceAdd]
        obtain rfl := Option.some.inj H
        refine RetE_mk [] [none, none, none, none] ?_ ?_ ?_ ?_ (by rfl) (by rfl)
        · simp only [go_sem]
          try exact at0
        · simp only [go_sem]
          try exact at0
        · simp only [go_sem]
          exact Cv_tup (CvL_cons (by first | (simp [Cv, CvL]; done) | (simp [Cv, CvL, getM, gt_some]; omega)) (CvL_cons (by first | (simp [Cv]; done) | (simp [Cv, CvL, getM, gt_some]; omega)) (CvL_cons (by simp [Cv]) CvL_nil)))
        · simp only [go_sem, CvH]
          first | exact ⟨CvB_none, CvB_none, CvB_none, CvB_none⟩ | trivial
      have hk4 : (bEq r1.2 0) = true := by simpa using hc
      replace H := cond_f hc H
      refine rg ctNo_ok ?_
      simp only [go_sem]
      refine seqM ?_
      obtain ⟨r5, e6, H⟩ := bsi H
      refine rg ct23t1_ok ?_
      simp only [go_sem, Nat.reduceLeDiff, Nat.reduceLT, Nat.reduceAdd, ct23t1_55, body55_0, e6]
      repeat ((with_reducible refine And.intro ?_ ?_); focus exact an0)
      refine seqM ?_
      refine blkM ?_
      refine seqM ?_
      refine draw_quiet shT_ok ctNo_ok (by kernel_rfl) (by kernel_rfl) ?_
      simp only [go_sem, Nat.reduceLeDiff, Nat.reduceLT, Nat.reduceAdd]
      repeat ((with_reducible refine And.intro ?_ ?_); focus exact an4)
      refine condM' rfl trivial (fun hc => ?_) (fun hc => ?_)
      · have hk7 : ((gt r1.1).Moving && (bLe ((gt r1.1).At) p1)) = false := by first | simpa using hc | simpa only [Bool.not_eq_true', Bool.not_eq_false'] using hc
        replace H := cond_f hc H
        refine sq ctNo_ok ?_
        simp only [go_sem, Nat.reduceLeDiff, Nat.reduceLT, Nat.reduceAdd]
        repeat ((with_reducible refine And.intro ?_ ?_); focus exact an4)
        refine condM' rfl trivial (fun hc => ?_) (fun hc => ?_)
        · have hk9 : ((gt r1.1).Moving && (gt r1.1).Lead) = false := by first | simpa using hc | simpa only [Bool.not_eq_true', Bool.not_eq_false'] using hc
          replace H := cond_f hc H
          refine rg ctNo_ok ?_
          simp only [go_sem]
          refine sq ctNo_ok ?_
          simp only [go_sem, Nat.reduceLT, Nat.reduceAdd]
          repeat ((with_reducible refine And.intro ?_ ?_); focus exact an4)
          refine rg ctNo_ok ?_
          simp only [go_sem, Nat.reduceLT, Nat.reduceAdd]
          obtain rfl := Option.some.inj H
          refine RetE_mk [] [some 4, some 7, some 6, none] ?_ ?_ ?_ ?_ (by rfl) (by rfl)
          · simp only [go_sem]
            try exact at0
          · simp only [go_sem]
            try exact at0
          · simp only [go_sem]
            exact Cv_tup (CvL_cons (by first | (simp [Cv, CvL, getM]; done) | (simp [Cv, CvL, getM, gt_some]; omega)) (CvL_cons (by first | (simp [Cv]; done) | (simp [Cv, CvL, getM, gt_some]; omega)) (CvL_cons (by simp [Cv]) CvL_nil)))
          · simp only [go_sem, CvH]
            first | exact ⟨CvB_row nr_TRegulateChannel cl (fun _ _ _ _ => rfl), CvB_row nr_TRegulateBlock cl (fun _ _ _ _ => rfl), CvB_row nr_i64 cl (fun _ _ _ _ => rfl), CvB_none⟩ | trivial
        have hk9 : ((gt r1.1).Moving && (gt r1.1).Lead) = true := by first | simpa using hc | simpa only [Bool.not_eq_true', Bool.not_eq_false'] using hc
        replace H := cond_t hc H
        obtain ⟨r10, e11, H⟩ := bsi H
        refine rg ct23t2_ok ?_
        simp only [go_sem, Nat.reduceLT, Nat.reduceAdd, ct23t2_57, body57_0, e11]
        repeat ((with_reducible refine And.intro ?_ ?_); focus exact an0)
        refine sq ctNo_ok ?_
        simp only [go_sem, Nat.reduceLT, Nat.reduceAdd]
        repeat ((with_reducible refine And.intro ?_ ?_); focus exact an4)
        refine rg ctNo_ok ?_
        simp only [go_sem, Nat.reduceLT, Nat.reduceAdd]
        obtain rfl := Option.some.inj H
        refine RetE_mk [] [some 4, some 7, some 6, some 8] ?_ ?_ ?_ ?_ (by rfl) (by rfl)
        · simp only [go_sem]
          try exact at0
        · simp only [go_sem]
          try exact at0
        · simp only [go_sem]
          exact Cv_tup (CvL_cons (by first | (simp [Cv, CvL, getM]; done) | (simp [Cv, CvL, getM, gt_some]; omega)) (CvL_cons (by first | (simp [Cv, getM]; done) | (simp [Cv, CvL, getM, gt_some]; omega)) (CvL_cons (by simp [Cv]) CvL_nil)))
        · simp only [go_sem, CvH]
          first | exact ⟨CvB_row nr_TRegulateChannel cl (fun _ _ _ _ => rfl), CvB_row nr_TRegulateBlock cl (fun _ _ _ _ => rfl), CvB_row nr_i64 cl (fun _ _ _ _ => rfl), CvB_row nr_TRegulateWord cl (fun _ _ _ _ => rfl)⟩ | trivial
      have hk7 : ((gt r1.1).Moving && (bLe ((gt r1.1).At) p1)) = true := by first | simpa using hc | simpa only [Bool.not_eq_true', Bool.not_eq_false'] using hc
      replace H := cond_t hc H
      refine sq ctNo_ok ?_
      simp only [go_sem, Nat.reduceLeDiff, Nat.reduceLT, Nat.reduceAdd]
      repeat ((with_reducible refine And.intro ?_ ?_); focus exact an4)
      refine seqM ?_
      refine sq ctNo_ok ?_
      simp only [go_sem, Nat.reduceLeDiff, Nat.reduceLT, Nat.reduceAdd]
      repeat ((with_reducible refine And.intro ?_ ?_); focus exact an4)
      refine condM' rfl trivial (fun hc => ?_) (fun hc => ?_)
      · have hk8 : ((gt r1.1).Lead) = true := by simpa using hc
        replace H := cond_f hc H
        refine rg ctNo_ok ?_
        simp only [go_sem]
        refine rg ctNo_ok ?_
        simp only [go_sem, Nat.reduceLeDiff, Nat.reduceAdd]
        repeat ((with_reducible refine And.intro ?_ ?_); focus exact an4)
        refine sq ctNo_ok ?_
        simp only [go_sem, Nat.reduceLT, Nat.reduceAdd]
        repeat ((with_reducible refine And.intro ?_ ?_); focus exact an4)
        refine rg ctNo_ok ?_
        simp only [go_sem, Nat.reduceLT, Nat.reduceAdd]
        obtain rfl := Option.some.inj H
        refine RetE_mk [] [some 4, some 7, some 6, none] ?_ ?_ ?_ ?_ (by rfl) (by rfl)
        · simp only [go_sem]
          try exact at0
        · simp only [go_sem]
          try exact at0
        · simp only [go_sem]
          exact Cv_tup (CvL_cons (by first | (simp [Cv, CvL, getM]; done) | (simp [Cv, CvL, getM, gt_some]; omega)) (CvL_cons (by first | (simp [Cv]; done) | (simp [Cv, CvL, getM, gt_some]; omega)) (CvL_cons (by simp [Cv]) CvL_nil)))
        · simp only [go_sem, CvH]
          first | exact ⟨CvB_row nr_TRegulateChannel cl (fun _ _ _ _ => rfl), CvB_row nr_TRegulateBlock cl (fun _ _ _ _ => rfl), CvB_row nr_i64 cl (fun _ _ _ _ => rfl), CvB_none⟩ | trivial
      have hk8 : ((gt r1.1).Lead) = false := by simpa using hc
      replace H := cond_t hc H
      refine rg ctNo_ok ?_
      simp only [go_sem, Nat.reduceLeDiff, Nat.reduceLT, Nat.reduceAdd]
      repeat ((with_reducible refine And.intro ?_ ?_); focus exact an4)
      refine rg ctNo_ok ?_
      simp only [go_sem, Nat.reduceLeDiff, Nat.reduceAdd]
      repeat ((with_reducible refine And.intro ?_ ?_); focus exact an4)
      refine sq ctNo_ok ?_
      simp only [go_sem, Nat.reduceLT, Nat.reduceAdd]
      repeat ((with_reducible refine And.intro ?_ ?_); focus exact an4)
      refine rg ctNo_ok ?_
      simp only [go_sem, Nat.reduceLT, Nat.reduceAdd]
      obtain rfl := Option.some.inj H
      refine RetE_mk [] [some 4, some 7, some 6, none] ?_ ?_ ?_ ?_ (by rfl) (by rfl)
      · simp only [go_sem]
        try exact at0
      · simp only [go_sem]
        try exact at0
      · simp only [go_sem]
        exact Cv_tup (CvL_cons (by first | (simp [Cv, CvL, getM]; done) | (simp [Cv, CvL, getM, gt_some]; omega)) (CvL_cons (by first | (simp [Cv]; done) | (simp [Cv, CvL, getM, gt_some]; omega)) (CvL_cons (by simp [Cv]) CvL_nil)))
      · simp only [go_sem, CvH]
        first | exact ⟨CvB_row nr_TRegulateChannel cl (fun _ _ _ _ => rfl), CvB_row nr_TRegulateBlock cl (fun _ _ _ _ => rfl), CvB_row nr_i64 cl (fun _ _ _ _ => rfl), CvB_none⟩ | trivial
    replace H := cond_f hq3 H
    simp only [go_sem, hq3, cond_false]
    refine seqM ?_
    refine sq ctNo_ok ?_
    simp only [go_sem]
    refine condM' rfl trivial (fun hc => ?_) (fun hc => ?_)
    · have hk12 : (bEq r1.2 0) = true := by simpa using hc
      replace H := cond_f hc H
      refine rg ctNo_ok ?_
      simp only [go_sem]
      refine seqM ?_
      cases H
    have hk12 : (bEq r1.2 0) = false := by simpa using hc
    replace H := cond_t hc H
    refine sq ctNo_ok ?_
    simp only [go_sem, Nat.reduceLT, Nat.reduceAdd]
    repeat ((with_reducible refine And.intro ?_ ?_); focus exact an4)
    refine rg ctNo_ok ?_
    simp only [go_sem, Nat.reduceLT, Nat.reduceAdd]
    obtain rfl := Option.some.inj H
    refine RetE_mk [] [none, none, none, none] ?_ ?_ ?_ ?_ (by rfl) (by rfl)
    · simp only [go_sem]
      try exact at0
    · simp only [go_sem]
      try exact at0
    · simp only [go_sem]
      exact Cv_tup (CvL_cons (by first | (simp [Cv, CvL]; done) | (simp [Cv, CvL, getM, gt_some]; omega)) (CvL_cons (by first | (simp [Cv]; done) | (simp [Cv, CvL, getM, gt_some]; omega)) (CvL_cons (by simp [Cv]) CvL_nil)))
    · simp only [go_sem, CvH]
      first | exact ⟨CvB_none, CvB_none, CvB_none, CvB_none⟩ | trivial
  · cases hb
noncomputable def F83 (p0 : Int) (p1 : Int) (p2 : Int) : Option (Bool) :=
  some ((bLe p1 p0) && (bLe p0 p2))
noncomputable def body83 : List AV -> AR
  | [v0, v1, v2] => .pure (iK .i64 v0 /\ iK .i64 v1 /\ iK .i64 v2 /\ (F83 (iA v0) (iA v1) (iA v2)).isSome = true) (.bool (gt (F83 (iA v0) (iA v1) (iA v2))))
  | _ => .fail
theorem ok83 : FnOk Try.prog 83 (pureC body83) := by
  refine pure_fnM body83 (rs := [.tmp 6]) Try.func83 (by kernel_rfl) rfl rfl ?_
  intro l ob v hb hob
  unfold body83 at hb
  split at hb
  · rename_i v0 v1 v2
    injection hb with q1 q2; subst q1 q2
    obtain ⟨hk0_0, hk1_0, hk2_0, hob⟩ := hob
    obtain ⟨r, H⟩ := Option.isSome_iff_exists.1 hob
    rw [H, gt_some]
    have hw0 := iK_wk hk0_0
    have hw1 := iK_wk hk1_0
    have hw2 := iK_wk hk2_0
    generalize iA v0 = p0 at H hw0
    generalize iA v1 = p1 at H hw1
    generalize iA v2 = p2 at H hw2
    refine ⟨[.int .i64 p0, .int .i64 p1, .int .i64 p2], _, (fun E vs F => FR_wk1 hw0.1 F (fun vs F => FR_wk1 hw1.1 F (fun vs F => FR_wk1 hw2.1 F (fun vs F => F)))), rfl, rfl, ?_⟩
    rw [Try.ntmps83]
    simp only [List.length_cons, List.length_nil, Nat.reduceAdd, Nat.reduceSub, List.replicate_succ, List.replicate_zero, List.cons_append, List.nil_append]
    unfold F83 at H
    try dsimp only at H
    refine sq ctNo_ok ?_
    simp only [go_sem]
    refine sq ctNo_ok ?_
    simp only [go_sem]
    repeat ((with_reducible refine And.intro ?_ ?_); focus exact an4)
    refine rg ctNo_ok ?_
    simp only [go_sem]
    obtain rfl := Option.some.inj H
    first | rfl | simp only [Bool.and_false, Bool.false_and, Bool.and_true, Bool.true_and] | exact congrArg AV.bool (Eq.symm (by assumption))
  · cases hb
noncomputable def ct44t0 : Ct := tab [(83, pureC body83)]
theorem ct44t0_ok : CtOk Try.prog ct44t0 := tab_cons ok83 <| tab_nil
theorem ct44t0_83 (l : List AV) (h : List ABlk) : ct44t0 83 l h = pureC body83 l h := rfl
noncomputable def F44 (p0 : TRegulateWord) : Option (Bool) :=
  bif (bEq p0.Kind 1) then ((F83 p0.Channel 1 255).bind fun r2 => need (bif r2 then ((F83 p0.To 1 255).isSome) else true) <| need (bif (r2 && (gt (F83 p0.To 1 255))) then ((F83 p0.At 0 1099511627776).isSome) else true) <| some ((r2 && (gt (F83 p0.To 1 255))) && (gt (F83 p0.At 0 1099511627776)))) else (bif (bEq p0.Kind 2) then ((F83 p0.Channel 1 255).bind fun r7 => need (bif r7 then ((F83 p0.To 0 0).isSome) else true) <| need (bif (r7 && (gt (F83 p0.To 0 0))) then ((F83 p0.At 0 0).isSome) else true) <| some ((r7 && (gt (F83 p0.To 0 0))) && (gt (F83 p0.At 0 0)))) else (bif (bEq p0.Kind 3) then ((F83 p0.Channel 1 255).bind fun r12 => need (bif r12 then ((F83 p0.To 0 0).isSome) else true) <| need (bif (r12 && (gt (F83 p0.To 0 0))) then ((F83 p0.At 0 1099511627776).isSome) else true) <| some ((r12 && (gt (F83 p0.To 0 0))) && (gt (F83 p0.At 0 1099511627776)))) else (some false)))
noncomputable def body44 : List AV -> AR
  | [v0] => .pure (aK 4 k_TRegulateWord v0 /\ (F44 (g_TRegulateWord (aL v0))).isSome = true) (.bool (gt (F44 (g_TRegulateWord (aL v0)))))
  | _ => .fail
theorem ok44 : FnOk Try.prog 44 (pureC body44) := by
  refine pure_fnM body44 (rs := [.tmp 2]) Try.func44 (by kernel_rfl) rfl rfl ?_
  intro l ob v hb hob
  unfold body44 at hb
  split at hb
  · rename_i v0
    injection hb with q1 q2; subst q1 q2
    obtain ⟨hk0_0, hob⟩ := hob
    obtain ⟨r, H⟩ := Option.isSome_iff_exists.1 hob
    rw [H, gt_some]
    have hw0 := wA_TRegulateWord hk0_0
    generalize g_TRegulateWord (aL v0) = p0 at H hw0
    refine ⟨[.agg [.int .u8 p0.Kind, .int .i64 p0.Channel, .int .i64 p0.To, .int .i64 p0.At]], _, (fun E vs F => FR_wk1 hw0.1 F (fun vs F => F)), rfl, rfl, ?_⟩
    rw [Try.ntmps44]
    simp only [List.length_cons, List.length_nil, Nat.reduceAdd, Nat.reduceSub, List.replicate_succ, List.replicate_zero, List.cons_append, List.nil_append]
    unfold F44 at H
    try dsimp only at H
    refine sq ctNo_ok ?_
    simp only [go_sem]
    refine sq ctNo_ok ?_
    simp only [go_sem]
    refine sq ctNo_ok ?_
    simp only [go_sem]
    refine seqM ?_
    refine sq ctNo_ok ?_
    simp only [go_sem, Nat.reduceLeDiff, Nat.reduceLT, Nat.reduceAdd]
    repeat ((with_reducible refine And.intro ?_ ?_); focus exact an4)
    refine blkM ?_
    refine sq ctNo_ok ?_
    simp only [go_sem]
    refine condM rfl trivial (fun hc => ?_) (fun hc => ?_)
    · have hk1 : (bEq p0.Kind 1) = true := by simpa using hc
      replace H := cond_t hc H
      refine rg ctNo_ok ?_
      simp only [go_sem]
      refine seqM ?_
      obtain ⟨r2, e3, H⟩ := bsi H
      obtain ⟨f4, H⟩ := need_some.1 H
      replace f4 := g_iff.1 f4
      obtain ⟨f5, H⟩ := need_some.1 H
      replace f5 := g_iff.1 f5
      refine rg ct44t0_ok ?_
      simp only [go_sem, Nat.reduceLeDiff, Nat.reduceLT, Nat.reduceAdd, ct44t0_83, body83, e3]
      repeat ((with_reducible refine And.intro ?_ ?_); focus (first | (with_reducible trivial) | omega | exact f4 | exact f5 | (intro g; have q := f4 (by first | exact g | (rw [g]; rfl) | simpa using g); first | exact q | exact ⟨q.1, q.2.1⟩ | exact q.2.2 | omega | exact ⟨g, q⟩ | exact ⟨trivial, q⟩ | exact ⟨g, q.1, q.2.1⟩ | exact ⟨g, q.2.2⟩) | (intro g; have q := f5 (by first | exact g | (rw [g]; rfl) | simpa using g); first | exact q | exact ⟨q.1, q.2.1⟩ | exact q.2.2 | omega | exact ⟨g, q⟩ | exact ⟨trivial, q⟩ | exact ⟨g, q.1, q.2.1⟩ | exact ⟨g, q.2.2⟩) | (intro g; (try have q0 := f4 (by first | exact g | (rw [g]; rfl) | simpa using g)); (try have q1 := f5 (by first | exact g | (rw [g]; rfl) | simpa using g)); and_intros <;> first | (with_reducible trivial) | assumption | exact nfc | (intro g2; rw [g, g2]; rfl) | (intro g2; assumption) | (simp only [g, Bool.true_and, Bool.and_true, Bool.not_false, Bool.not_true]; assumption) | grind) | (and_intros <;> first | (with_reducible trivial) | omega | assumption | exact nfc | first | exact rfl | exact trivial | exact fitI | exact .inr rfl | exact .inl rfl | exact fun x hx => absurd hx (by omega)) | grind))
      refine rg ctNo_ok ?_
      simp only [go_sem]
      obtain rfl := Option.some.inj H
      first | rfl | simp only [Bool.and_false, Bool.false_and, Bool.and_true, Bool.true_and] | exact congrArg AV.bool (Eq.symm (by assumption))
    have hk1 : (bEq p0.Kind 1) = false := by simpa using hc
    replace H := cond_f hc H
    refine sq ctNo_ok ?_
    simp only [go_sem]
    refine condM rfl trivial (fun hc => ?_) (fun hc => ?_)
    · have hk6 : (bEq p0.Kind 2) = true := by simpa using hc
      replace H := cond_t hc H
      refine rg ctNo_ok ?_
      simp only [go_sem]
      refine seqM ?_
      obtain ⟨r7, e8, H⟩ := bsi H
      obtain ⟨f9, H⟩ := need_some.1 H
      replace f9 := g_iff.1 f9
      obtain ⟨f10, H⟩ := need_some.1 H
      replace f10 := g_iff.1 f10
      refine rg ct44t0_ok ?_
      simp only [go_sem, Nat.reduceLeDiff, Nat.reduceLT, Nat.reduceAdd, ct44t0_83, body83, e8]
      repeat ((with_reducible refine And.intro ?_ ?_); focus (first | (with_reducible trivial) | omega | exact f9 | exact f10 | (intro g; have q := f9 (by first | exact g | (rw [g]; rfl) | simpa using g); first | exact q | exact ⟨q.1, q.2.1⟩ | exact q.2.2 | omega | exact ⟨g, q⟩ | exact ⟨trivial, q⟩ | exact ⟨g, q.1, q.2.1⟩ | exact ⟨g, q.2.2⟩) | (intro g; have q := f10 (by first | exact g | (rw [g]; rfl) | simpa using g); first | exact q | exact ⟨q.1, q.2.1⟩ | exact q.2.2 | omega | exact ⟨g, q⟩ | exact ⟨trivial, q⟩ | exact ⟨g, q.1, q.2.1⟩ | exact ⟨g, q.2.2⟩) | (intro g; (try have q0 := f9 (by first | exact g | (rw [g]; rfl) | simpa using g)); (try have q1 := f10 (by first | exact g | (rw [g]; rfl) | simpa using g)); and_intros <;> first | (with_reducible trivial) | assumption | exact nfc | (intro g2; rw [g, g2]; rfl) | (intro g2; assumption) | (simp only [g, Bool.true_and, Bool.and_true, Bool.not_false, Bool.not_true]; assumption) | grind) | (and_intros <;> first | (with_reducible trivial) | omega | assumption | exact nfc | first | exact rfl | exact trivial | exact fitI | exact .inr rfl | exact .inl rfl | exact fun x hx => absurd hx (by omega)) | grind))
      refine rg ctNo_ok ?_
      simp only [go_sem]
      obtain rfl := Option.some.inj H
      first | rfl | simp only [Bool.and_false, Bool.false_and, Bool.and_true, Bool.true_and] | exact congrArg AV.bool (Eq.symm (by assumption))
    have hk6 : (bEq p0.Kind 2) = false := by simpa using hc
    replace H := cond_f hc H
    refine sq ctNo_ok ?_
    simp only [go_sem]
    refine condM' rfl trivial (fun hc => ?_) (fun hc => ?_)
    · have hk11 : (bEq p0.Kind 3) = false := by simpa using hc
      replace H := cond_f hc H
      refine sq ctNo_ok ?_
      simp only [go_sem]
      refine rg ctNo_ok ?_
      simp only [go_sem]
      obtain rfl := Option.some.inj H
      first | rfl | simp only [Bool.and_false, Bool.false_and, Bool.and_true, Bool.true_and] | exact congrArg AV.bool (Eq.symm (by assumption))
    have hk11 : (bEq p0.Kind 3) = true := by simpa using hc
    replace H := cond_t hc H
    refine rg ctNo_ok ?_
    simp only [go_sem]
    refine seqM ?_
    obtain ⟨r12, e13, H⟩ := bsi H
    obtain ⟨f14, H⟩ := need_some.1 H
    replace f14 := g_iff.1 f14
    obtain ⟨f15, H⟩ := need_some.1 H
    replace f15 := g_iff.1 f15
    refine rg ct44t0_ok ?_
    simp only [go_sem, Nat.reduceLeDiff, Nat.reduceLT, Nat.reduceAdd, ct44t0_83, body83, e13]
    repeat ((with_reducible refine And.intro ?_ ?_); focus (first | (with_reducible trivial) | omega | exact f14 | exact f15 | (intro g; have q := f14 (by first | exact g | (rw [g]; rfl) | simpa using g); first | exact q | exact ⟨q.1, q.2.1⟩ | exact q.2.2 | omega | exact ⟨g, q⟩ | exact ⟨trivial, q⟩ | exact ⟨g, q.1, q.2.1⟩ | exact ⟨g, q.2.2⟩) | (intro g; have q := f15 (by first | exact g | (rw [g]; rfl) | simpa using g); first | exact q | exact ⟨q.1, q.2.1⟩ | exact q.2.2 | omega | exact ⟨g, q⟩ | exact ⟨trivial, q⟩ | exact ⟨g, q.1, q.2.1⟩ | exact ⟨g, q.2.2⟩) | (intro g; (try have q0 := f14 (by first | exact g | (rw [g]; rfl) | simpa using g)); (try have q1 := f15 (by first | exact g | (rw [g]; rfl) | simpa using g)); and_intros <;> first | (with_reducible trivial) | assumption | exact nfc | (intro g2; rw [g, g2]; rfl) | (intro g2; assumption) | (simp only [g, Bool.true_and, Bool.and_true, Bool.not_false, Bool.not_true]; assumption) | grind) | (and_intros <;> first | (with_reducible trivial) | omega | assumption | exact nfc | first | exact rfl | exact trivial | exact fitI | exact .inr rfl | exact .inl rfl | exact fun x hx => absurd hx (by omega)) | grind))
    refine rg ctNo_ok ?_
    simp only [go_sem]
    obtain rfl := Option.some.inj H
    first | rfl | simp only [Bool.and_false, Bool.false_and, Bool.and_true, Bool.true_and] | exact congrArg AV.bool (Eq.symm (by assumption))
  · cases hb
def M79 : List (Int × Value) := [(1, .agg #[.func (.func 104) #[] #[], .func (.func 105) #[] #[]]), (2, .agg #[.func (.func 106) #[] #[], .func (.func 107) #[] #[]]), (3, .agg #[.func (.func 108) #[] #[], .func (.func 109) #[] #[]])]
theorem lk79 (n : Int) : lkM M79 n = bif bEq n 1 then .agg [.fn 104 [], .fn 105 []] else bif bEq n 2 then .agg [.fn 106 [], .fn 107 []] else bif bEq n 3 then .agg [.fn 108 [], .fn 109 []] else .top := rfl
theorem has79 (n : Int) : hasM M79 n = bif bEq n 1 then true else bif bEq n 2 then true else bif bEq n 3 then true else false := rfl
theorem go79 (w : World) : Calls Try.prog 79 #[] w fun e w' => e = .returned (.map (some w.heap.size)) /\ ∃ es c, NewMap w w' es c /\ es.toList.map (fun e => (e.key, e.val)) = M79.map (fun q => (Value.int .u8 q.1, q.2)) := by
  refine calls_of_wp Try.func79 rfl ?_
  refine wp_seq (wp_region_list ?_)
  refine stepL rfl rfl ?_
  refine wp_seq (wp_region_list ?_)
  refine stepL (r := .map (some w.heap.size)) (w' := w.alloc (.map #[] 0)) rfl rfl ?_
  have n0 := NewMap.mk0 w
  refine stepL (r := .agg #[.func (.func 104) #[] #[], .func (.func 105) #[] #[]]) (w' := w.alloc (.map #[] 0)) rfl (by kernel_rfl) ?_
  obtain ⟨w1, r1, n1⟩ := n0.ins (P := Try.prog) (mt := 133) (kt := 5) (et := 132) (n := 1) (v := .agg #[.func (.func 104) #[] #[], .func (.func 105) #[] #[]]) (by kernel_rfl) (by kernel_rfl) (by simp [MapKept.IsKey]) (by simp)
  refine stepS rfl (skipU r1) ?_
  refine stepL (r := .agg #[.func (.func 106) #[] #[], .func (.func 107) #[] #[]]) (w' := w1) rfl (by kernel_rfl) ?_
  obtain ⟨w2, r2, n2⟩ := n1.ins (P := Try.prog) (mt := 133) (kt := 5) (et := 132) (n := 2) (v := .agg #[.func (.func 106) #[] #[], .func (.func 107) #[] #[]]) (by kernel_rfl) (by kernel_rfl) (by simp [MapKept.IsKey]) (by simp)
  refine stepS rfl (skipU r2) ?_
  refine stepL (r := .agg #[.func (.func 108) #[] #[], .func (.func 109) #[] #[]]) (w' := w2) rfl (by kernel_rfl) ?_
  obtain ⟨w3, r3, n3⟩ := n2.ins (P := Try.prog) (mt := 133) (kt := 5) (et := 132) (n := 3) (v := .agg #[.func (.func 108) #[] #[], .func (.func 109) #[] #[]]) (by kernel_rfl) (by kernel_rfl) (by simp [MapKept.IsKey]) (by simp)
  refine stepS rfl (skipU r3) ?_
  refine stepL rfl rfl ?_
  refine stepL rfl rfl ?_
  refine wp_ret ?_
  exact ⟨rfl, .map (some w.heap.size), by kernel_rfl, rfl, _, _, n3, rfl⟩
theorem ok79 : FnOk Try.prog 79 (mapC M79) := map_fn ⟨_, Try.func79, by kernel_rfl, by kernel_rfl⟩ M79 go79
noncomputable def F104_0 (p0_2 : Bool) (p1 : TRegulateWord) (p2 : Int) : Option (Bool) :=
  some ((!p0_2) && (bLe p2 p1.At))
noncomputable def body104_0 : List AV -> AR
  | [v0, v1, v2] => .pure (rM 10 v0 /\ bK (rG v0 2) /\ aK 4 k_TRegulateWord v1 /\ iK .i64 v2 /\ (F104_0 (bA (rG v0 2)) (g_TRegulateWord (aL v1)) (iA v2)).isSome = true) (.bool (gt (F104_0 (bA (rG v0 2)) (g_TRegulateWord (aL v1)) (iA v2))))
  | _ => .fail
theorem ok104_0 : FnOk Try.prog 104 (pureC body104_0) := by
  refine pure_fnM body104_0 (rs := [.tmp 6]) Try.func104 (by kernel_rfl) rfl rfl ?_
  intro l ob v hb hob
  unfold body104_0 at hb
  split at hb
  · rename_i v0 v1 v2
    injection hb with q1 q2; subst q1 q2
    obtain ⟨hk0_0, hk0_1, hk1_0, hk2_0, hob⟩ := hob
    obtain ⟨r, H⟩ := Option.isSome_iff_exists.1 hob
    rw [H, gt_some]
    have hw0 := (rM_wk (cells := [AV.top, AV.top, AV.bool (bA (rG v0 2)), AV.top, AV.top, AV.top, AV.top, AV.top, AV.top, AV.top]) hk0_0 (fun y hy => match y, hy with | 0, _ => top_wk | 1, _ => top_wk | 2, _ => bK_wk hk0_1 | 3, _ => top_wk | 4, _ => top_wk | 5, _ => top_wk | 6, _ => top_wk | 7, _ => top_wk | 8, _ => top_wk | 9, _ => top_wk | y + 10, hy => absurd hy (by omega)))
    have hw1 := wA_TRegulateWord hk1_0
    have hw2 := iK_wk hk2_0
    generalize bA (rG v0 2) = p0_2 at H hw0
    generalize g_TRegulateWord (aL v1) = p1 at H hw1
    generalize iA v2 = p2 at H hw2
    refine ⟨[.rptr 10 1 0 0 (fun _ y => getL [.top, .top, .bool p0_2, .top, .top, .top, .top, .top, .top, .top] y), .agg [.int .u8 p1.Kind, .int .i64 p1.Channel, .int .i64 p1.To, .int .i64 p1.At], .int .i64 p2], _, (fun E vs F => FR_wk1 hw0.1 F (fun vs F => FR_wk1 hw1.1 F (fun vs F => FR_wk1 hw2.1 F (fun vs F => F)))), rfl, rfl, ?_⟩
    rw [Try.ntmps104]
    simp only [List.length_cons, List.length_nil, Nat.reduceAdd, Nat.reduceSub, List.replicate_succ, List.replicate_zero, List.cons_append, List.nil_append]
    unfold F104_0 at H
    try dsimp only at H
    refine sq ctNo_ok ?_
    simp only [go_sem]
    refine sq ctNo_ok ?_
    simp only [go_sem, Nat.reduceLeDiff, Nat.reduceLT, Nat.reduceAdd]
    repeat ((with_reducible refine And.intro ?_ ?_); focus exact an4)
    refine rg ctNo_ok ?_
    simp only [go_sem]
    obtain rfl := Option.some.inj H
    first | rfl | simp only [Bool.and_false, Bool.false_and, Bool.and_true, Bool.true_and] | exact congrArg AV.bool (Eq.symm (by assumption))
  · cases hb
noncomputable def ct105_0t0 : Ct := tab [(61, pureC body61_0)]
theorem ct105_0t0_ok : CtOk Try.prog ct105_0t0 := tab_cons ok61_0 <| tab_nil
theorem ct105_0t0_61 (l : List AV) (h : List ABlk) : ct105_0t0 61 l h = pureC body61_0 l h := rfl
noncomputable def ct105_0t1 : Ct := tab [(92, edC body92_0)]
theorem ct105_0t1_ok : CtOk Try.prog ct105_0t1 := tab_cons ok92_0 <| tab_nil
theorem ct105_0t1_92 (l : List AV) (h : List ABlk) : ct105_0t1 92 l h = edC body92_0 l h := rfl
noncomputable def F105_0 (p0 : TRegulate) (p1 : TRegulateWord) (p2 : Int) (p3 : Int) : Option ((List TRegulateWord) × Int × TRegulate) :=
  (F61_0 p0.Table p1.To).bind fun r1 => bif (!r1) then (some ([], 6, (TRegulate.mk p0.Table p0.Channel p0.Lead p0.Heard p0.Stopped p0.Moving p0.To p0.At p0.Blocked p0.Clear))) else ((F92_0 (TRegulate.mk p0.Table p0.Channel p0.Lead p0.Heard p0.Stopped p0.Moving p0.To p0.At p0.Blocked p0.Clear) p3).bind fun r4 => some ([], 0, (TRegulate.mk r4.Table r4.Channel r4.Lead r4.Heard r4.Stopped true p1.To p1.At r4.Blocked r4.Clear)))
noncomputable def body105_0 : List AV -> List ABlk -> ED
  | [v0, v1, v2, v3], h => .ed [ptB v0, slN (getL (celL h v0) 0), slN (getL (celL h v0) 8), slN (getL (celL h v0) 9)] (pK 39 10 h v0 /\ k_TRegulate (getL (roWL h (celL h v0))) /\ oS 45 3 h (getL (celL h v0) 0) /\ nref (getL (celL h v0) 1) /\ nref (getL (celL h v0) 2) /\ nref (getL (celL h v0) 3) /\ nref (getL (celL h v0) 4) /\ nref (getL (celL h v0) 5) /\ nref (getL (celL h v0) 6) /\ nref (getL (celL h v0) 7) /\ oS 79 2 h (getL (celL h v0) 8) /\ oS 3 1 h (getL (celL h v0) 9) /\ aK 4 k_TRegulateWord (roD (deadL h [ptB v0, slN (getL (celL h v0) 0), slN (getL (celL h v0) 8), slN (getL (celL h v0) 9)]) v1) /\ roDOb (deadL h [ptB v0, slN (getL (celL h v0) 0), slN (getL (celL h v0) 8), slN (getL (celL h v0) 9)]) v1 /\ iK .i64 (roD (deadL h [ptB v0, slN (getL (celL h v0) 0), slN (getL (celL h v0) 8), slN (getL (celL h v0) 9)]) v2) /\ roDOb (deadL h [ptB v0, slN (getL (celL h v0) 0), slN (getL (celL h v0) 8), slN (getL (celL h v0) 9)]) v2 /\ iK .i64 (roD (deadL h [ptB v0, slN (getL (celL h v0) 0), slN (getL (celL h v0) 8), slN (getL (celL h v0) 9)]) v3) /\ roDOb (deadL h [ptB v0, slN (getL (celL h v0) 0), slN (getL (celL h v0) 8), slN (getL (celL h v0) 9)]) v3 /\ (F105_0 (g_TRegulate (getL (roWL h (celL h v0)))) (g_TRegulateWord (aL (roD (deadL h [ptB v0, slN (getL (celL h v0) 0), slN (getL (celL h v0) 8), slN (getL (celL h v0) 9)]) v1))) (iA (roD (deadL h [ptB v0, slN (getL (celL h v0) 0), slN (getL (celL h v0) 8), slN (getL (celL h v0) 9)]) v2)) (iA (roD (deadL h [ptB v0, slN (getL (celL h v0) 0), slN (getL (celL h v0) 8), slN (getL (celL h v0) 9)]) v3))).isSome = true) (.tup [.sl 7 4 0 (((gt (F105_0 (g_TRegulate (getL (roWL h (celL h v0)))) (g_TRegulateWord (aL (roD (deadL h [ptB v0, slN (getL (celL h v0) 0), slN (getL (celL h v0) 8), slN (getL (celL h v0) 9)]) v1))) (iA (roD (deadL h [ptB v0, slN (getL (celL h v0) 0), slN (getL (celL h v0) 8), slN (getL (celL h v0) 9)]) v2)) (iA (roD (deadL h [ptB v0, slN (getL (celL h v0) 0), slN (getL (celL h v0) 8), slN (getL (celL h v0) 9)]) v3)))).1).length) false, .int .i64 ((gt (F105_0 (g_TRegulate (getL (roWL h (celL h v0)))) (g_TRegulateWord (aL (roD (deadL h [ptB v0, slN (getL (celL h v0) 0), slN (getL (celL h v0) 8), slN (getL (celL h v0) 9)]) v1))) (iA (roD (deadL h [ptB v0, slN (getL (celL h v0) 0), slN (getL (celL h v0) 8), slN (getL (celL h v0) 9)]) v2)) (iA (roD (deadL h [ptB v0, slN (getL (celL h v0) 0), slN (getL (celL h v0) 8), slN (getL (celL h v0) 9)]) v3)))).2.1)]) [.lit 39 [.sl 4 3 0 ((((gt (F105_0 (g_TRegulate (getL (roWL h (celL h v0)))) (g_TRegulateWord (aL (roD (deadL h [ptB v0, slN (getL (celL h v0) 0), slN (getL (celL h v0) 8), slN (getL (celL h v0) 9)]) v1))) (iA (roD (deadL h [ptB v0, slN (getL (celL h v0) 0), slN (getL (celL h v0) 8), slN (getL (celL h v0) 9)]) v2)) (iA (roD (deadL h [ptB v0, slN (getL (celL h v0) 0), slN (getL (celL h v0) 8), slN (getL (celL h v0) 9)]) v3)))).2.2).Table).length) false, .int .i64 (((gt (F105_0 (g_TRegulate (getL (roWL h (celL h v0)))) (g_TRegulateWord (aL (roD (deadL h [ptB v0, slN (getL (celL h v0) 0), slN (getL (celL h v0) 8), slN (getL (celL h v0) 9)]) v1))) (iA (roD (deadL h [ptB v0, slN (getL (celL h v0) 0), slN (getL (celL h v0) 8), slN (getL (celL h v0) 9)]) v2)) (iA (roD (deadL h [ptB v0, slN (getL (celL h v0) 0), slN (getL (celL h v0) 8), slN (getL (celL h v0) 9)]) v3)))).2.2).Channel), .bool (((gt (F105_0 (g_TRegulate (getL (roWL h (celL h v0)))) (g_TRegulateWord (aL (roD (deadL h [ptB v0, slN (getL (celL h v0) 0), slN (getL (celL h v0) 8), slN (getL (celL h v0) 9)]) v1))) (iA (roD (deadL h [ptB v0, slN (getL (celL h v0) 0), slN (getL (celL h v0) 8), slN (getL (celL h v0) 9)]) v2)) (iA (roD (deadL h [ptB v0, slN (getL (celL h v0) 0), slN (getL (celL h v0) 8), slN (getL (celL h v0) 9)]) v3)))).2.2).Lead), .int .i64 (((gt (F105_0 (g_TRegulate (getL (roWL h (celL h v0)))) (g_TRegulateWord (aL (roD (deadL h [ptB v0, slN (getL (celL h v0) 0), slN (getL (celL h v0) 8), slN (getL (celL h v0) 9)]) v1))) (iA (roD (deadL h [ptB v0, slN (getL (celL h v0) 0), slN (getL (celL h v0) 8), slN (getL (celL h v0) 9)]) v2)) (iA (roD (deadL h [ptB v0, slN (getL (celL h v0) 0), slN (getL (celL h v0) 8), slN (getL (celL h v0) 9)]) v3)))).2.2).Heard), .bool (((gt (F105_0 (g_TRegulate (getL (roWL h (celL h v0)))) (g_TRegulateWord (aL (roD (deadL h [ptB v0, slN (getL (celL h v0) 0), slN (getL (celL h v0) 8), slN (getL (celL h v0) 9)]) v1))) (iA (roD (deadL h [ptB v0, slN (getL (celL h v0) 0), slN (getL (celL h v0) 8), slN (getL (celL h v0) 9)]) v2)) (iA (roD (deadL h [ptB v0, slN (getL (celL h v0) 0), slN (getL (celL h v0) 8), slN (getL (celL h v0) 9)]) v3)))).2.2).Stopped), .bool (((gt (F105_0 (g_TRegulate (getL (roWL h (celL h v0)))) (g_TRegulateWord (aL (roD (deadL h [ptB v0, slN (getL (celL h v0) 0), slN (getL (celL h v0) 8), slN (getL (celL h v0) 9)]) v1))) (iA (roD (deadL h [ptB v0, slN (getL (celL h v0) 0), slN (getL (celL h v0) 8), slN (getL (celL h v0) 9)]) v2)) (iA (roD (deadL h [ptB v0, slN (getL (celL h v0) 0), slN (getL (celL h v0) 8), slN (getL (celL h v0) 9)]) v3)))).2.2).Moving), .int .i64 (((gt (F105_0 (g_TRegulate (getL (roWL h (celL h v0)))) (g_TRegulateWord (aL (roD (deadL h [ptB v0, slN (getL (celL h v0) 0), slN (getL (celL h v0) 8), slN (getL (celL h v0) 9)]) v1))) (iA (roD (deadL h [ptB v0, slN (getL (celL h v0) 0), slN (getL (celL h v0) 8), slN (getL (celL h v0) 9)]) v2)) (iA (roD (deadL h [ptB v0, slN (getL (celL h v0) 0), slN (getL (celL h v0) 8), slN (getL (celL h v0) 9)]) v3)))).2.2).To), .int .i64 (((gt (F105_0 (g_TRegulate (getL (roWL h (celL h v0)))) (g_TRegulateWord (aL (roD (deadL h [ptB v0, slN (getL (celL h v0) 0), slN (getL (celL h v0) 8), slN (getL (celL h v0) 9)]) v1))) (iA (roD (deadL h [ptB v0, slN (getL (celL h v0) 0), slN (getL (celL h v0) 8), slN (getL (celL h v0) 9)]) v2)) (iA (roD (deadL h [ptB v0, slN (getL (celL h v0) 0), slN (getL (celL h v0) 8), slN (getL (celL h v0) 9)]) v3)))).2.2).At), .sl 5 2 0 ((((gt (F105_0 (g_TRegulate (getL (roWL h (celL h v0)))) (g_TRegulateWord (aL (roD (deadL h [ptB v0, slN (getL (celL h v0) 0), slN (getL (celL h v0) 8), slN (getL (celL h v0) 9)]) v1))) (iA (roD (deadL h [ptB v0, slN (getL (celL h v0) 0), slN (getL (celL h v0) 8), slN (getL (celL h v0) 9)]) v2)) (iA (roD (deadL h [ptB v0, slN (getL (celL h v0) 0), slN (getL (celL h v0) 8), slN (getL (celL h v0) 9)]) v3)))).2.2).Blocked).length) false, .sl 6 1 0 ((((gt (F105_0 (g_TRegulate (getL (roWL h (celL h v0)))) (g_TRegulateWord (aL (roD (deadL h [ptB v0, slN (getL (celL h v0) 0), slN (getL (celL h v0) 8), slN (getL (celL h v0) 9)]) v1))) (iA (roD (deadL h [ptB v0, slN (getL (celL h v0) 0), slN (getL (celL h v0) 8), slN (getL (celL h v0) 9)]) v2)) (iA (roD (deadL h [ptB v0, slN (getL (celL h v0) 0), slN (getL (celL h v0) 8), slN (getL (celL h v0) 9)]) v3)))).2.2).Clear).length) false], .dead, .dead, .dead, .row 45 3 ((((gt (F105_0 (g_TRegulate (getL (roWL h (celL h v0)))) (g_TRegulateWord (aL (roD (deadL h [ptB v0, slN (getL (celL h v0) 0), slN (getL (celL h v0) 8), slN (getL (celL h v0) 9)]) v1))) (iA (roD (deadL h [ptB v0, slN (getL (celL h v0) 0), slN (getL (celL h v0) 8), slN (getL (celL h v0) 9)]) v2)) (iA (roD (deadL h [ptB v0, slN (getL (celL h v0) 0), slN (getL (celL h v0) 8), slN (getL (celL h v0) 9)]) v3)))).2.2).Table).length) (enR c_TRegulateChannel (((gt (F105_0 (g_TRegulate (getL (roWL h (celL h v0)))) (g_TRegulateWord (aL (roD (deadL h [ptB v0, slN (getL (celL h v0) 0), slN (getL (celL h v0) 8), slN (getL (celL h v0) 9)]) v1))) (iA (roD (deadL h [ptB v0, slN (getL (celL h v0) 0), slN (getL (celL h v0) 8), slN (getL (celL h v0) 9)]) v2)) (iA (roD (deadL h [ptB v0, slN (getL (celL h v0) 0), slN (getL (celL h v0) 8), slN (getL (celL h v0) 9)]) v3)))).2.2).Table)), .row 79 2 ((((gt (F105_0 (g_TRegulate (getL (roWL h (celL h v0)))) (g_TRegulateWord (aL (roD (deadL h [ptB v0, slN (getL (celL h v0) 0), slN (getL (celL h v0) 8), slN (getL (celL h v0) 9)]) v1))) (iA (roD (deadL h [ptB v0, slN (getL (celL h v0) 0), slN (getL (celL h v0) 8), slN (getL (celL h v0) 9)]) v2)) (iA (roD (deadL h [ptB v0, slN (getL (celL h v0) 0), slN (getL (celL h v0) 8), slN (getL (celL h v0) 9)]) v3)))).2.2).Blocked).length) (enR c_TRegulateBlock (((gt (F105_0 (g_TRegulate (getL (roWL h (celL h v0)))) (g_TRegulateWord (aL (roD (deadL h [ptB v0, slN (getL (celL h v0) 0), slN (getL (celL h v0) 8), slN (getL (celL h v0) 9)]) v1))) (iA (roD (deadL h [ptB v0, slN (getL (celL h v0) 0), slN (getL (celL h v0) 8), slN (getL (celL h v0) 9)]) v2)) (iA (roD (deadL h [ptB v0, slN (getL (celL h v0) 0), slN (getL (celL h v0) 8), slN (getL (celL h v0) 9)]) v3)))).2.2).Blocked)), .row 3 1 ((((gt (F105_0 (g_TRegulate (getL (roWL h (celL h v0)))) (g_TRegulateWord (aL (roD (deadL h [ptB v0, slN (getL (celL h v0) 0), slN (getL (celL h v0) 8), slN (getL (celL h v0) 9)]) v1))) (iA (roD (deadL h [ptB v0, slN (getL (celL h v0) 0), slN (getL (celL h v0) 8), slN (getL (celL h v0) 9)]) v2)) (iA (roD (deadL h [ptB v0, slN (getL (celL h v0) 0), slN (getL (celL h v0) 8), slN (getL (celL h v0) 9)]) v3)))).2.2).Clear).length) (enR c_i64 (((gt (F105_0 (g_TRegulate (getL (roWL h (celL h v0)))) (g_TRegulateWord (aL (roD (deadL h [ptB v0, slN (getL (celL h v0) 0), slN (getL (celL h v0) 8), slN (getL (celL h v0) 9)]) v1))) (iA (roD (deadL h [ptB v0, slN (getL (celL h v0) 0), slN (getL (celL h v0) 8), slN (getL (celL h v0) 9)]) v2)) (iA (roD (deadL h [ptB v0, slN (getL (celL h v0) 0), slN (getL (celL h v0) 8), slN (getL (celL h v0) 9)]) v3)))).2.2).Clear)), .row 23 4 (((gt (F105_0 (g_TRegulate (getL (roWL h (celL h v0)))) (g_TRegulateWord (aL (roD (deadL h [ptB v0, slN (getL (celL h v0) 0), slN (getL (celL h v0) 8), slN (getL (celL h v0) 9)]) v1))) (iA (roD (deadL h [ptB v0, slN (getL (celL h v0) 0), slN (getL (celL h v0) 8), slN (getL (celL h v0) 9)]) v2)) (iA (roD (deadL h [ptB v0, slN (getL (celL h v0) 0), slN (getL (celL h v0) 8), slN (getL (celL h v0) 9)]) v3)))).1).length) (enR c_TRegulateWord ((gt (F105_0 (g_TRegulate (getL (roWL h (celL h v0)))) (g_TRegulateWord (aL (roD (deadL h [ptB v0, slN (getL (celL h v0) 0), slN (getL (celL h v0) 8), slN (getL (celL h v0) 9)]) v1))) (iA (roD (deadL h [ptB v0, slN (getL (celL h v0) 0), slN (getL (celL h v0) 8), slN (getL (celL h v0) 9)]) v2)) (iA (roD (deadL h [ptB v0, slN (getL (celL h v0) 0), slN (getL (celL h v0) 8), slN (getL (celL h v0) 9)]) v3)))).1))]
  | _, _ => .fail
theorem ok105_0 : FnOk Try.prog 105 (edC body105_0) := by
  refine edit_fnV body105_0 (rs := [.tmp 8, .tmp 9]) Try.func105 (by kernel_rfl) rfl rfl ?_
  intro l h bs ob q0 g0 hb hob
  unfold body105_0 at hb
  split at hb
  · rename_i v0 v1 v2 v3
    injection hb with q1 q2 q3 q4; subst q1 q2 q3 q4
    obtain ⟨hk0_0, hk0_1, hk0_2, hk0_3, hk0_4, hk0_5, hk0_6, hk0_7, hk0_8, hk0_9, hk0_10, hk0_11, hk1_0, hk1_1, hk2_0, hk2_1, hk3_0, hk3_1, hob⟩ := hob
    obtain ⟨r, H⟩ := Option.isSome_iff_exists.1 hob
    rw [H, gt_some]
    obtain ⟨p0, hp0⟩ : ∃ p0, p0 = g_TRegulate (getL (roWL h (celL h v0))) := ⟨_, rfl⟩
    rw [← hp0] at H
    have hw0 : ∀ y, y < 10 -> WkV (getL (c_TRegulate p0) y) (roW h (getL (celL h v0) y)) /\ nref (getL (c_TRegulate p0) y) := fun y hy => by rw [hp0, ← getL_roWL]; exact w_TRegulate hk0_1 y hy
    have hk0_K := hk0_1
    unfold k_TRegulate at hk0_K
    obtain ⟨kk0_0, kk0_1, kk0_2, kk0_3, kk0_4, kk0_5, kk0_6, kk0_7, kk0_8, kk0_9⟩ := hk0_K
    obtain ⟨ev0_0, eb0_0⟩ := own_row2 (f := c_TRegulateChannel) (g := g_TRegulateChannel) (bs := [ptB v0, slN (getL (celL h v0) 0), slN (getL (celL h v0) 8), slN (getL (celL h v0) 9)]) (i := 1) (fun hr => w_TRegulateChannel hr) hk0_2 (by rw [← getL_roWL]; exact kk0_0) (L := p0.Table) (by rw [hp0, ← getL_roWL]; rfl) rfl
    obtain ⟨ev0_8, eb0_8⟩ := own_row2 (f := c_TRegulateBlock) (g := g_TRegulateBlock) (bs := [ptB v0, slN (getL (celL h v0) 0), slN (getL (celL h v0) 8), slN (getL (celL h v0) 9)]) (i := 2) (fun hr => w_TRegulateBlock hr) hk0_10 (by rw [← getL_roWL]; exact kk0_8) (L := p0.Blocked) (by rw [hp0, ← getL_roWL]; rfl) rfl
    obtain ⟨ev0_9, eb0_9⟩ := own_row2 (f := c_i64) (g := g_i64) (bs := [ptB v0, slN (getL (celL h v0) 0), slN (getL (celL h v0) 8), slN (getL (celL h v0) 9)]) (i := 3) (fun hr => w_i64 hr) hk0_11 (by rw [← getL_roWL]; exact kk0_9) (L := p0.Clear) (by rw [hp0, ← getL_roWL]; rfl) rfl
    have hw1 := wA_TRegulateWord hk1_0
    obtain ⟨p1, hp_p1⟩ : ∃ p1, p1 = g_TRegulateWord (aL (roD (deadL h [ptB v0, slN (getL (celL h v0) 0), slN (getL (celL h v0) 8), slN (getL (celL h v0) 9)]) v1)) := ⟨_, rfl⟩
    rw [← hp_p1] at H hw1
    have hw2 := iK_wk hk2_0
    obtain ⟨p2, hp_p2⟩ : ∃ p2, p2 = iA (roD (deadL h [ptB v0, slN (getL (celL h v0) 0), slN (getL (celL h v0) 8), slN (getL (celL h v0) 9)]) v2) := ⟨_, rfl⟩
    rw [← hp_p2] at H hw2
    have hw3 := iK_wk hk3_0
    obtain ⟨p3, hp_p3⟩ : ∃ p3, p3 = iA (roD (deadL h [ptB v0, slN (getL (celL h v0) 0), slN (getL (celL h v0) 8), slN (getL (celL h v0) 9)]) v3) := ⟨_, rfl⟩
    rw [← hp_p3] at H hw3
    refine ⟨[.ptr 0 0 0 0, .agg [.int .u8 p1.Kind, .int .i64 p1.Channel, .int .i64 p1.To, .int .i64 p1.At], .int .i64 p2, .int .i64 p3], [.lit 39 [.sl 1 3 0 p0.Table.length false, .int .i64 p0.Channel, .bool p0.Lead, .int .i64 p0.Heard, .bool p0.Stopped, .bool p0.Moving, .int .i64 p0.To, .int .i64 p0.At, .sl 2 2 0 p0.Blocked.length false, .sl 3 1 0 p0.Clear.length false], .row 45 3 p0.Table.length (enR c_TRegulateChannel p0.Table), .row 79 2 p0.Blocked.length (enR c_TRegulateBlock p0.Blocked), .row 3 1 p0.Clear.length (enR c_i64 p0.Clear)], rfl, ⟨(EW_own (EV_pK hk0_0 rfl) (by simp only [noro])), ⟨(EW_view hk1_1 hw1), ⟨(EW_view hk2_1 hw2), ⟨(EW_view hk3_1 hw3), trivial⟩⟩⟩⟩, ⟨(EB_pK hk0_0 rfl rfl (fun y hy => by
          match y, hy with
          | 0, _ => exact ev0_0
          | 1, _ => exact EV_t hk0_3 (hw0 1 (by decide))
          | 2, _ => exact EV_t hk0_4 (hw0 2 (by decide))
          | 3, _ => exact EV_t hk0_5 (hw0 3 (by decide))
          | 4, _ => exact EV_t hk0_6 (hw0 4 (by decide))
          | 5, _ => exact EV_t hk0_7 (hw0 5 (by decide))
          | 6, _ => exact EV_t hk0_8 (hw0 6 (by decide))
          | 7, _ => exact EV_t hk0_9 (hw0 7 (by decide))
          | 8, _ => exact ev0_8
          | 9, _ => exact ev0_9
          | y + 10, hy => omega)), ⟨eb0_0, ⟨eb0_8, ⟨eb0_9, trivial⟩⟩⟩⟩, ⟨(by simp only [noroB, noroL, noro, and_self]), ⟨noroB_en, ⟨noroB_en, ⟨noroB_en, trivial⟩⟩⟩⟩, ⟨trivial, ⟨trivial, ⟨trivial, ⟨trivial, ⟨(nfB_en nr_TRegulateChannel), ⟨(nfB_en nr_TRegulateBlock), ⟨(nfB_en nr_i64), ⟨(nfB_en nr_TRegulateWord), trivial⟩⟩⟩⟩⟩⟩⟩⟩, ⟨(by simp only [noroB, noroL, noro, and_self]), ⟨trivial, ⟨trivial, ⟨trivial, ⟨noroB_en, ⟨noroB_en, ⟨noroB_en, ⟨noroB_en, trivial⟩⟩⟩⟩⟩⟩⟩⟩, (by first | (simp only [noro, noroL, and_self]; done) | (simp only [noro, noroL]; and_intros <;> first | trivial | exact noro_bif (by simp only [noro]) (by simp only [noro]) | (simp only [noro, noroL, and_self]))), ?_⟩
    rw [Try.ntmps105]
    simp only [List.length_cons, List.length_nil, Nat.reduceAdd, Nat.reduceSub, List.replicate_succ, List.replicate_zero, List.cons_append, List.nil_append]
    unfold F105_0 at H
    try dsimp only at H
    refine sq ctNo_ok ?_
    simp only [go_sem, Nat.reduceAdd]
    refine seqM ?_
    refine seqM ?_
    obtain ⟨r1, e2, H⟩ := bsi H
    refine rg ct105_0t0_ok ?_
    simp only [go_sem, Nat.reduceLeDiff, Nat.reduceLT, Nat.reduceAdd, ct105_0t0_61, body61_0, e2]
    repeat ((with_reducible refine And.intro ?_ ?_); focus exact an0)
    refine condM rfl trivial (fun hc => ?_) (fun hc => ?_)
    · have hk3 : (r1) = false := by simpa using hc
      replace H := cond_t hc H
      refine sq ctNo_ok ?_
      simp only [go_sem]
      refine rg ctNo_ok ?_
      simp only [go_sem]
      obtain rfl := Option.some.inj H
      refine RetE_mk [] [some 0, some 1, some 2, some 3, some 1, some 2, some 3, none] ?_ ?_ ?_ ?_ (by rfl) (by rfl)
      · simp only [go_sem]
        try exact at0
      · simp only [go_sem]
        try exact at0
      · simp only [go_sem]
        exact Cv_tup (CvL_cons (by first | (simp [Cv]; done) | (simp [Cv, CvL, getM, gt_some]; omega)) (CvL_cons (by simp [Cv]) CvL_nil))
      · simp only [go_sem, CvH]
        first | exact ⟨(by simp [CvB, CvL, Cv, blkAt, geth, getM]), CvB_dead, CvB_dead, CvB_dead, CvB_row nr_TRegulateChannel cl (fun _ _ _ _ => rfl), CvB_row nr_TRegulateBlock cl (fun _ _ _ _ => rfl), CvB_row nr_i64 cl (fun _ _ _ _ => rfl), CvB_none⟩ | trivial
    have hk3 : (r1) = true := by simpa using hc
    replace H := cond_f hc H
    refine rg ctNo_ok ?_
    simp only [go_sem]
    refine seqM ?_
    obtain ⟨r4, e5, H⟩ := bsi H
    refine rg ct105_0t1_ok ?_
    simp only [go_sem, Nat.reduceAdd, Nat.reduceBEq, ct105_0t1_92, body92_0, e5]
    repeat ((with_reducible refine And.intro ?_ ?_); focus exact an0)
    refine seqM ?_
    refine draw_rule shT_ok ctNo_ok 0 (by kernel_rfl) (by kernel_rfl) ?_
    intro an han
    simp only [d_nil, d_cons, nxtD, xrD, xoD, roEq, minL, List.append_nil, refsOp, refs, mask, maskF, place, placeF, okLog, pairOk, hit, inL, slotsF, nrH, nrB, nrL, nr, List.replicate_zero, Nat.sub_self, Nat.add_zero, Nat.zero_add, Nat.reduceSub, Nat.lt_add_one, go_sem, Nat.reduceLeDiff, Nat.reduceLT, Nat.reduceAdd, Nat.reduceSub, Nat.reduceBEq]
    repeat ((with_reducible refine And.intro ?_ ?_); focus exact an2)
    refine sq ctNo_ok ?_
    simp only [go_sem]
    refine rg ctNo_ok ?_
    simp only [go_sem]
    obtain rfl := Option.some.inj H
    refine RetE_mk [] [some 0, some 1, some 2, some 3, some 5, some 6, some 7, none] ?_ ?_ ?_ ?_ (by rfl) (by rfl)
    · simp only [go_sem]
      try exact at0
    · simp only [go_sem]
      try exact at0
    · simp only [go_sem]
      exact Cv_tup (CvL_cons (by first | (simp [Cv]; done) | (simp [Cv, CvL, getM, gt_some]; omega)) (CvL_cons (by simp [Cv]) CvL_nil))
    · simp only [go_sem, CvH]
      first | exact ⟨(by simp [CvB, CvL, Cv, blkAt, geth, getM]), CvB_dead, CvB_dead, CvB_dead, CvB_row nr_TRegulateChannel cl (fun _ _ _ _ => rfl), CvB_row nr_TRegulateBlock cl (fun _ _ _ _ => rfl), CvB_row nr_i64 cl (fun _ _ _ _ => rfl), CvB_none⟩ | trivial
  · cases hb
noncomputable def F106_0 (p0_2 : Bool) (p0_4 : Bool) (p1 : TRegulateWord) (p2 : Int) : Option (Bool) :=
  some (p0_2 && (!p0_4))
noncomputable def body106_0 : List AV -> AR
  | [v0, v1, v2] => .pure (rM 10 v0 /\ bK (rG v0 2) /\ bK (rG v0 4) /\ aK 4 k_TRegulateWord v1 /\ iK .i64 v2 /\ (F106_0 (bA (rG v0 2)) (bA (rG v0 4)) (g_TRegulateWord (aL v1)) (iA v2)).isSome = true) (.bool (gt (F106_0 (bA (rG v0 2)) (bA (rG v0 4)) (g_TRegulateWord (aL v1)) (iA v2))))
  | _ => .fail
theorem ok106_0 : FnOk Try.prog 106 (pureC body106_0) := by
  refine pure_fnM body106_0 (rs := [.tmp 6]) Try.func106 (by kernel_rfl) rfl rfl ?_
  intro l ob v hb hob
  unfold body106_0 at hb
  split at hb
  · rename_i v0 v1 v2
    injection hb with q1 q2; subst q1 q2
    obtain ⟨hk0_0, hk0_1, hk0_2, hk1_0, hk2_0, hob⟩ := hob
    obtain ⟨r, H⟩ := Option.isSome_iff_exists.1 hob
    rw [H, gt_some]
    have hw0 := (rM_wk (cells := [AV.top, AV.top, AV.bool (bA (rG v0 2)), AV.top, AV.bool (bA (rG v0 4)), AV.top, AV.top, AV.top, AV.top, AV.top]) hk0_0 (fun y hy => match y, hy with | 0, _ => top_wk | 1, _ => top_wk | 2, _ => bK_wk hk0_1 | 3, _ => top_wk | 4, _ => bK_wk hk0_2 | 5, _ => top_wk | 6, _ => top_wk | 7, _ => top_wk | 8, _ => top_wk | 9, _ => top_wk | y + 10, hy => absurd hy (by omega)))
    have hw1 := wA_TRegulateWord hk1_0
    have hw2 := iK_wk hk2_0
    generalize bA (rG v0 2) = p0_2 at H hw0
    generalize bA (rG v0 4) = p0_4 at H hw0
    generalize g_TRegulateWord (aL v1) = p1 at H hw1
    generalize iA v2 = p2 at H hw2
    refine ⟨[.rptr 10 1 0 0 (fun _ y => getL [.top, .top, .bool p0_2, .top, .bool p0_4, .top, .top, .top, .top, .top] y), .agg [.int .u8 p1.Kind, .int .i64 p1.Channel, .int .i64 p1.To, .int .i64 p1.At], .int .i64 p2], _, (fun E vs F => FR_wk1 hw0.1 F (fun vs F => FR_wk1 hw1.1 F (fun vs F => FR_wk1 hw2.1 F (fun vs F => F)))), rfl, rfl, ?_⟩
    rw [Try.ntmps106]
    simp only [List.length_cons, List.length_nil, Nat.reduceAdd, Nat.reduceSub, List.replicate_succ, List.replicate_zero, List.cons_append, List.nil_append]
    unfold F106_0 at H
    try dsimp only at H
    refine sq ctNo_ok ?_
    simp only [go_sem]
    refine sq ctNo_ok ?_
    simp only [go_sem, Nat.reduceLeDiff, Nat.reduceLT, Nat.reduceAdd]
    repeat ((with_reducible refine And.intro ?_ ?_); focus exact an4)
    refine rg ctNo_ok ?_
    simp only [go_sem]
    obtain rfl := Option.some.inj H
    first | rfl | simp only [Bool.and_false, Bool.false_and, Bool.and_true, Bool.true_and] | exact congrArg AV.bool (Eq.symm (by assumption))
  · cases hb
end Go.Proofs.Ytjhkehdbjnhplaa
