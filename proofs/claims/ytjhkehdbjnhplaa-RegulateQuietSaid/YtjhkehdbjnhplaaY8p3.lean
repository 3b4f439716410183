/-
  What RegulateQuiet reaches.
-/
import Derived.Test.YtjhkehdbjnhplaaY8p2
namespace Go.Proofs.Ytjhkehdbjnhplaa
open Go.Am
set_option maxHeartbeats 4000000
set_option maxRecDepth 20000
set_option linter.unusedVariables false
set_option linter.unusedSimpArgs false
noncomputable def ct107_0t0 : Ct := tab [(54, edC body54_0)]
theorem ct107_0t0_ok : CtOk Try.prog ct107_0t0 := tab_cons ok54_0 <| tab_nil
theorem ct107_0t0_54 (l : List AV) (h : List ABlk) : ct107_0t0 54 l h = edC body54_0 l h := rfl
noncomputable def F107_0 (p0 : TRegulate) (p1 : TRegulateWord) (p2 : Int) (p3 : Int) : Option ((List TRegulateWord) × Int × TRegulate) :=
  (F54_0 (TRegulate.mk p0.Table p0.Channel p0.Lead p0.Heard p0.Stopped p0.Moving p0.To p0.At p0.Blocked p0.Clear) p2 p3).bind fun r1 => some (r1.1, 0, (TRegulate.mk r1.2.Table r1.2.Channel r1.2.Lead r1.2.Heard r1.2.Stopped r1.2.Moving r1.2.To r1.2.At r1.2.Blocked r1.2.Clear))
noncomputable def body107_0 : List AV -> List ABlk -> ED
  | [v0, v1, v2, v3], h => .ed [ptB v0, slN (getL (celL h v0) 0), slN (getL (celL h v0) 8), slN (getL (celL h v0) 9)] (pK 39 10 h v0 /\ k_TRegulate (getL (roWL h (celL h v0))) /\ oS 45 3 h (getL (celL h v0) 0) /\ nref (getL (celL h v0) 1) /\ nref (getL (celL h v0) 2) /\ nref (getL (celL h v0) 3) /\ nref (getL (celL h v0) 4) /\ nref (getL (celL h v0) 5) /\ nref (getL (celL h v0) 6) /\ nref (getL (celL h v0) 7) /\ oS 79 2 h (getL (celL h v0) 8) /\ oS 3 1 h (getL (celL h v0) 9) /\ aK 4 k_TRegulateWord (roD (deadL h [ptB v0, slN (getL (celL h v0) 0), slN (getL (celL h v0) 8), slN (getL (celL h v0) 9)]) v1) /\ roDOb (deadL h [ptB v0, slN (getL (celL h v0) 0), slN (getL (celL h v0) 8), slN (getL (celL h v0) 9)]) v1 /\ iK .i64 (roD (deadL h [ptB v0, slN (getL (celL h v0) 0), slN (getL (celL h v0) 8), slN (getL (celL h v0) 9)]) v2) /\ roDOb (deadL h [ptB v0, slN (getL (celL h v0) 0), slN (getL (celL h v0) 8), slN (getL (celL h v0) 9)]) v2 /\ iK .i64 (roD (deadL h [ptB v0, slN (getL (celL h v0) 0), slN (getL (celL h v0) 8), slN (getL (celL h v0) 9)]) v3) /\ roDOb (deadL h [ptB v0, slN (getL (celL h v0) 0), slN (getL (celL h v0) 8), slN (getL (celL h v0) 9)]) v3 /\ (F107_0 (g_TRegulate (getL (roWL h (celL h v0)))) (g_TRegulateWord (aL (roD (deadL h [ptB v0, slN (getL (celL h v0) 0), slN (getL (celL h v0) 8), slN (getL (celL h v0) 9)]) v1))) (iA (roD (deadL h [ptB v0, slN (getL (celL h v0) 0), slN (getL (celL h v0) 8), slN (getL (celL h v0) 9)]) v2)) (iA (roD (deadL h [ptB v0, slN (getL (celL h v0) 0), slN (getL (celL h v0) 8), slN (getL (celL h v0) 9)]) v3))).isSome = true) (.tup [.sl 7 4 0 (((gt (F107_0 (g_TRegulate (getL (roWL h (celL h v0)))) (g_TRegulateWord (aL (roD (deadL h [ptB v0, slN (getL (celL h v0) 0), slN (getL (celL h v0) 8), slN (getL (celL h v0) 9)]) v1))) (iA (roD (deadL h [ptB v0, slN (getL (celL h v0) 0), slN (getL (celL h v0) 8), slN (getL (celL h v0) 9)]) v2)) (iA (roD (deadL h [ptB v0, slN (getL (celL h v0) 0), slN (getL (celL h v0) 8), slN (getL (celL h v0) 9)]) v3)))).1).length) false, .int .i64 ((gt (F107_0 (g_TRegulate (getL (roWL h (celL h v0)))) (g_TRegulateWord (aL (roD (deadL h [ptB v0, slN (getL (celL h v0) 0), slN (getL (celL h v0) 8), slN (getL (celL h v0) 9)]) v1))) (iA (roD (deadL h [ptB v0, slN (getL (celL h v0) 0), slN (getL (celL h v0) 8), slN (getL (celL h v0) 9)]) v2)) (iA (roD (deadL h [ptB v0, slN (getL (celL h v0) 0), slN (getL (celL h v0) 8), slN (getL (celL h v0) 9)]) v3)))).2.1)]) [.lit 39 [.sl 4 3 0 ((((gt (F107_0 (g_TRegulate (getL (roWL h (celL h v0)))) (g_TRegulateWord (aL (roD (deadL h [ptB v0, slN (getL (celL h v0) 0), slN (getL (celL h v0) 8), slN (getL (celL h v0) 9)]) v1))) (iA (roD (deadL h [ptB v0, slN (getL (celL h v0) 0), slN (getL (celL h v0) 8), slN (getL (celL h v0) 9)]) v2)) (iA (roD (deadL h [ptB v0, slN (getL (celL h v0) 0), slN (getL (celL h v0) 8), slN (getL (celL h v0) 9)]) v3)))).2.2).Table).length) false, .int .i64 (((gt (F107_0 (g_TRegulate (getL (roWL h (celL h v0)))) (g_TRegulateWord (aL (roD (deadL h [ptB v0, slN (getL (celL h v0) 0), slN (getL (celL h v0) 8), slN (getL (celL h v0) 9)]) v1))) (iA (roD (deadL h [ptB v0, slN (getL (celL h v0) 0), slN (getL (celL h v0) 8), slN (getL (celL h v0) 9)]) v2)) (iA (roD (deadL h [ptB v0, slN (getL (celL h v0) 0), slN (getL (celL h v0) 8), slN (getL (celL h v0) 9)]) v3)))).2.2).Channel), .bool (((gt (F107_0 (g_TRegulate (getL (roWL h (celL h v0)))) (g_TRegulateWord (aL (roD (deadL h [ptB v0, slN (getL (celL h v0) 0), slN (getL (celL h v0) 8), slN (getL (celL h v0) 9)]) v1))) (iA (roD (deadL h [ptB v0, slN (getL (celL h v0) 0), slN (getL (celL h v0) 8), slN (getL (celL h v0) 9)]) v2)) (iA (roD (deadL h [ptB v0, slN (getL (celL h v0) 0), slN (getL (celL h v0) 8), slN (getL (celL h v0) 9)]) v3)))).2.2).Lead), .int .i64 (((gt (F107_0 (g_TRegulate (getL (roWL h (celL h v0)))) (g_TRegulateWord (aL (roD (deadL h [ptB v0, slN (getL (celL h v0) 0), slN (getL (celL h v0) 8), slN (getL (celL h v0) 9)]) v1))) (iA (roD (deadL h [ptB v0, slN (getL (celL h v0) 0), slN (getL (celL h v0) 8), slN (getL (celL h v0) 9)]) v2)) (iA (roD (deadL h [ptB v0, slN (getL (celL h v0) 0), slN (getL (celL h v0) 8), slN (getL (celL h v0) 9)]) v3)))).2.2).Heard), .bool (((gt (F107_0 (g_TRegulate (getL (roWL h (celL h v0)))) (g_TRegulateWord (aL (roD (deadL h [ptB v0, slN (getL (celL h v0) 0), slN (getL (celL h v0) 8), slN (getL (celL h v0) 9)]) v1))) (iA (roD (deadL h [ptB v0, slN (getL (celL h v0) 0), slN (getL (celL h v0) 8), slN (getL (celL h v0) 9)]) v2)) (iA (roD (deadL h [ptB v0, slN (getL (celL h v0) 0), slN (getL (celL h v0) 8), slN (getL (celL h v0) 9)]) v3)))).2.2).Stopped), .bool (((gt (F107_0 (g_TRegulate (getL (roWL h (celL h v0)))) (g_TRegulateWord (aL (roD (deadL h [ptB v0, slN (getL (celL h v0) 0), slN (getL (celL h v0) 8), slN (getL (celL h v0) 9)]) v1))) (iA (roD (deadL h [ptB v0, slN (getL (celL h v0) 0), slN (getL (celL h v0) 8), slN (getL (celL h v0) 9)]) v2)) (iA (roD (deadL h [ptB v0, slN (getL (celL h v0) 0), slN (getL (celL h v0) 8), slN (getL (celL h v0) 9)]) v3)))).2.2).Moving), .int .i64 (((gt (F107_0 (g_TRegulate (getL (roWL h (celL h v0)))) (g_TRegulateWord (aL (roD (deadL h [ptB v0, slN (getL (celL h v0) 0), slN (getL (celL h v0) 8), slN (getL (celL h v0) 9)]) v1))) (iA (roD (deadL h [ptB v0, slN (getL (celL h v0) 0), slN (getL (celL h v0) 8), slN (getL (celL h v0) 9)]) v2)) (iA (roD (deadL h [ptB v0, slN (getL (celL h v0) 0), slN (getL (celL h v0) 8), slN (getL (celL h v0) 9)]) v3)))).2.2).To), .int .i64 (((gt (F107_0 (g_TRegulate (getL (roWL h (celL h v0)))) (g_TRegulateWord (aL (roD (deadL h [ptB v0, slN (getL (celL h v0) 0), slN (getL (celL h v0) 8), slN (getL (celL h v0) 9)]) v1))) (iA (roD (deadL h [ptB v0, slN (getL (celL h v0) 0), slN (getL (celL h v0) 8), slN (getL (celL h v0) 9)]) v2)) (iA (roD (deadL h [ptB v0, slN (getL (celL h v0) 0), slN (getL (celL h v0) 8), slN (getL (celL h v0) 9)]) v3)))).2.2).At), .sl 5 2 0 ((((gt (F107_0 (g_TRegulate (getL (roWL h (celL h v0)))) (g_TRegulateWord (aL (roD (deadL h [ptB v0, slN (getL (celL h v0) 0), slN (getL (celL h v0) 8), slN (getL (celL h v0) 9)]) v1))) (iA (roD (deadL h [ptB v0, slN (getL (celL h v0) 0), slN (getL (celL h v0) 8), slN (getL (celL h v0) 9)]) v2)) (iA (roD (deadL h [ptB v0, slN (getL (celL h v0) 0), slN (getL (celL h v0) 8), slN (getL (celL h v0) 9)]) v3)))).2.2).Blocked).length) false, .sl 6 1 0 ((((gt (F107_0 (g_TRegulate (getL (roWL h (celL h v0)))) (g_TRegulateWord (aL (roD (deadL h [ptB v0, slN (getL (celL h v0) 0), slN (getL (celL h v0) 8), slN (getL (celL h v0) 9)]) v1))) (iA (roD (deadL h [ptB v0, slN (getL (celL h v0) 0), slN (getL (celL h v0) 8), slN (getL (celL h v0) 9)]) v2)) (iA (roD (deadL h [ptB v0, slN (getL (celL h v0) 0), slN (getL (celL h v0) 8), slN (getL (celL h v0) 9)]) v3)))).2.2).Clear).length) false], .dead, .dead, .dead, .row 45 3 ((((gt (F107_0 (g_TRegulate (getL (roWL h (celL h v0)))) (g_TRegulateWord (aL (roD (deadL h [ptB v0, slN (getL (celL h v0) 0), slN (getL (celL h v0) 8), slN (getL (celL h v0) 9)]) v1))) (iA (roD (deadL h [ptB v0, slN (getL (celL h v0) 0), slN (getL (celL h v0) 8), slN (getL (celL h v0) 9)]) v2)) (iA (roD (deadL h [ptB v0, slN (getL (celL h v0) 0), slN (getL (celL h v0) 8), slN (getL (celL h v0) 9)]) v3)))).2.2).Table).length) (enR c_TRegulateChannel (((gt (F107_0 (g_TRegulate (getL (roWL h (celL h v0)))) (g_TRegulateWord (aL (roD (deadL h [ptB v0, slN (getL (celL h v0) 0), slN (getL (celL h v0) 8), slN (getL (celL h v0) 9)]) v1))) (iA (roD (deadL h [ptB v0, slN (getL (celL h v0) 0), slN (getL (celL h v0) 8), slN (getL (celL h v0) 9)]) v2)) (iA (roD (deadL h [ptB v0, slN (getL (celL h v0) 0), slN (getL (celL h v0) 8), slN (getL (celL h v0) 9)]) v3)))).2.2).Table)), .row 79 2 ((((gt (F107_0 (g_TRegulate (getL (roWL h (celL h v0)))) (g_TRegulateWord (aL (roD (deadL h [ptB v0, slN (getL (celL h v0) 0), slN (getL (celL h v0) 8), slN (getL (celL h v0) 9)]) v1))) (iA (roD (deadL h [ptB v0, slN (getL (celL h v0) 0), slN (getL (celL h v0) 8), slN (getL (celL h v0) 9)]) v2)) (iA (roD (deadL h [ptB v0, slN (getL (celL h v0) 0), slN (getL (celL h v0) 8), slN (getL (celL h v0) 9)]) v3)))).2.2).Blocked).length) (enR c_TRegulateBlock (((gt (F107_0 (g_TRegulate (getL (roWL h (celL h v0)))) (g_TRegulateWord (aL (roD (deadL h [ptB v0, slN (getL (celL h v0) 0), slN (getL (celL h v0) 8), slN (getL (celL h v0) 9)]) v1))) (iA (roD (deadL h [ptB v0, slN (getL (celL h v0) 0), slN (getL (celL h v0) 8), slN (getL (celL h v0) 9)]) v2)) (iA (roD (deadL h [ptB v0, slN (getL (celL h v0) 0), slN (getL (celL h v0) 8), slN (getL (celL h v0) 9)]) v3)))).2.2).Blocked)), .row 3 1 ((((gt (F107_0 (g_TRegulate (getL (roWL h (celL h v0)))) (g_TRegulateWord (aL (roD (deadL h [ptB v0, slN (getL (celL h v0) 0), slN (getL (celL h v0) 8), slN (getL (celL h v0) 9)]) v1))) (iA (roD (deadL h [ptB v0, slN (getL (celL h v0) 0), slN (getL (celL h v0) 8), slN (getL (celL h v0) 9)]) v2)) (iA (roD (deadL h [ptB v0, slN (getL (celL h v0) 0), slN (getL (celL h v0) 8), slN (getL (celL h v0) 9)]) v3)))).2.2).Clear).length) (enR c_i64 (((gt (F107_0 (g_TRegulate (getL (roWL h (celL h v0)))) (g_TRegulateWord (aL (roD (deadL h [ptB v0, slN (getL (celL h v0) 0), slN (getL (celL h v0) 8), slN (getL (celL h v0) 9)]) v1))) (iA (roD (deadL h [ptB v0, slN (getL (celL h v0) 0), slN (getL (celL h v0) 8), slN (getL (celL h v0) 9)]) v2)) (iA (roD (deadL h [ptB v0, slN (getL (celL h v0) 0), slN (getL (celL h v0) 8), slN (getL (celL h v0) 9)]) v3)))).2.2).Clear)), .row 23 4 (((gt (F107_0 (g_TRegulate (getL (roWL h (celL h v0)))) (g_TRegulateWord (aL (roD (deadL h [ptB v0, slN (getL (celL h v0) 0), slN (getL (celL h v0) 8), slN (getL (celL h v0) 9)]) v1))) (iA (roD (deadL h [ptB v0, slN (getL (celL h v0) 0), slN (getL (celL h v0) 8), slN (getL (celL h v0) 9)]) v2)) (iA (roD (deadL h [ptB v0, slN (getL (celL h v0) 0), slN (getL (celL h v0) 8), slN (getL (celL h v0) 9)]) v3)))).1).length) (enR c_TRegulateWord ((gt (F107_0 (g_TRegulate (getL (roWL h (celL h v0)))) (g_TRegulateWord (aL (roD (deadL h [ptB v0, slN (getL (celL h v0) 0), slN (getL (celL h v0) 8), slN (getL (celL h v0) 9)]) v1))) (iA (roD (deadL h [ptB v0, slN (getL (celL h v0) 0), slN (getL (celL h v0) 8), slN (getL (celL h v0) 9)]) v2)) (iA (roD (deadL h [ptB v0, slN (getL (celL h v0) 0), slN (getL (celL h v0) 8), slN (getL (celL h v0) 9)]) v3)))).1))]
  | _, _ => .fail
theorem ok107_0 : FnOk Try.prog 107 (edC body107_0) := by
  refine edit_fnV body107_0 (rs := [.tmp 8, .tmp 9]) Try.func107 (by kernel_rfl) rfl rfl ?_
  intro l h bs ob q0 g0 hb hob
  unfold body107_0 at hb
  split at hb
  · rename_i v0 v1 v2 v3
    injection hb with q1 q2 q3 q4; subst q1 q2 q3 q4
    obtain ⟨hk0_0, hk0_1, hk0_2, hk0_3, hk0_4, hk0_5, hk0_6, hk0_7, hk0_8, hk0_9, hk0_10, hk0_11, hk1_0, hk1_1, hk2_0, hk2_1, hk3_0, hk3_1, hob⟩ := hob
    obtain ⟨r, H⟩ := Option.isSome_iff_exists.1 hob
    rw [H, gt_some]
    obtain ⟨p0, hp0⟩ : ∃ p0, p0 = g_TRegulate (getL (roWL h (celL h v0))) := ⟨_, rfl⟩
    rw [← hp0] at H
    have hw0 : ∀ y, y < 10 -> WkV (getL (c_TRegulate p0) y) (roW h (getL (celL h v0) y)) /\ nref (getL (c_TRegulate p0) y) := fun y hy => by rw [hp0, ← getL_roWL]; exact w_TRegulate hk0_1 y hy
    have hk0_K := hk0_1
    unfold k_TRegulate at hk0_K
    obtain ⟨kk0_0, kk0_1, kk0_2, kk0_3, kk0_4, kk0_5, kk0_6, kk0_7, kk0_8, kk0_9⟩ := hk0_K
    obtain ⟨ev0_0, eb0_0⟩ := own_row2 (f := c_TRegulateChannel) (g := g_TRegulateChannel) (bs := [ptB v0, slN (getL (celL h v0) 0), slN (getL (celL h v0) 8), slN (getL (celL h v0) 9)]) (i := 1) (fun hr => w_TRegulateChannel hr) hk0_2 (by rw [← getL_roWL]; exact kk0_0) (L := p0.Table) (by rw [hp0, ← getL_roWL]; rfl) rfl
    obtain ⟨ev0_8, eb0_8⟩ := own_row2 (f := c_TRegulateBlock) (g := g_TRegulateBlock) (bs := [ptB v0, slN (getL (celL h v0) 0), slN (getL (celL h v0) 8), slN (getL (celL h v0) 9)]) (i := 2) (fun hr => w_TRegulateBlock hr) hk0_10 (by rw [← getL_roWL]; exact kk0_8) (L := p0.Blocked) (by rw [hp0, ← getL_roWL]; rfl) rfl
    obtain ⟨ev0_9, eb0_9⟩ := own_row2 (f := c_i64) (g := g_i64) (bs := [ptB v0, slN (getL (celL h v0) 0), slN (getL (celL h v0) 8), slN (getL (celL h v0) 9)]) (i := 3) (fun hr => w_i64 hr) hk0_11 (by rw [← getL_roWL]; exact kk0_9) (L := p0.Clear) (by rw [hp0, ← getL_roWL]; rfl) rfl
    have hw1 := wA_TRegulateWord hk1_0
    obtain ⟨p1, hp_p1⟩ : ∃ p1, p1 = g_TRegulateWord (aL (roD (deadL h [ptB v0, slN (getL (celL h v0) 0), slN (getL (celL h v0) 8), slN (getL (celL h v0) 9)]) v1)) := ⟨_, rfl⟩
    rw [← hp_p1] at H hw1
    have hw2 := iK_wk hk2_0
    obtain ⟨p2, hp_p2⟩ : ∃ p2, p2 = iA (roD (deadL h [ptB v0, slN (getL (celL h v0) 0), slN (getL (celL h v0) 8), slN (getL (celL h v0) 9)]) v2) := ⟨_, rfl⟩
    rw [← hp_p2] at H hw2
    have hw3 := iK_wk hk3_0
    obtain ⟨p3, hp_p3⟩ : ∃ p3, p3 = iA (roD (deadL h [ptB v0, slN (getL (celL h v0) 0), slN (getL (celL h v0) 8), slN (getL (celL h v0) 9)]) v3) := ⟨_, rfl⟩
    rw [← hp_p3] at H hw3
    refine ⟨[.ptr 0 0 0 0, .agg [.int .u8 p1.Kind, .int .i64 p1.Channel, .int .i64 p1.To, .int .i64 p1.At], .int .i64 p2, .int .i64 p3], [.lit 39 [.sl 1 3 0 p0.Table.length false, .int .i64 p0.Channel, .bool p0.Lead, .int .i64 p0.Heard, .bool p0.Stopped, .bool p0.Moving, .int .i64 p0.To, .int .i64 p0.At, .sl 2 2 0 p0.Blocked.length false, .sl 3 1 0 p0.Clear.length false], .row 45 3 p0.Table.length (enR c_TRegulateChannel p0.Table), .row 79 2 p0.Blocked.length (enR c_TRegulateBlock p0.Blocked), .row 3 1 p0.Clear.length (enR c_i64 p0.Clear)], rfl, ⟨(EW_own (EV_pK hk0_0 rfl) (by simp only [noro])), ⟨(EW_view hk1_1 hw1), ⟨(EW_view hk2_1 hw2), ⟨(EW_view hk3_1 hw3), trivial⟩⟩⟩⟩, ⟨(EB_pK hk0_0 rfl rfl (fun y hy => by
          match y, hy with
          | 0, _ => exact ev0_0
          | 1, _ => exact EV_t hk0_3 (hw0 1 (by decide))
          | 2, _ => exact EV_t hk0_4 (hw0 2 (by decide))
          | 3, _ => exact EV_t hk0_5 (hw0 3 (by decide))
          | 4, _ => exact EV_t hk0_6 (hw0 4 (by decide))
          | 5, _ => exact EV_t hk0_7 (hw0 5 (by decide))
          | 6, _ => exact EV_t hk0_8 (hw0 6 (by decide))
          | 7, _ => exact EV_t hk0_9 (hw0 7 (by decide))
          | 8, _ => exact ev0_8
          | 9, _ => exact ev0_9
          | y + 10, hy => omega)), ⟨eb0_0, ⟨eb0_8, ⟨eb0_9, trivial⟩⟩⟩⟩, ⟨(by simp only [noroB, noroL, noro, and_self]), ⟨noroB_en, ⟨noroB_en, ⟨noroB_en, trivial⟩⟩⟩⟩, ⟨trivial, ⟨trivial, ⟨trivial, ⟨trivial, ⟨(nfB_en nr_TRegulateChannel), ⟨(nfB_en nr_TRegulateBlock), ⟨(nfB_en nr_i64), ⟨(nfB_en nr_TRegulateWord), trivial⟩⟩⟩⟩⟩⟩⟩⟩, ⟨(by simp only [noroB, noroL, noro, and_self]), ⟨trivial, ⟨trivial, ⟨trivial, ⟨noroB_en, ⟨noroB_en, ⟨noroB_en, ⟨noroB_en, trivial⟩⟩⟩⟩⟩⟩⟩⟩, (by first | (simp only [noro, noroL, and_self]; done) | (simp only [noro, noroL]; and_intros <;> first | trivial | exact noro_bif (by simp only [noro]) (by simp only [noro]) | (simp only [noro, noroL, and_self]))), ?_⟩
    rw [Try.ntmps107]
    simp only [List.length_cons, List.length_nil, Nat.reduceAdd, Nat.reduceSub, List.replicate_succ, List.replicate_zero, List.cons_append, List.nil_append]
    unfold F107_0 at H
    try dsimp only at H
    refine sq ctNo_ok ?_
    simp only [go_sem, Nat.reduceAdd]
    refine seqM ?_
    obtain ⟨r1, e2, H⟩ := bsi H
    refine rg ct107_0t0_ok ?_
    simp only [go_sem, Nat.reduceAdd, Nat.reduceBEq, ct107_0t0_54, body54_0, e2]
    repeat ((with_reducible refine And.intro ?_ ?_); focus exact an0)
    refine rg ctNo_ok ?_
    simp only [go_sem]
    obtain rfl := Option.some.inj H
    refine RetE_mk [] [some 0, some 1, some 2, some 3, some 5, some 6, some 7, some 8] ?_ ?_ ?_ ?_ (by rfl) (by rfl)
    · simp only [go_sem]
      try exact at0
    · simp only [go_sem]
      try exact at0
    · simp only [go_sem]
      exact Cv_tup (CvL_cons (by first | (simp [Cv, getM]; done) | (simp [Cv, CvL, getM, gt_some]; omega)) (CvL_cons (by simp [Cv]) CvL_nil))
    · simp only [go_sem, CvH]
      first | exact ⟨(by simp [CvB, CvL, Cv, blkAt, geth, getM]), CvB_dead, CvB_dead, CvB_dead, CvB_row nr_TRegulateChannel cl (fun _ _ _ _ => rfl), CvB_row nr_TRegulateBlock cl (fun _ _ _ _ => rfl), CvB_row nr_i64 cl (fun _ _ _ _ => rfl), CvB_row nr_TRegulateWord cl (fun _ _ _ _ => rfl)⟩ | trivial
  · cases hb
noncomputable def F108_0 (p0_2 : Bool) (p0_3 : Int) (p0_4 : Bool) (p1 : TRegulateWord) (p2 : Int) : Option (Bool) :=
  some ((((!p0_2) && (!p0_4)) && (bLe p0_3 p1.At)) && (bLe p1.At p2))
noncomputable def body108_0 : List AV -> AR
  | [v0, v1, v2] => .pure (rM 10 v0 /\ bK (rG v0 2) /\ iK .i64 (rG v0 3) /\ bK (rG v0 4) /\ aK 4 k_TRegulateWord v1 /\ iK .i64 v2 /\ (F108_0 (bA (rG v0 2)) (iA (rG v0 3)) (bA (rG v0 4)) (g_TRegulateWord (aL v1)) (iA v2)).isSome = true) (.bool (gt (F108_0 (bA (rG v0 2)) (iA (rG v0 3)) (bA (rG v0 4)) (g_TRegulateWord (aL v1)) (iA v2))))
  | _ => .fail
theorem ok108_0 : FnOk Try.prog 108 (pureC body108_0) := by
  refine pure_fnM body108_0 (rs := [.tmp 6]) Try.func108 (by kernel_rfl) rfl rfl ?_
  intro l ob v hb hob
  unfold body108_0 at hb
  split at hb
  · rename_i v0 v1 v2
    injection hb with q1 q2; subst q1 q2
    obtain ⟨hk0_0, hk0_1, hk0_2, hk0_3, hk1_0, hk2_0, hob⟩ := hob
    obtain ⟨r, H⟩ := Option.isSome_iff_exists.1 hob
    rw [H, gt_some]
    have hw0 := (rM_wk (cells := [AV.top, AV.top, AV.bool (bA (rG v0 2)), AV.int .i64 (iA (rG v0 3)), AV.bool (bA (rG v0 4)), AV.top, AV.top, AV.top, AV.top, AV.top]) hk0_0 (fun y hy => match y, hy with | 0, _ => top_wk | 1, _ => top_wk | 2, _ => bK_wk hk0_1 | 3, _ => iK_wk hk0_2 | 4, _ => bK_wk hk0_3 | 5, _ => top_wk | 6, _ => top_wk | 7, _ => top_wk | 8, _ => top_wk | 9, _ => top_wk | y + 10, hy => absurd hy (by omega)))
    have hw1 := wA_TRegulateWord hk1_0
    have hw2 := iK_wk hk2_0
    generalize bA (rG v0 2) = p0_2 at H hw0
    generalize iA (rG v0 3) = p0_3 at H hw0
    generalize bA (rG v0 4) = p0_4 at H hw0
    generalize g_TRegulateWord (aL v1) = p1 at H hw1
    generalize iA v2 = p2 at H hw2
    refine ⟨[.rptr 10 1 0 0 (fun _ y => getL [.top, .top, .bool p0_2, .int .i64 p0_3, .bool p0_4, .top, .top, .top, .top, .top] y), .agg [.int .u8 p1.Kind, .int .i64 p1.Channel, .int .i64 p1.To, .int .i64 p1.At], .int .i64 p2], _, (fun E vs F => FR_wk1 hw0.1 F (fun vs F => FR_wk1 hw1.1 F (fun vs F => FR_wk1 hw2.1 F (fun vs F => F)))), rfl, rfl, ?_⟩
    rw [Try.ntmps108]
    simp only [List.length_cons, List.length_nil, Nat.reduceAdd, Nat.reduceSub, List.replicate_succ, List.replicate_zero, List.cons_append, List.nil_append]
    unfold F108_0 at H
    try dsimp only at H
    refine sq ctNo_ok ?_
    simp only [go_sem]
    refine seqM ?_
    refine draw_quiet shT_ok ctNo_ok (by kernel_rfl) (by kernel_rfl) ?_
    simp only [go_sem, Nat.reduceLeDiff, Nat.reduceLT, Nat.reduceAdd]
    repeat ((with_reducible refine And.intro ?_ ?_); focus exact an4)
    refine rg ctNo_ok ?_
    simp only [go_sem]
    obtain rfl := Option.some.inj H
    first | rfl | simp only [Bool.and_false, Bool.false_and, Bool.and_true, Bool.true_and] | exact congrArg AV.bool (Eq.symm (by assumption))
  · cases hb
noncomputable def F109_0 (p0 : TRegulate) (p1 : TRegulateWord) (p2 : Int) (p3 : Int) : Option ((List TRegulateWord) × Int × TRegulate) :=
  some ([], 0, (TRegulate.mk p0.Table p0.Channel p0.Lead p1.At p0.Stopped p0.Moving p0.To p0.At p0.Blocked p0.Clear))
noncomputable def body109_0 : List AV -> List ABlk -> ED
  | [v0, v1, v2, v3], h => .ed [ptB v0, slN (getL (celL h v0) 0), slN (getL (celL h v0) 8), slN (getL (celL h v0) 9)] (pK 39 10 h v0 /\ k_TRegulate (getL (roWL h (celL h v0))) /\ oS 45 3 h (getL (celL h v0) 0) /\ nref (getL (celL h v0) 1) /\ nref (getL (celL h v0) 2) /\ nref (getL (celL h v0) 3) /\ nref (getL (celL h v0) 4) /\ nref (getL (celL h v0) 5) /\ nref (getL (celL h v0) 6) /\ nref (getL (celL h v0) 7) /\ oS 79 2 h (getL (celL h v0) 8) /\ oS 3 1 h (getL (celL h v0) 9) /\ aK 4 k_TRegulateWord (roD (deadL h [ptB v0, slN (getL (celL h v0) 0), slN (getL (celL h v0) 8), slN (getL (celL h v0) 9)]) v1) /\ roDOb (deadL h [ptB v0, slN (getL (celL h v0) 0), slN (getL (celL h v0) 8), slN (getL (celL h v0) 9)]) v1 /\ iK .i64 (roD (deadL h [ptB v0, slN (getL (celL h v0) 0), slN (getL (celL h v0) 8), slN (getL (celL h v0) 9)]) v2) /\ roDOb (deadL h [ptB v0, slN (getL (celL h v0) 0), slN (getL (celL h v0) 8), slN (getL (celL h v0) 9)]) v2 /\ iK .i64 (roD (deadL h [ptB v0, slN (getL (celL h v0) 0), slN (getL (celL h v0) 8), slN (getL (celL h v0) 9)]) v3) /\ roDOb (deadL h [ptB v0, slN (getL (celL h v0) 0), slN (getL (celL h v0) 8), slN (getL (celL h v0) 9)]) v3 /\ (F109_0 (g_TRegulate (getL (roWL h (celL h v0)))) (g_TRegulateWord (aL (roD (deadL h [ptB v0, slN (getL (celL h v0) 0), slN (getL (celL h v0) 8), slN (getL (celL h v0) 9)]) v1))) (iA (roD (deadL h [ptB v0, slN (getL (celL h v0) 0), slN (getL (celL h v0) 8), slN (getL (celL h v0) 9)]) v2)) (iA (roD (deadL h [ptB v0, slN (getL (celL h v0) 0), slN (getL (celL h v0) 8), slN (getL (celL h v0) 9)]) v3))).isSome = true) (.tup [.sl 7 4 0 (((gt (F109_0 (g_TRegulate (getL (roWL h (celL h v0)))) (g_TRegulateWord (aL (roD (deadL h [ptB v0, slN (getL (celL h v0) 0), slN (getL (celL h v0) 8), slN (getL (celL h v0) 9)]) v1))) (iA (roD (deadL h [ptB v0, slN (getL (celL h v0) 0), slN (getL (celL h v0) 8), slN (getL (celL h v0) 9)]) v2)) (iA (roD (deadL h [ptB v0, slN (getL (celL h v0) 0), slN (getL (celL h v0) 8), slN (getL (celL h v0) 9)]) v3)))).1).length) false, .int .i64 ((gt (F109_0 (g_TRegulate (getL (roWL h (celL h v0)))) (g_TRegulateWord (aL (roD (deadL h [ptB v0, slN (getL (celL h v0) 0), slN (getL (celL h v0) 8), slN (getL (celL h v0) 9)]) v1))) (iA (roD (deadL h [ptB v0, slN (getL (celL h v0) 0), slN (getL (celL h v0) 8), slN (getL (celL h v0) 9)]) v2)) (iA (roD (deadL h [ptB v0, slN (getL (celL h v0) 0), slN (getL (celL h v0) 8), slN (getL (celL h v0) 9)]) v3)))).2.1)]) [.lit 39 [.sl 4 3 0 ((((gt (F109_0 (g_TRegulate (getL (roWL h (celL h v0)))) (g_TRegulateWord (aL (roD (deadL h [ptB v0, slN (getL (celL h v0) 0), slN (getL (celL h v0) 8), slN (getL (celL h v0) 9)]) v1))) (iA (roD (deadL h [ptB v0, slN (getL (celL h v0) 0), slN (getL (celL h v0) 8), slN (getL (celL h v0) 9)]) v2)) (iA (roD (deadL h [ptB v0, slN (getL (celL h v0) 0), slN (getL (celL h v0) 8), slN (getL (celL h v0) 9)]) v3)))).2.2).Table).length) false, .int .i64 (((gt (F109_0 (g_TRegulate (getL (roWL h (celL h v0)))) (g_TRegulateWord (aL (roD (deadL h [ptB v0, slN (getL (celL h v0) 0), slN (getL (celL h v0) 8), slN (getL (celL h v0) 9)]) v1))) (iA (roD (deadL h [ptB v0, slN (getL (celL h v0) 0), slN (getL (celL h v0) 8), slN (getL (celL h v0) 9)]) v2)) (iA (roD (deadL h [ptB v0, slN (getL (celL h v0) 0), slN (getL (celL h v0) 8), slN (getL (celL h v0) 9)]) v3)))).2.2).Channel), .bool (((gt (F109_0 (g_TRegulate (getL (roWL h (celL h v0)))) (g_TRegulateWord (aL (roD (deadL h [ptB v0, slN (getL (celL h v0) 0), slN (getL (celL h v0) 8), slN (getL (celL h v0) 9)]) v1))) (iA (roD (deadL h [ptB v0, slN (getL (celL h v0) 0), slN (getL (celL h v0) 8), slN (getL (celL h v0) 9)]) v2)) (iA (roD (deadL h [ptB v0, slN (getL (celL h v0) 0), slN (getL (celL h v0) 8), slN (getL (celL h v0) 9)]) v3)))).2.2).Lead), .int .i64 (((gt (F109_0 (g_TRegulate (getL (roWL h (celL h v0)))) (g_TRegulateWord (aL (roD (deadL h [ptB v0, slN (getL (celL h v0) 0), slN (getL (celL h v0) 8), slN (getL (celL h v0) 9)]) v1))) (iA (roD (deadL h [ptB v0, slN (getL (celL h v0) 0), slN (getL (celL h v0) 8), slN (getL (celL h v0) 9)]) v2)) (iA (roD (deadL h [ptB v0, slN (getL (celL h v0) 0), slN (getL (celL h v0) 8), slN (getL (celL h v0) 9)]) v3)))).2.2).Heard), .bool (((gt (F109_0 (g_TRegulate (getL (roWL h (celL h v0)))) (g_TRegulateWord (aL (roD (deadL h [ptB v0, slN (getL (celL h v0) 0), slN (getL (celL h v0) 8), slN (getL (celL h v0) 9)]) v1))) (iA (roD (deadL h [ptB v0, slN (getL (celL h v0) 0), slN (getL (celL h v0) 8), slN (getL (celL h v0) 9)]) v2)) (iA (roD (deadL h [ptB v0, slN (getL (celL h v0) 0), slN (getL (celL h v0) 8), slN (getL (celL h v0) 9)]) v3)))).2.2).Stopped), .bool (((gt (F109_0 (g_TRegulate (getL (roWL h (celL h v0)))) (g_TRegulateWord (aL (roD (deadL h [ptB v0, slN (getL (celL h v0) 0), slN (getL (celL h v0) 8), slN (getL (celL h v0) 9)]) v1))) (iA (roD (deadL h [ptB v0, slN (getL (celL h v0) 0), slN (getL (celL h v0) 8), slN (getL (celL h v0) 9)]) v2)) (iA (roD (deadL h [ptB v0, slN (getL (celL h v0) 0), slN (getL (celL h v0) 8), slN (getL (celL h v0) 9)]) v3)))).2.2).Moving), .int .i64 (((gt (F109_0 (g_TRegulate (getL (roWL h (celL h v0)))) (g_TRegulateWord (aL (roD (deadL h [ptB v0, slN (getL (celL h v0) 0), slN (getL (celL h v0) 8), slN (getL (celL h v0) 9)]) v1))) (iA (roD (deadL h [ptB v0, slN (getL (celL h v0) 0), slN (getL (celL h v0) 8), slN (getL (celL h v0) 9)]) v2)) (iA (roD (deadL h [ptB v0, slN (getL (celL h v0) 0), slN (getL (celL h v0) 8), slN (getL (celL h v0) 9)]) v3)))).2.2).To), .int .i64 (((gt (F109_0 (g_TRegulate (getL (roWL h (celL h v0)))) (g_TRegulateWord (aL (roD (deadL h [ptB v0, slN (getL (celL h v0) 0), slN (getL (celL h v0) 8), slN (getL (celL h v0) 9)]) v1))) (iA (roD (deadL h [ptB v0, slN (getL (celL h v0) 0), slN (getL (celL h v0) 8), slN (getL (celL h v0) 9)]) v2)) (iA (roD (deadL h [ptB v0, slN (getL (celL h v0) 0), slN (getL (celL h v0) 8), slN (getL (celL h v0) 9)]) v3)))).2.2).At), .sl 5 2 0 ((((gt (F109_0 (g_TRegulate (getL (roWL h (celL h v0)))) (g_TRegulateWord (aL (roD (deadL h [ptB v0, slN (getL (celL h v0) 0), slN (getL (celL h v0) 8), slN (getL (celL h v0) 9)]) v1))) (iA (roD (deadL h [ptB v0, slN (getL (celL h v0) 0), slN (getL (celL h v0) 8), slN (getL (celL h v0) 9)]) v2)) (iA (roD (deadL h [ptB v0, slN (getL (celL h v0) 0), slN (getL (celL h v0) 8), slN (getL (celL h v0) 9)]) v3)))).2.2).Blocked).length) false, .sl 6 1 0 ((((gt (F109_0 (g_TRegulate (getL (roWL h (celL h v0)))) (g_TRegulateWord (aL (roD (deadL h [ptB v0, slN (getL (celL h v0) 0), slN (getL (celL h v0) 8), slN (getL (celL h v0) 9)]) v1))) (iA (roD (deadL h [ptB v0, slN (getL (celL h v0) 0), slN (getL (celL h v0) 8), slN (getL (celL h v0) 9)]) v2)) (iA (roD (deadL h [ptB v0, slN (getL (celL h v0) 0), slN (getL (celL h v0) 8), slN (getL (celL h v0) 9)]) v3)))).2.2).Clear).length) false], .dead, .dead, .dead, .row 45 3 ((((gt (F109_0 (g_TRegulate (getL (roWL h (celL h v0)))) (g_TRegulateWord (aL (roD (deadL h [ptB v0, slN (getL (celL h v0) 0), slN (getL (celL h v0) 8), slN (getL (celL h v0) 9)]) v1))) (iA (roD (deadL h [ptB v0, slN (getL (celL h v0) 0), slN (getL (celL h v0) 8), slN (getL (celL h v0) 9)]) v2)) (iA (roD (deadL h [ptB v0, slN (getL (celL h v0) 0), slN (getL (celL h v0) 8), slN (getL (celL h v0) 9)]) v3)))).2.2).Table).length) (enR c_TRegulateChannel (((gt (F109_0 (g_TRegulate (getL (roWL h (celL h v0)))) (g_TRegulateWord (aL (roD (deadL h [ptB v0, slN (getL (celL h v0) 0), slN (getL (celL h v0) 8), slN (getL (celL h v0) 9)]) v1))) (iA (roD (deadL h [ptB v0, slN (getL (celL h v0) 0), slN (getL (celL h v0) 8), slN (getL (celL h v0) 9)]) v2)) (iA (roD (deadL h [ptB v0, slN (getL (celL h v0) 0), slN (getL (celL h v0) 8), slN (getL (celL h v0) 9)]) v3)))).2.2).Table)), .row 79 2 ((((gt (F109_0 (g_TRegulate (getL (roWL h (celL h v0)))) (g_TRegulateWord (aL (roD (deadL h [ptB v0, slN (getL (celL h v0) 0), slN (getL (celL h v0) 8), slN (getL (celL h v0) 9)]) v1))) (iA (roD (deadL h [ptB v0, slN (getL (celL h v0) 0), slN (getL (celL h v0) 8), slN (getL (celL h v0) 9)]) v2)) (iA (roD (deadL h [ptB v0, slN (getL (celL h v0) 0), slN (getL (celL h v0) 8), slN (getL (celL h v0) 9)]) v3)))).2.2).Blocked).length) (enR c_TRegulateBlock (((gt (F109_0 (g_TRegulate (getL (roWL h (celL h v0)))) (g_TRegulateWord (aL (roD (deadL h [ptB v0, slN (getL (celL h v0) 0), slN (getL (celL h v0) 8), slN (getL (celL h v0) 9)]) v1))) (iA (roD (deadL h [ptB v0, slN (getL (celL h v0) 0), slN (getL (celL h v0) 8), slN (getL (celL h v0) 9)]) v2)) (iA (roD (deadL h [ptB v0, slN (getL (celL h v0) 0), slN (getL (celL h v0) 8), slN (getL (celL h v0) 9)]) v3)))).2.2).Blocked)), .row 3 1 ((((gt (F109_0 (g_TRegulate (getL (roWL h (celL h v0)))) (g_TRegulateWord (aL (roD (deadL h [ptB v0, slN (getL (celL h v0) 0), slN (getL (celL h v0) 8), slN (getL (celL h v0) 9)]) v1))) (iA (roD (deadL h [ptB v0, slN (getL (celL h v0) 0), slN (getL (celL h v0) 8), slN (getL (celL h v0) 9)]) v2)) (iA (roD (deadL h [ptB v0, slN (getL (celL h v0) 0), slN (getL (celL h v0) 8), slN (getL (celL h v0) 9)]) v3)))).2.2).Clear).length) (enR c_i64 (((gt (F109_0 (g_TRegulate (getL (roWL h (celL h v0)))) (g_TRegulateWord (aL (roD (deadL h [ptB v0, slN (getL (celL h v0) 0), slN (getL (celL h v0) 8), slN (getL (celL h v0) 9)]) v1))) (iA (roD (deadL h [ptB v0, slN (getL (celL h v0) 0), slN (getL (celL h v0) 8), slN (getL (celL h v0) 9)]) v2)) (iA (roD (deadL h [ptB v0, slN (getL (celL h v0) 0), slN (getL (celL h v0) 8), slN (getL (celL h v0) 9)]) v3)))).2.2).Clear)), .row 23 4 (((gt (F109_0 (g_TRegulate (getL (roWL h (celL h v0)))) (g_TRegulateWord (aL (roD (deadL h [ptB v0, slN (getL (celL h v0) 0), slN (getL (celL h v0) 8), slN (getL (celL h v0) 9)]) v1))) (iA (roD (deadL h [ptB v0, slN (getL (celL h v0) 0), slN (getL (celL h v0) 8), slN (getL (celL h v0) 9)]) v2)) (iA (roD (deadL h [ptB v0, slN (getL (celL h v0) 0), slN (getL (celL h v0) 8), slN (getL (celL h v0) 9)]) v3)))).1).length) (enR c_TRegulateWord ((gt (F109_0 (g_TRegulate (getL (roWL h (celL h v0)))) (g_TRegulateWord (aL (roD (deadL h [ptB v0, slN (getL (celL h v0) 0), slN (getL (celL h v0) 8), slN (getL (celL h v0) 9)]) v1))) (iA (roD (deadL h [ptB v0, slN (getL (celL h v0) 0), slN (getL (celL h v0) 8), slN (getL (celL h v0) 9)]) v2)) (iA (roD (deadL h [ptB v0, slN (getL (celL h v0) 0), slN (getL (celL h v0) 8), slN (getL (celL h v0) 9)]) v3)))).1))]
  | _, _ => .fail
theorem ok109_0 : FnOk Try.prog 109 (edC body109_0) := by
  refine edit_fnV body109_0 (rs := [.tmp 8, .tmp 9]) Try.func109 (by kernel_rfl) rfl rfl ?_
  intro l h bs ob q0 g0 hb hob
  unfold body109_0 at hb
  split at hb
  · rename_i v0 v1 v2 v3
    injection hb with q1 q2 q3 q4; subst q1 q2 q3 q4
    obtain ⟨hk0_0, hk0_1, hk0_2, hk0_3, hk0_4, hk0_5, hk0_6, hk0_7, hk0_8, hk0_9, hk0_10, hk0_11, hk1_0, hk1_1, hk2_0, hk2_1, hk3_0, hk3_1, hob⟩ := hob
    obtain ⟨r, H⟩ := Option.isSome_iff_exists.1 hob
    rw [H, gt_some]
    obtain ⟨p0, hp0⟩ : ∃ p0, p0 = g_TRegulate (getL (roWL h (celL h v0))) := ⟨_, rfl⟩
    rw [← hp0] at H
    have hw0 : ∀ y, y < 10 -> WkV (getL (c_TRegulate p0) y) (roW h (getL (celL h v0) y)) /\ nref (getL (c_TRegulate p0) y) := fun y hy => by rw [hp0, ← getL_roWL]; exact w_TRegulate hk0_1 y hy
    have hk0_K := hk0_1
    unfold k_TRegulate at hk0_K
    obtain ⟨kk0_0, kk0_1, kk0_2, kk0_3, kk0_4, kk0_5, kk0_6, kk0_7, kk0_8, kk0_9⟩ := hk0_K
    obtain ⟨ev0_0, eb0_0⟩ := own_row2 (f := c_TRegulateChannel) (g := g_TRegulateChannel) (bs := [ptB v0, slN (getL (celL h v0) 0), slN (getL (celL h v0) 8), slN (getL (celL h v0) 9)]) (i := 1) (fun hr => w_TRegulateChannel hr) hk0_2 (by rw [← getL_roWL]; exact kk0_0) (L := p0.Table) (by rw [hp0, ← getL_roWL]; rfl) rfl
    obtain ⟨ev0_8, eb0_8⟩ := own_row2 (f := c_TRegulateBlock) (g := g_TRegulateBlock) (bs := [ptB v0, slN (getL (celL h v0) 0), slN (getL (celL h v0) 8), slN (getL (celL h v0) 9)]) (i := 2) (fun hr => w_TRegulateBlock hr) hk0_10 (by rw [← getL_roWL]; exact kk0_8) (L := p0.Blocked) (by rw [hp0, ← getL_roWL]; rfl) rfl
    obtain ⟨ev0_9, eb0_9⟩ := own_row2 (f := c_i64) (g := g_i64) (bs := [ptB v0, slN (getL (celL h v0) 0), slN (getL (celL h v0) 8), slN (getL (celL h v0) 9)]) (i := 3) (fun hr => w_i64 hr) hk0_11 (by rw [← getL_roWL]; exact kk0_9) (L := p0.Clear) (by rw [hp0, ← getL_roWL]; rfl) rfl
    have hw1 := wA_TRegulateWord hk1_0
    obtain ⟨p1, hp_p1⟩ : ∃ p1, p1 = g_TRegulateWord (aL (roD (deadL h [ptB v0, slN (getL (celL h v0) 0), slN (getL (celL h v0) 8), slN (getL (celL h v0) 9)]) v1)) := ⟨_, rfl⟩
    rw [← hp_p1] at H hw1
    have hw2 := iK_wk hk2_0
    obtain ⟨p2, hp_p2⟩ : ∃ p2, p2 = iA (roD (deadL h [ptB v0, slN (getL (celL h v0) 0), slN (getL (celL h v0) 8), slN (getL (celL h v0) 9)]) v2) := ⟨_, rfl⟩
    rw [← hp_p2] at H hw2
    have hw3 := iK_wk hk3_0
    obtain ⟨p3, hp_p3⟩ : ∃ p3, p3 = iA (roD (deadL h [ptB v0, slN (getL (celL h v0) 0), slN (getL (celL h v0) 8), slN (getL (celL h v0) 9)]) v3) := ⟨_, rfl⟩
    rw [← hp_p3] at H hw3
    refine ⟨[.ptr 0 0 0 0, .agg [.int .u8 p1.Kind, .int .i64 p1.Channel, .int .i64 p1.To, .int .i64 p1.At], .int .i64 p2, .int .i64 p3], [.lit 39 [.sl 1 3 0 p0.Table.length false, .int .i64 p0.Channel, .bool p0.Lead, .int .i64 p0.Heard, .bool p0.Stopped, .bool p0.Moving, .int .i64 p0.To, .int .i64 p0.At, .sl 2 2 0 p0.Blocked.length false, .sl 3 1 0 p0.Clear.length false], .row 45 3 p0.Table.length (enR c_TRegulateChannel p0.Table), .row 79 2 p0.Blocked.length (enR c_TRegulateBlock p0.Blocked), .row 3 1 p0.Clear.length (enR c_i64 p0.Clear)], rfl, ⟨(EW_own (EV_pK hk0_0 rfl) (by simp only [noro])), ⟨(EW_view hk1_1 hw1), ⟨(EW_view hk2_1 hw2), ⟨(EW_view hk3_1 hw3), trivial⟩⟩⟩⟩, ⟨(EB_pK hk0_0 rfl rfl (fun y hy => by
          match y, hy with
          | 0, _ => exact ev0_0
          | 1, _ => exact EV_t hk0_3 (hw0 1 (by decide))
          | 2, _ => exact EV_t hk0_4 (hw0 2 (by decide))
          | 3, _ => exact EV_t hk0_5 (hw0 3 (by decide))
          | 4, _ => exact EV_t hk0_6 (hw0 4 (by decide))
          | 5, _ => exact EV_t hk0_7 (hw0 5 (by decide))
          | 6, _ => exact EV_t hk0_8 (hw0 6 (by decide))
          | 7, _ => exact EV_t hk0_9 (hw0 7 (by decide))
          | 8, _ => exact ev0_8
          | 9, _ => exact ev0_9
          | y + 10, hy => omega)), ⟨eb0_0, ⟨eb0_8, ⟨eb0_9, trivial⟩⟩⟩⟩, ⟨(by simp only [noroB, noroL, noro, and_self]), ⟨noroB_en, ⟨noroB_en, ⟨noroB_en, trivial⟩⟩⟩⟩, ⟨trivial, ⟨trivial, ⟨trivial, ⟨trivial, ⟨(nfB_en nr_TRegulateChannel), ⟨(nfB_en nr_TRegulateBlock), ⟨(nfB_en nr_i64), ⟨(nfB_en nr_TRegulateWord), trivial⟩⟩⟩⟩⟩⟩⟩⟩, ⟨(by simp only [noroB, noroL, noro, and_self]), ⟨trivial, ⟨trivial, ⟨trivial, ⟨noroB_en, ⟨noroB_en, ⟨noroB_en, ⟨noroB_en, trivial⟩⟩⟩⟩⟩⟩⟩⟩, (by first | (simp only [noro, noroL, and_self]; done) | (simp only [noro, noroL]; and_intros <;> first | trivial | exact noro_bif (by simp only [noro]) (by simp only [noro]) | (simp only [noro, noroL, and_self]))), ?_⟩
    rw [Try.ntmps109]
    simp only [List.length_cons, List.length_nil, Nat.reduceAdd, Nat.reduceSub, List.replicate_succ, List.replicate_zero, List.cons_append, List.nil_append]
    unfold F109_0 at H
    try dsimp only at H
    refine sq ctNo_ok ?_
    simp only [go_sem, Nat.reduceAdd]
    refine sq ctNo_ok ?_
    simp only [go_sem, Nat.reduceLeDiff, Nat.reduceLT, Nat.reduceAdd]
    repeat ((with_reducible refine And.intro ?_ ?_); focus exact an4)
    refine sq ctNo_ok ?_
    simp only [go_sem]
    refine rg ctNo_ok ?_
    simp only [go_sem]
    obtain rfl := Option.some.inj H
    refine RetE_mk [] [some 0, some 1, some 2, some 3, some 1, some 2, some 3, none] ?_ ?_ ?_ ?_ (by rfl) (by rfl)
    · simp only [go_sem]
      try exact at0
    · simp only [go_sem]
      try exact at0
    · simp only [go_sem]
      exact Cv_tup (CvL_cons (by first | (simp [Cv]; done) | (simp [Cv, CvL, getM, gt_some]; omega)) (CvL_cons (by simp [Cv]) CvL_nil))
    · simp only [go_sem, CvH]
      first | exact ⟨(by simp [CvB, CvL, Cv, blkAt, geth, getM]), CvB_dead, CvB_dead, CvB_dead, CvB_row nr_TRegulateChannel cl (fun _ _ _ _ => rfl), CvB_row nr_TRegulateBlock cl (fun _ _ _ _ => rfl), CvB_row nr_i64 cl (fun _ _ _ _ => rfl), CvB_none⟩ | trivial
  · cases hb
noncomputable def ct36t0 : Ct := tab [(50, edC body50)]
theorem ct36t0_ok : CtOk Try.prog ct36t0 := tab_cons ok50 <| tab_nil
theorem ct36t0_50 (l : List AV) (h : List ABlk) : ct36t0 50 l h = edC body50 l h := rfl
noncomputable def ct36t1 : Ct := tab [(44, pureC body44)]
theorem ct36t1_ok : CtOk Try.prog ct36t1 := tab_cons ok44 <| tab_nil
theorem ct36t1_44 (l : List AV) (h : List ABlk) : ct36t1 44 l h = pureC body44 l h := rfl
noncomputable def ct36t2 : Ct := tab [(79, mapC M79)]
theorem ct36t2_ok : CtOk Try.prog ct36t2 := tab_cons ok79 <| tab_nil
theorem ct36t2_79 (l : List AV) (h : List ABlk) : ct36t2 79 l h = mapC M79 l h := rfl
noncomputable def ct36t3 : Ct := tab [(104, pureC body104_0)]
theorem ct36t3_ok : CtOk Try.prog ct36t3 := tab_cons ok104_0 <| tab_nil
theorem ct36t3_104 (l : List AV) (h : List ABlk) : ct36t3 104 l h = pureC body104_0 l h := rfl
noncomputable def ct36t4 : Ct := tab [(105, edC body105_0)]
theorem ct36t4_ok : CtOk Try.prog ct36t4 := tab_cons ok105_0 <| tab_nil
theorem ct36t4_105 (l : List AV) (h : List ABlk) : ct36t4 105 l h = edC body105_0 l h := rfl
noncomputable def ct36t5 : Ct := tab [(106, pureC body106_0)]
theorem ct36t5_ok : CtOk Try.prog ct36t5 := tab_cons ok106_0 <| tab_nil
theorem ct36t5_106 (l : List AV) (h : List ABlk) : ct36t5 106 l h = pureC body106_0 l h := rfl
noncomputable def ct36t6 : Ct := tab [(107, edC body107_0)]
theorem ct36t6_ok : CtOk Try.prog ct36t6 := tab_cons ok107_0 <| tab_nil
theorem ct36t6_107 (l : List AV) (h : List ABlk) : ct36t6 107 l h = edC body107_0 l h := rfl
noncomputable def ct36t7 : Ct := tab [(108, pureC body108_0)]
theorem ct36t7_ok : CtOk Try.prog ct36t7 := tab_cons ok108_0 <| tab_nil
theorem ct36t7_108 (l : List AV) (h : List ABlk) : ct36t7 108 l h = pureC body108_0 l h := rfl
noncomputable def ct36t8 : Ct := tab [(109, edC body109_0)]
theorem ct36t8_ok : CtOk Try.prog ct36t8 := tab_cons ok109_0 <| tab_nil
theorem ct36t8_109 (l : List AV) (h : List ABlk) : ct36t8 109 l h = edC body109_0 l h := rfl
noncomputable def F36 (p0 : TRegulate) (p1 : TRegulateWord) (p2 : Int) (p3 : Int) : Option (TRegulate × (List TRegulateWord) × Int) :=
  (F50 p0 p3 p2).bind fun r1 => bif r1.1.isSome then (bif (!bEq r1.2 0) then (some ((TRegulate.mk [] 0 false 0 false false 0 0 [] []), [], r1.2)) else ((F44 p1).bind fun r5 => bif (!r5) then (some ((TRegulate.mk [] 0 false 0 false false 0 0 [] []), [], 8)) else (bif bEq p1.Kind 1 then (need (bif (!(!bEq p1.Channel ((gt r1.1).Channel))) then ((F104_0 ((gt r1.1).Lead) p1 p3).isSome) else true) <| bif ((!bEq p1.Channel ((gt r1.1).Channel)) || (!(gt (F104_0 ((gt r1.1).Lead) p1 p3)))) then (some ((TRegulate.mk [] 0 false 0 false false 0 0 [] []), [], 21)) else ((F105_0 (TRegulate.mk ((gt r1.1).Table) ((gt r1.1).Channel) ((gt r1.1).Lead) ((gt r1.1).Heard) ((gt r1.1).Stopped) ((gt r1.1).Moving) ((gt r1.1).To) ((gt r1.1).At) ((gt r1.1).Blocked) ((gt r1.1).Clear)) p1 p2 p3).bind fun r11 => bif (!bEq r11.2.1 0) then (some ((TRegulate.mk [] 0 false 0 false false 0 0 [] []), [], r11.2.1)) else (some ((TRegulate.mk r11.2.2.Table r11.2.2.Channel r11.2.2.Lead r11.2.2.Heard r11.2.2.Stopped r11.2.2.Moving r11.2.2.To r11.2.2.At r11.2.2.Blocked r11.2.2.Clear), r11.1, 0)))) else (bif bEq p1.Kind 2 then (need (bif (!(!bEq p1.Channel ((gt r1.1).Channel))) then ((F106_0 ((gt r1.1).Lead) ((gt r1.1).Stopped) p1 p3).isSome) else true) <| bif ((!bEq p1.Channel ((gt r1.1).Channel)) || (!(gt (F106_0 ((gt r1.1).Lead) ((gt r1.1).Stopped) p1 p3)))) then (some ((TRegulate.mk [] 0 false 0 false false 0 0 [] []), [], 21)) else ((F107_0 (TRegulate.mk ((gt r1.1).Table) ((gt r1.1).Channel) ((gt r1.1).Lead) ((gt r1.1).Heard) ((gt r1.1).Stopped) ((gt r1.1).Moving) ((gt r1.1).To) ((gt r1.1).At) ((gt r1.1).Blocked) ((gt r1.1).Clear)) p1 p2 p3).bind fun r17 => bif (!bEq r17.2.1 0) then (some ((TRegulate.mk [] 0 false 0 false false 0 0 [] []), [], r17.2.1)) else (some ((TRegulate.mk r17.2.2.Table r17.2.2.Channel r17.2.2.Lead r17.2.2.Heard r17.2.2.Stopped r17.2.2.Moving r17.2.2.To r17.2.2.At r17.2.2.Blocked r17.2.2.Clear), r17.1, 0)))) else (bif bEq p1.Kind 3 then (need (bif (!(!bEq p1.Channel ((gt r1.1).Channel))) then ((F108_0 ((gt r1.1).Lead) ((gt r1.1).Heard) ((gt r1.1).Stopped) p1 p3).isSome) else true) <| bif ((!bEq p1.Channel ((gt r1.1).Channel)) || (!(gt (F108_0 ((gt r1.1).Lead) ((gt r1.1).Heard) ((gt r1.1).Stopped) p1 p3)))) then (some ((TRegulate.mk [] 0 false 0 false false 0 0 [] []), [], 21)) else ((F109_0 (TRegulate.mk ((gt r1.1).Table) ((gt r1.1).Channel) ((gt r1.1).Lead) ((gt r1.1).Heard) ((gt r1.1).Stopped) ((gt r1.1).Moving) ((gt r1.1).To) ((gt r1.1).At) ((gt r1.1).Blocked) ((gt r1.1).Clear)) p1 p2 p3).bind fun r23 => bif (!bEq r23.2.1 0) then (some ((TRegulate.mk [] 0 false 0 false false 0 0 [] []), [], r23.2.1)) else (some ((TRegulate.mk r23.2.2.Table r23.2.2.Channel r23.2.2.Lead r23.2.2.Heard r23.2.2.Stopped r23.2.2.Moving r23.2.2.To r23.2.2.At r23.2.2.Blocked r23.2.2.Clear), r23.1, 0)))) else (none)))))) else (bif (!bEq r1.2 0) then (some ((TRegulate.mk [] 0 false 0 false false 0 0 [] []), [], r1.2)) else ((F44 p1).bind fun r27 => bif (!r27) then (some ((TRegulate.mk [] 0 false 0 false false 0 0 [] []), [], 8)) else (bif bEq p1.Kind 1 then (none) else (bif bEq p1.Kind 2 then (none) else (bif bEq p1.Kind 3 then (none) else (none))))))
noncomputable def body36 : List AV -> List ABlk -> ED
  | [v0, v1, v2, v3], h => .ed [] (aK 10 k_TRegulate (roD (deadL h []) v0) /\ roDOb (deadL h []) v0 /\ aK 4 k_TRegulateWord (roD (deadL h []) v1) /\ roDOb (deadL h []) v1 /\ iK .i64 (roD (deadL h []) v2) /\ roDOb (deadL h []) v2 /\ iK .i64 (roD (deadL h []) v3) /\ roDOb (deadL h []) v3 /\ (F36 (g_TRegulate (aL (roD (deadL h []) v0))) (g_TRegulateWord (aL (roD (deadL h []) v1))) (iA (roD (deadL h []) v2)) (iA (roD (deadL h []) v3))).isSome = true) (.tup [.agg [.sl 0 3 0 ((((gt (F36 (g_TRegulate (aL (roD (deadL h []) v0))) (g_TRegulateWord (aL (roD (deadL h []) v1))) (iA (roD (deadL h []) v2)) (iA (roD (deadL h []) v3)))).1).Table).length) false, .int .i64 (((gt (F36 (g_TRegulate (aL (roD (deadL h []) v0))) (g_TRegulateWord (aL (roD (deadL h []) v1))) (iA (roD (deadL h []) v2)) (iA (roD (deadL h []) v3)))).1).Channel), .bool (((gt (F36 (g_TRegulate (aL (roD (deadL h []) v0))) (g_TRegulateWord (aL (roD (deadL h []) v1))) (iA (roD (deadL h []) v2)) (iA (roD (deadL h []) v3)))).1).Lead), .int .i64 (((gt (F36 (g_TRegulate (aL (roD (deadL h []) v0))) (g_TRegulateWord (aL (roD (deadL h []) v1))) (iA (roD (deadL h []) v2)) (iA (roD (deadL h []) v3)))).1).Heard), .bool (((gt (F36 (g_TRegulate (aL (roD (deadL h []) v0))) (g_TRegulateWord (aL (roD (deadL h []) v1))) (iA (roD (deadL h []) v2)) (iA (roD (deadL h []) v3)))).1).Stopped), .bool (((gt (F36 (g_TRegulate (aL (roD (deadL h []) v0))) (g_TRegulateWord (aL (roD (deadL h []) v1))) (iA (roD (deadL h []) v2)) (iA (roD (deadL h []) v3)))).1).Moving), .int .i64 (((gt (F36 (g_TRegulate (aL (roD (deadL h []) v0))) (g_TRegulateWord (aL (roD (deadL h []) v1))) (iA (roD (deadL h []) v2)) (iA (roD (deadL h []) v3)))).1).To), .int .i64 (((gt (F36 (g_TRegulate (aL (roD (deadL h []) v0))) (g_TRegulateWord (aL (roD (deadL h []) v1))) (iA (roD (deadL h []) v2)) (iA (roD (deadL h []) v3)))).1).At), .sl 1 2 0 ((((gt (F36 (g_TRegulate (aL (roD (deadL h []) v0))) (g_TRegulateWord (aL (roD (deadL h []) v1))) (iA (roD (deadL h []) v2)) (iA (roD (deadL h []) v3)))).1).Blocked).length) false, .sl 2 1 0 ((((gt (F36 (g_TRegulate (aL (roD (deadL h []) v0))) (g_TRegulateWord (aL (roD (deadL h []) v1))) (iA (roD (deadL h []) v2)) (iA (roD (deadL h []) v3)))).1).Clear).length) false], .sl 3 4 0 (((gt (F36 (g_TRegulate (aL (roD (deadL h []) v0))) (g_TRegulateWord (aL (roD (deadL h []) v1))) (iA (roD (deadL h []) v2)) (iA (roD (deadL h []) v3)))).2.1).length) false, .int .i64 ((gt (F36 (g_TRegulate (aL (roD (deadL h []) v0))) (g_TRegulateWord (aL (roD (deadL h []) v1))) (iA (roD (deadL h []) v2)) (iA (roD (deadL h []) v3)))).2.2)]) [.row 45 3 ((((gt (F36 (g_TRegulate (aL (roD (deadL h []) v0))) (g_TRegulateWord (aL (roD (deadL h []) v1))) (iA (roD (deadL h []) v2)) (iA (roD (deadL h []) v3)))).1).Table).length) (enR c_TRegulateChannel (((gt (F36 (g_TRegulate (aL (roD (deadL h []) v0))) (g_TRegulateWord (aL (roD (deadL h []) v1))) (iA (roD (deadL h []) v2)) (iA (roD (deadL h []) v3)))).1).Table)), .row 79 2 ((((gt (F36 (g_TRegulate (aL (roD (deadL h []) v0))) (g_TRegulateWord (aL (roD (deadL h []) v1))) (iA (roD (deadL h []) v2)) (iA (roD (deadL h []) v3)))).1).Blocked).length) (enR c_TRegulateBlock (((gt (F36 (g_TRegulate (aL (roD (deadL h []) v0))) (g_TRegulateWord (aL (roD (deadL h []) v1))) (iA (roD (deadL h []) v2)) (iA (roD (deadL h []) v3)))).1).Blocked)), .row 3 1 ((((gt (F36 (g_TRegulate (aL (roD (deadL h []) v0))) (g_TRegulateWord (aL (roD (deadL h []) v1))) (iA (roD (deadL h []) v2)) (iA (roD (deadL h []) v3)))).1).Clear).length) (enR c_i64 (((gt (F36 (g_TRegulate (aL (roD (deadL h []) v0))) (g_TRegulateWord (aL (roD (deadL h []) v1))) (iA (roD (deadL h []) v2)) (iA (roD (deadL h []) v3)))).1).Clear)), .row 23 4 (((gt (F36 (g_TRegulate (aL (roD (deadL h []) v0))) (g_TRegulateWord (aL (roD (deadL h []) v1))) (iA (roD (deadL h []) v2)) (iA (roD (deadL h []) v3)))).2.1).length) (enR c_TRegulateWord ((gt (F36 (g_TRegulate (aL (roD (deadL h []) v0))) (g_TRegulateWord (aL (roD (deadL h []) v1))) (iA (roD (deadL h []) v2)) (iA (roD (deadL h []) v3)))).2.1))]
  | _, _ => .fail
theorem ok36 : FnOk Try.prog 36 (edC body36) := by
  refine edit_fnV body36 (rs := [.cell 8 39, .tmp 9, .tmp 10]) Try.func36 (by kernel_rfl) rfl rfl ?_
  intro l h bs ob q0 g0 hb hob
  unfold body36 at hb
  split at hb
  · rename_i v0 v1 v2 v3
    injection hb with q1 q2 q3 q4; subst q1 q2 q3 q4
    obtain ⟨hk0_0, hk0_1, hk1_0, hk1_1, hk2_0, hk2_1, hk3_0, hk3_1, hob⟩ := hob
    obtain ⟨r, H⟩ := Option.isSome_iff_exists.1 hob
    rw [H, gt_some]
    have hw0 := wA_TRegulate hk0_0
    obtain ⟨p0, hp_p0⟩ : ∃ p0, p0 = g_TRegulate (aL (roD (deadL h []) v0)) := ⟨_, rfl⟩
    rw [← hp_p0] at H hw0
    have hw1 := wA_TRegulateWord hk1_0
    obtain ⟨p1, hp_p1⟩ : ∃ p1, p1 = g_TRegulateWord (aL (roD (deadL h []) v1)) := ⟨_, rfl⟩
    rw [← hp_p1] at H hw1
    have hw2 := iK_wk hk2_0
    obtain ⟨p2, hp_p2⟩ : ∃ p2, p2 = iA (roD (deadL h []) v2) := ⟨_, rfl⟩
    rw [← hp_p2] at H hw2
    have hw3 := iK_wk hk3_0
    obtain ⟨p3, hp_p3⟩ : ∃ p3, p3 = iA (roD (deadL h []) v3) := ⟨_, rfl⟩
    rw [← hp_p3] at H hw3
    refine ⟨[.agg [.ro 3 p0.Table.length false (enR c_TRegulateChannel p0.Table), .int .i64 p0.Channel, .bool p0.Lead, .int .i64 p0.Heard, .bool p0.Stopped, .bool p0.Moving, .int .i64 p0.To, .int .i64 p0.At, .ro 2 p0.Blocked.length false (enR c_TRegulateBlock p0.Blocked), .ro 1 p0.Clear.length false (enR c_i64 p0.Clear)], .agg [.int .u8 p1.Kind, .int .i64 p1.Channel, .int .i64 p1.To, .int .i64 p1.At], .int .i64 p2, .int .i64 p3], [], rfl, ⟨(EW_view hk0_1 hw0), ⟨(EW_view hk1_1 hw1), ⟨(EW_view hk2_1 hw2), ⟨(EW_view hk3_1 hw3), trivial⟩⟩⟩⟩, trivial, trivial, ⟨(nfB_en nr_TRegulateChannel), ⟨(nfB_en nr_TRegulateBlock), ⟨(nfB_en nr_i64), ⟨(nfB_en nr_TRegulateWord), trivial⟩⟩⟩⟩, ⟨noroB_en, ⟨noroB_en, ⟨noroB_en, ⟨noroB_en, trivial⟩⟩⟩⟩, (by first | (simp only [noro, noroL, and_self]; done) | (simp only [noro, noroL]; and_intros <;> first | trivial | exact noro_bif (by simp only [noro]) (by simp only [noro]) | (simp only [noro, noroL, and_self]))), ?_⟩
    rw [Try.ntmps36]
    simp only [List.length_cons, List.length_nil, Nat.reduceAdd, Nat.reduceSub, List.replicate_succ, List.replicate_zero, List.cons_append, List.nil_append]
    unfold F36 at H
    try dsimp only at H
    refine sq ctNo_ok ?_
    simp only [go_sem, Nat.reduceAdd]
    refine seqM ?_
    obtain ⟨r1, e2, H⟩ := bsi H
    refine rg ct36t0_ok ?_
    simp only [go_sem, Nat.reduceLT, Nat.reduceAdd, ct36t0_50, body50, e2]
    repeat ((with_reducible refine And.intro ?_ ?_); focus exact an0)
    refine bif_split (c := r1.1.isSome) (fun hq3 => ?_) (fun hq3 => ?_)
    · replace H := cond_t hq3 H
      simp only [go_sem, Nat.reduceAdd, hq3, cond_true, rnm, rnmL, rhoN]
      refine seqM ?_
      refine sq ctNo_ok ?_
      simp only [go_sem]
      refine condM rfl trivial (fun hc => ?_) (fun hc => ?_)
      · have hk4 : (bEq r1.2 0) = false := by simpa using hc
        replace H := cond_t hc H
        refine sq ctNo_ok ?_
        simp only [go_sem, Nat.reduceLT, Nat.reduceAdd]
        repeat ((with_reducible refine And.intro ?_ ?_); focus exact an4)
        refine rg ctNo_ok ?_
        simp only [go_sem, Nat.reduceLT, Nat.reduceAdd]
        obtain rfl := Option.some.inj H
        refine RetE_mk [] [none, none, none, none] ?_ ?_ ?_ ?_ (by rfl) (by rfl)
        · simp only [go_sem]
          try exact at0
        · simp only [go_sem]
          try exact at0
        · simp only [go_sem]
          exact Cv_tup (CvL_cons (by first | (simp [Cv, CvL]; done) | (simp [Cv, CvL, getM, gt_some]; omega)) (CvL_cons (by first | (simp [Cv]; done) | (simp [Cv, CvL, getM, gt_some]; omega)) (CvL_cons (by simp [Cv]) CvL_nil)))
        · simp only [go_sem, CvH]
          first | exact ⟨CvB_none, CvB_none, CvB_none, CvB_none⟩ | trivial
      have hk4 : (bEq r1.2 0) = true := by simpa using hc
      replace H := cond_f hc H
      refine rg ctNo_ok ?_
      simp only [go_sem]
      refine seqM ?_
      refine seqM ?_
      obtain ⟨r5, e6, H⟩ := bsi H
      refine rg ct36t1_ok ?_
      simp only [go_sem, Nat.reduceLT, Nat.reduceAdd, ct36t1_44, body44, e6]
      repeat ((with_reducible refine And.intro ?_ ?_); focus exact an0)
      refine condM rfl trivial (fun hc => ?_) (fun hc => ?_)
      · have hk7 : (r5) = false := by simpa using hc
        replace H := cond_t hc H
        refine sq ctNo_ok ?_
        simp only [go_sem, Nat.reduceLT, Nat.reduceAdd]
        repeat ((with_reducible refine And.intro ?_ ?_); focus exact an4)
        refine rg ctNo_ok ?_
        simp only [go_sem, Nat.reduceLT, Nat.reduceAdd]
        obtain rfl := Option.some.inj H
        refine RetE_mk [] [none, none, none, none] ?_ ?_ ?_ ?_ (by rfl) (by rfl)
        · simp only [go_sem]
          try exact at0
        · simp only [go_sem]
          try exact at0
        · simp only [go_sem]
          exact Cv_tup (CvL_cons (by first | (simp [Cv, CvL]; done) | (simp [Cv, CvL, getM, gt_some]; omega)) (CvL_cons (by first | (simp [Cv]; done) | (simp [Cv, CvL, getM, gt_some]; omega)) (CvL_cons (by simp [Cv]) CvL_nil)))
        · simp only [go_sem, CvH]
          first | exact ⟨CvB_none, CvB_none, CvB_none, CvB_none⟩ | trivial
      have hk7 : (r5) = true := by simpa using hc
      replace H := cond_f hc H
      refine rg ctNo_ok ?_
      simp only [go_sem]
      refine seqM ?_
      refine bif_split (c := bEq p1.Kind 1) (fun hg8 => ?_) (fun hg8 => ?_)
      · replace H := cond_t hg8 H
        refine draw_rule shT_ok ct36t2_ok 1 (by kernel_rfl) (by kernel_rfl) ?_
        intro an han
        simp only [d_nil, d_cons, nxtD, xrD, xoD, roEq, minL, List.append_nil, refsOp, refs, refsL, mask, maskF, place, placeF, okLog, pairOk, hit, inL, slotsF, ren, rnN, nrH, nrB, nrL, nr, List.replicate_zero, List.replicate_succ, Nat.sub_self, Nat.add_zero, Nat.zero_add, Nat.reduceSub, Nat.lt_add_one, go_sem, Nat.reduceLeDiff, Nat.reduceLT, Nat.reduceAdd, Nat.reduceSub, Nat.reduceBEq, ct36t2_79, lk79, has79, hg8]
        repeat ((with_reducible refine And.intro ?_ ?_); focus exact an2)
        refine seqM ?_
        refine seqM ?_
        obtain ⟨f9, H⟩ := need_some.1 H
        replace f9 := g_iff.1 f9
        refine draw_quiet shT_ok ct36t3_ok (by kernel_rfl) (by kernel_rfl) ?_
        simp only [go_sem, Nat.reduceLeDiff, Nat.reduceLT, Nat.reduceAdd, ct36t3_104, body104_0]
        repeat ((with_reducible refine And.intro ?_ ?_); focus (first | (with_reducible trivial) | omega | exact f9 | (intro g; have q := f9 (by first | exact g | (rw [g]; rfl) | simpa using g); first | exact q | exact ⟨q.1, q.2.1⟩ | exact q.2.2 | omega | exact ⟨g, q⟩ | exact ⟨trivial, q⟩ | exact ⟨g, q.1, q.2.1⟩ | exact ⟨g, q.2.2⟩) | (intro g; (try have q0 := f9 (by first | exact g | (rw [g]; rfl) | simpa using g)); and_intros <;> first | (with_reducible trivial) | assumption | exact nfc | (intro g2; rw [g, g2]; rfl) | (intro g2; assumption) | (simp only [g, Bool.true_and, Bool.and_true, Bool.not_false, Bool.not_true]; assumption) | grind) | (and_intros <;> first | (with_reducible trivial) | omega | assumption | exact nfc | first | exact rfl | exact trivial | exact fitI | exact .inr rfl | exact .inl rfl | exact fun x hx => absurd hx (by omega)) | grind))
        refine condM rfl trivial (fun hc => ?_) (fun hc => ?_)
        · have hk10 : ((!bEq p1.Channel ((gt r1.1).Channel)) || (!(gt (F104_0 ((gt r1.1).Lead) p1 p3)))) = true := by simpa using hc
          replace H := cond_t hc H
          refine sq ctNo_ok ?_
          simp only [go_sem, Nat.reduceLT, Nat.reduceAdd]
          repeat ((with_reducible refine And.intro ?_ ?_); focus exact an4)
          refine rg ctNo_ok ?_
          simp only [go_sem, Nat.reduceLT, Nat.reduceAdd]
          obtain rfl := Option.some.inj H
          refine RetE_mk [] [none, none, none, none] ?_ ?_ ?_ ?_ (by rfl) (by rfl)
          · simp only [go_sem]
            try exact at0
          · simp only [go_sem]
            try exact at0
          · simp only [go_sem]
            exact Cv_tup (CvL_cons (by first | (simp [Cv, CvL]; done) | (simp [Cv, CvL, getM, gt_some]; omega)) (CvL_cons (by first | (simp [Cv]; done) | (simp [Cv, CvL, getM, gt_some]; omega)) (CvL_cons (by simp [Cv]) CvL_nil)))
          · simp only [go_sem, CvH]
            first | exact ⟨CvB_none, CvB_none, CvB_none, CvB_none⟩ | trivial
        have hk10 : ((!bEq p1.Channel ((gt r1.1).Channel)) || (!(gt (F104_0 ((gt r1.1).Lead) p1 p3)))) = false := by simpa using hc
        replace H := cond_f hc H
        refine rg ctNo_ok ?_
        simp only [go_sem]
        refine seqM ?_
        refine seqM ?_
        obtain ⟨r11, e12, H⟩ := bsi H
        refine rg ct36t4_ok ?_
        simp only [go_sem, Nat.reduceLT, Nat.reduceAdd, Nat.reduceBEq, ct36t4_105, body105_0, e12]
        repeat ((with_reducible refine And.intro ?_ ?_); focus exact an0)
        refine sq ctNo_ok ?_
        simp only [go_sem]
        refine condM rfl trivial (fun hc => ?_) (fun hc => ?_)
        · have hk13 : (bEq r11.2.1 0) = false := by simpa using hc
          replace H := cond_t hc H
          refine sq ctNo_ok ?_
          simp only [go_sem, Nat.reduceLT, Nat.reduceAdd]
          repeat ((with_reducible refine And.intro ?_ ?_); focus exact an4)
          refine rg ctNo_ok ?_
          simp only [go_sem, Nat.reduceLT, Nat.reduceAdd]
          obtain rfl := Option.some.inj H
          refine RetE_mk [] [none, none, none, none] ?_ ?_ ?_ ?_ (by rfl) (by rfl)
          · simp only [go_sem]
            try exact at0
          · simp only [go_sem]
            try exact at0
          · simp only [go_sem]
            exact Cv_tup (CvL_cons (by first | (simp [Cv, CvL]; done) | (simp [Cv, CvL, getM, gt_some]; omega)) (CvL_cons (by first | (simp [Cv]; done) | (simp [Cv, CvL, getM, gt_some]; omega)) (CvL_cons (by simp [Cv]) CvL_nil)))
          · simp only [go_sem, CvH]
            first | exact ⟨CvB_none, CvB_none, CvB_none, CvB_none⟩ | trivial
        have hk13 : (bEq r11.2.1 0) = true := by simpa using hc
        replace H := cond_f hc H
        refine rg ctNo_ok ?_
        simp only [go_sem]
        refine sq ctNo_ok ?_
        simp only [go_sem, Nat.reduceLT, Nat.reduceAdd]
        repeat ((with_reducible refine And.intro ?_ ?_); focus exact an4)
        refine rg ctNo_ok ?_
        simp only [go_sem, Nat.reduceLT, Nat.reduceAdd]
        obtain rfl := Option.some.inj H
        refine RetE_mk [] [some 8, some 9, some 10, some 11] ?_ ?_ ?_ ?_ (by rfl) (by rfl)
        · simp only [go_sem]
          try exact at0
        · simp only [go_sem]
          try exact at0
        · simp only [go_sem]
          exact Cv_tup (CvL_cons (by first | (simp [Cv, CvL, getM]; done) | (simp [Cv, CvL, getM, gt_some]; omega)) (CvL_cons (by first | (simp [Cv, getM]; done) | (simp [Cv, CvL, getM, gt_some]; omega)) (CvL_cons (by simp [Cv]) CvL_nil)))
        · simp only [go_sem, CvH]
          first | exact ⟨CvB_row nr_TRegulateChannel cl (fun _ _ _ _ => rfl), CvB_row nr_TRegulateBlock cl (fun _ _ _ _ => rfl), CvB_row nr_i64 cl (fun _ _ _ _ => rfl), CvB_row nr_TRegulateWord cl (fun _ _ _ _ => rfl)⟩ | trivial
      replace H := cond_f hg8 H
      refine bif_split (c := bEq p1.Kind 2) (fun hg14 => ?_) (fun hg14 => ?_)
      · replace H := cond_t hg14 H
        refine draw_rule shT_ok ct36t2_ok 1 (by kernel_rfl) (by kernel_rfl) ?_
        intro an han
        simp only [d_nil, d_cons, nxtD, xrD, xoD, roEq, minL, List.append_nil, refsOp, refs, refsL, mask, maskF, place, placeF, okLog, pairOk, hit, inL, slotsF, ren, rnN, nrH, nrB, nrL, nr, List.replicate_zero, List.replicate_succ, Nat.sub_self, Nat.add_zero, Nat.zero_add, Nat.reduceSub, Nat.lt_add_one, go_sem, Nat.reduceLeDiff, Nat.reduceLT, Nat.reduceAdd, Nat.reduceSub, Nat.reduceBEq, ct36t2_79, lk79, has79, hg8, hg14]
        repeat ((with_reducible refine And.intro ?_ ?_); focus exact an2)
        refine seqM ?_
        refine seqM ?_
        obtain ⟨f15, H⟩ := need_some.1 H
        replace f15 := g_iff.1 f15
        refine draw_quiet shT_ok ct36t5_ok (by kernel_rfl) (by kernel_rfl) ?_
        simp only [go_sem, Nat.reduceLeDiff, Nat.reduceLT, Nat.reduceAdd, ct36t5_106, body106_0]
        repeat ((with_reducible refine And.intro ?_ ?_); focus (first | (with_reducible trivial) | omega | exact f15 | (intro g; have q := f15 (by first | exact g | (rw [g]; rfl) | simpa using g); first | exact q | exact ⟨q.1, q.2.1⟩ | exact q.2.2 | omega | exact ⟨g, q⟩ | exact ⟨trivial, q⟩ | exact ⟨g, q.1, q.2.1⟩ | exact ⟨g, q.2.2⟩) | (intro g; (try have q0 := f15 (by first | exact g | (rw [g]; rfl) | simpa using g)); and_intros <;> first | (with_reducible trivial) | assumption | exact nfc | (intro g2; rw [g, g2]; rfl) | (intro g2; assumption) | (simp only [g, Bool.true_and, Bool.and_true, Bool.not_false, Bool.not_true]; assumption) | grind) | (and_intros <;> first | (with_reducible trivial) | omega | assumption | exact nfc | first | exact rfl | exact trivial | exact fitI | exact .inr rfl | exact .inl rfl | exact fun x hx => absurd hx (by omega)) | grind))
        refine condM rfl trivial (fun hc => ?_) (fun hc => ?_)
        · have hk16 : ((!bEq p1.Channel ((gt r1.1).Channel)) || (!(gt (F106_0 ((gt r1.1).Lead) ((gt r1.1).Stopped) p1 p3)))) = true := by simpa using hc
          replace H := cond_t hc H
          refine sq ctNo_ok ?_
          simp only [go_sem, Nat.reduceLT, Nat.reduceAdd]
          repeat ((with_reducible refine And.intro ?_ ?_); focus exact an4)
          refine rg ctNo_ok ?_
          simp only [go_sem, Nat.reduceLT, Nat.reduceAdd]
          obtain rfl := Option.some.inj H
          refine RetE_mk [] [none, none, none, none] ?_ ?_ ?_ ?_ (by rfl) (by rfl)
          · simp only [go_sem]
            try exact at0
          · simp only [go_sem]
            try exact at0
          · simp only [go_sem]
            exact Cv_tup (CvL_cons (by first | (simp [Cv, CvL]; done) | (simp [Cv, CvL, getM, gt_some]; omega)) (CvL_cons (by first | (simp [Cv]; done) | (simp [Cv, CvL, getM, gt_some]; omega)) (CvL_cons (by simp [Cv]) CvL_nil)))
          · simp only [go_sem, CvH]
            first | exact ⟨CvB_none, CvB_none, CvB_none, CvB_none⟩ | trivial
        have hk16 : ((!bEq p1.Channel ((gt r1.1).Channel)) || (!(gt (F106_0 ((gt r1.1).Lead) ((gt r1.1).Stopped) p1 p3)))) = false := by simpa using hc
        replace H := cond_f hc H
        refine rg ctNo_ok ?_
        simp only [go_sem]
        refine seqM ?_
        refine seqM ?_
        obtain ⟨r17, e18, H⟩ := bsi H
        refine rg ct36t6_ok ?_
        simp only [go_sem, Nat.reduceLT, Nat.reduceAdd, Nat.reduceBEq, ct36t6_107, body107_0, e18]
        repeat ((with_reducible refine And.intro ?_ ?_); focus exact an0)
        refine sq ctNo_ok ?_
        simp only [go_sem]
        refine condM rfl trivial (fun hc => ?_) (fun hc => ?_)
        · have hk19 : (bEq r17.2.1 0) = false := by simpa using hc
          replace H := cond_t hc H
          refine sq ctNo_ok ?_
          simp only [go_sem, Nat.reduceLT, Nat.reduceAdd]
          repeat ((with_reducible refine And.intro ?_ ?_); focus exact an4)
          refine rg ctNo_ok ?_
          simp only [go_sem, Nat.reduceLT, Nat.reduceAdd]
          obtain rfl := Option.some.inj H
          refine RetE_mk [] [none, none, none, none] ?_ ?_ ?_ ?_ (by rfl) (by rfl)
          · simp only [go_sem]
            try exact at0
          · simp only [go_sem]
            try exact at0
          · simp only [go_sem]
            exact Cv_tup (CvL_cons (by first | (simp [Cv, CvL]; done) | (simp [Cv, CvL, getM, gt_some]; omega)) (CvL_cons (by first | (simp [Cv]; done) | (simp [Cv, CvL, getM, gt_some]; omega)) (CvL_cons (by simp [Cv]) CvL_nil)))
          · simp only [go_sem, CvH]
            first | exact ⟨CvB_none, CvB_none, CvB_none, CvB_none⟩ | trivial
        have hk19 : (bEq r17.2.1 0) = true := by simpa using hc
        replace H := cond_f hc H
        refine rg ctNo_ok ?_
        simp only [go_sem]
        refine sq ctNo_ok ?_
        simp only [go_sem, Nat.reduceLT, Nat.reduceAdd]
        repeat ((with_reducible refine And.intro ?_ ?_); focus exact an4)
        refine rg ctNo_ok ?_
        simp only [go_sem, Nat.reduceLT, Nat.reduceAdd]
        obtain rfl := Option.some.inj H
        refine RetE_mk [] [some 8, some 9, some 10, some 11] ?_ ?_ ?_ ?_ (by rfl) (by rfl)
        · simp only [go_sem]
          try exact at0
        · simp only [go_sem]
          try exact at0
        · simp only [go_sem]
          exact Cv_tup (CvL_cons (by first | (simp [Cv, CvL, getM]; done) | (simp [Cv, CvL, getM, gt_some]; omega)) (CvL_cons (by first | (simp [Cv, getM]; done) | (simp [Cv, CvL, getM, gt_some]; omega)) (CvL_cons (by simp [Cv]) CvL_nil)))
        · simp only [go_sem, CvH]
          first | exact ⟨CvB_row nr_TRegulateChannel cl (fun _ _ _ _ => rfl), CvB_row nr_TRegulateBlock cl (fun _ _ _ _ => rfl), CvB_row nr_i64 cl (fun _ _ _ _ => rfl), CvB_row nr_TRegulateWord cl (fun _ _ _ _ => rfl)⟩ | trivial
      replace H := cond_f hg14 H
      refine bif_split (c := bEq p1.Kind 3) (fun hg20 => ?_) (fun hg20 => ?_)
      · replace H := cond_t hg20 H
        refine draw_rule shT_ok ct36t2_ok 1 (by kernel_rfl) (by kernel_rfl) ?_
        intro an han
        simp only [d_nil, d_cons, nxtD, xrD, xoD, roEq, minL, List.append_nil, refsOp, refs, refsL, mask, maskF, place, placeF, okLog, pairOk, hit, inL, slotsF, ren, rnN, nrH, nrB, nrL, nr, List.replicate_zero, List.replicate_succ, Nat.sub_self, Nat.add_zero, Nat.zero_add, Nat.reduceSub, Nat.lt_add_one, go_sem, Nat.reduceLeDiff, Nat.reduceLT, Nat.reduceAdd, Nat.reduceSub, Nat.reduceBEq, ct36t2_79, lk79, has79, hg8, hg14, hg20]
        repeat ((with_reducible refine And.intro ?_ ?_); focus exact an2)
        refine seqM ?_
        refine seqM ?_
        obtain ⟨f21, H⟩ := need_some.1 H
        replace f21 := g_iff.1 f21
        refine draw_quiet shT_ok ct36t7_ok (by kernel_rfl) (by kernel_rfl) ?_
        simp only [go_sem, Nat.reduceLeDiff, Nat.reduceLT, Nat.reduceAdd, ct36t7_108, body108_0]
        repeat ((with_reducible refine And.intro ?_ ?_); focus (first | (with_reducible trivial) | omega | exact f21 | (intro g; have q := f21 (by first | exact g | (rw [g]; rfl) | simpa using g); first | exact q | exact ⟨q.1, q.2.1⟩ | exact q.2.2 | omega | exact ⟨g, q⟩ | exact ⟨trivial, q⟩ | exact ⟨g, q.1, q.2.1⟩ | exact ⟨g, q.2.2⟩) | (intro g; (try have q0 := f21 (by first | exact g | (rw [g]; rfl) | simpa using g)); and_intros <;> first | (with_reducible trivial) | assumption | exact nfc | (intro g2; rw [g, g2]; rfl) | (intro g2; assumption) | (simp only [g, Bool.true_and, Bool.and_true, Bool.not_false, Bool.not_true]; assumption) | grind) | (and_intros <;> first | (with_reducible trivial) | omega | assumption | exact nfc | first | exact rfl | exact trivial | exact fitI | exact .inr rfl | exact .inl rfl | exact fun x hx => absurd hx (by omega)) | grind))
        refine condM rfl trivial (fun hc => ?_) (fun hc => ?_)
        · have hk22 : ((!bEq p1.Channel ((gt r1.1).Channel)) || (!(gt (F108_0 ((gt r1.1).Lead) ((gt r1.1).Heard) ((gt r1.1).Stopped) p1 p3)))) = true := by simpa using hc
          replace H := cond_t hc H
          refine sq ctNo_ok ?_
          simp only [go_sem, Nat.reduceLT, Nat.reduceAdd]
          repeat ((with_reducible refine And.intro ?_ ?_); focus exact an4)
          refine rg ctNo_ok ?_
          simp only [go_sem, Nat.reduceLT, Nat.reduceAdd]
          obtain rfl := Option.some.inj H
          refine RetE_mk [] [none, none, none, none] ?_ ?_ ?_ ?_ (by rfl) (by rfl)
          · simp only [go_sem]
            try exact at0
          · simp only [go_sem]
            try exact at0
          · simp only [go_sem]
            exact Cv_tup (CvL_cons (by first | (simp [Cv, CvL]; done) | (simp [Cv, CvL, getM, gt_some]; omega)) (CvL_cons (by first | (simp [Cv]; done) | (simp [Cv, CvL, getM, gt_some]; omega)) (CvL_cons (by simp [Cv]) CvL_nil)))
          · simp only [go_sem, CvH]
            first | exact ⟨CvB_none, CvB_none, CvB_none, CvB_none⟩ | trivial
        have hk22 : ((!bEq p1.Channel ((gt r1.1).Channel)) || (!(gt (F108_0 ((gt r1.1).Lead) ((gt r1.1).Heard) ((gt r1.1).Stopped) p1 p3)))) = false := by simpa using hc
        replace H := cond_f hc H
        refine rg ctNo_ok ?_
        simp only [go_sem]
        refine seqM ?_
        refine seqM ?_
        obtain ⟨r23, e24, H⟩ := bsi H
        refine rg ct36t8_ok ?_
        simp only [go_sem, Nat.reduceLT, Nat.reduceAdd, Nat.reduceBEq, ct36t8_109, body109_0, e24]
        repeat ((with_reducible refine And.intro ?_ ?_); focus exact an0)
        refine sq ctNo_ok ?_
        simp only [go_sem]
        refine condM rfl trivial (fun hc => ?_) (fun hc => ?_)
        · have hk25 : (bEq r23.2.1 0) = false := by simpa using hc
          replace H := cond_t hc H
          refine sq ctNo_ok ?_
          simp only [go_sem, Nat.reduceLT, Nat.reduceAdd]
          repeat ((with_reducible refine And.intro ?_ ?_); focus exact an4)
          refine rg ctNo_ok ?_
          simp only [go_sem, Nat.reduceLT, Nat.reduceAdd]
          obtain rfl := Option.some.inj H
          refine RetE_mk [] [none, none, none, none] ?_ ?_ ?_ ?_ (by rfl) (by rfl)
          · simp only [go_sem]
            try exact at0
          · simp only [go_sem]
            try exact at0
          · simp only [go_sem]
            exact Cv_tup (CvL_cons (by first | (simp [Cv, CvL]; done) | (simp [Cv, CvL, getM, gt_some]; omega)) (CvL_cons (by first | (simp [Cv]; done) | (simp [Cv, CvL, getM, gt_some]; omega)) (CvL_cons (by simp [Cv]) CvL_nil)))
          · simp only [go_sem, CvH]
            first | exact ⟨CvB_none, CvB_none, CvB_none, CvB_none⟩ | trivial
        have hk25 : (bEq r23.2.1 0) = true := by simpa using hc
        replace H := cond_f hc H
        refine rg ctNo_ok ?_
        simp only [go_sem]
        refine sq ctNo_ok ?_
        simp only [go_sem, Nat.reduceLT, Nat.reduceAdd]
        repeat ((with_reducible refine And.intro ?_ ?_); focus exact an4)
        refine rg ctNo_ok ?_
        simp only [go_sem, Nat.reduceLT, Nat.reduceAdd]
        obtain rfl := Option.some.inj H
        refine RetE_mk [] [some 8, some 9, some 10, some 11] ?_ ?_ ?_ ?_ (by rfl) (by rfl)
        · simp only [go_sem]
          try exact at0
        · simp only [go_sem]
          try exact at0
        · simp only [go_sem]
          exact Cv_tup (CvL_cons (by first | (simp [Cv, CvL, getM]; done) | (simp [Cv, CvL, getM, gt_some]; omega)) (CvL_cons (by first | (simp [Cv, getM]; done) | (simp [Cv, CvL, getM, gt_some]; omega)) (CvL_cons (by simp [Cv]) CvL_nil)))
        · simp only [go_sem, CvH]
          first | exact ⟨CvB_row nr_TRegulateChannel cl (fun _ _ _ _ => rfl), CvB_row nr_TRegulateBlock cl (fun _ _ _ _ => rfl), CvB_row nr_i64 cl (fun _ _ _ _ => rfl), CvB_row nr_TRegulateWord cl (fun _ _ _ _ => rfl)⟩ | trivial
      replace H := cond_f hg20 H
      cases H
    replace H := cond_f hq3 H
    simp only [go_sem, hq3, cond_false]
    refine seqM ?_
    refine sq ctNo_ok ?_
    simp only [go_sem]
    refine condM rfl trivial (fun hc => ?_) (fun hc => ?_)
    · have hk26 : (bEq r1.2 0) = false := by simpa using hc
      replace H := cond_t hc H
      refine sq ctNo_ok ?_
      simp only [go_sem, Nat.reduceLT, Nat.reduceAdd]
      repeat ((with_reducible refine And.intro ?_ ?_); focus exact an4)
      refine rg ctNo_ok ?_
      simp only [go_sem, Nat.reduceLT, Nat.reduceAdd]
      obtain rfl := Option.some.inj H
      refine RetE_mk [] [none, none, none, none] ?_ ?_ ?_ ?_ (by rfl) (by rfl)
      · simp only [go_sem]
        try exact at0
      · simp only [go_sem]
        try exact at0
      · simp only [go_sem]
        exact Cv_tup (CvL_cons (by first | (simp [Cv, CvL]; done) | (simp [Cv, CvL, getM, gt_some]; omega)) (CvL_cons (by first | (simp [Cv]; done) | (simp [Cv, CvL, getM, gt_some]; omega)) (CvL_cons (by simp [Cv]) CvL_nil)))
      · simp only [go_sem, CvH]
        first | exact ⟨CvB_none, CvB_none, CvB_none, CvB_none⟩ | trivial
    have hk26 : (bEq r1.2 0) = true := by simpa using hc
    replace H := cond_f hc H
    refine rg ctNo_ok ?_
    simp only [go_sem]
    refine seqM ?_
    refine seqM ?_
    obtain ⟨r27, e28, H⟩ := bsi H
    refine rg ct36t1_ok ?_
    simp only [go_sem, Nat.reduceLT, Nat.reduceAdd, ct36t1_44, body44, e28]
    repeat ((with_reducible refine And.intro ?_ ?_); focus exact an0)
    refine condM rfl trivial (fun hc => ?_) (fun hc => ?_)
    · have hk29 : (r27) = false := by simpa using hc
      replace H := cond_t hc H
      refine sq ctNo_ok ?_
      simp only [go_sem, Nat.reduceLT, Nat.reduceAdd]
      repeat ((with_reducible refine And.intro ?_ ?_); focus exact an4)
      refine rg ctNo_ok ?_
      simp only [go_sem, Nat.reduceLT, Nat.reduceAdd]
      obtain rfl := Option.some.inj H
      refine RetE_mk [] [none, none, none, none] ?_ ?_ ?_ ?_ (by rfl) (by rfl)
      · simp only [go_sem]
        try exact at0
      · simp only [go_sem]
        try exact at0
      · simp only [go_sem]
        exact Cv_tup (CvL_cons (by first | (simp [Cv, CvL]; done) | (simp [Cv, CvL, getM, gt_some]; omega)) (CvL_cons (by first | (simp [Cv]; done) | (simp [Cv, CvL, getM, gt_some]; omega)) (CvL_cons (by simp [Cv]) CvL_nil)))
      · simp only [go_sem, CvH]
        first | exact ⟨CvB_none, CvB_none, CvB_none, CvB_none⟩ | trivial
    have hk29 : (r27) = true := by simpa using hc
    replace H := cond_f hc H
    refine rg ctNo_ok ?_
    simp only [go_sem]
    refine seqM ?_
    refine bif_split (c := bEq p1.Kind 1) (fun hg30 => ?_) (fun hg30 => ?_)
    · replace H := cond_t hg30 H
      refine draw_rule shT_ok ct36t2_ok 1 (by kernel_rfl) (by kernel_rfl) ?_
      intro an han
      simp only [d_nil, d_cons, nxtD, xrD, xoD, roEq, minL, List.append_nil, refsOp, refs, refsL, mask, maskF, place, placeF, okLog, pairOk, hit, inL, slotsF, ren, rnN, nrH, nrB, nrL, nr, List.replicate_zero, List.replicate_succ, Nat.sub_self, Nat.add_zero, Nat.zero_add, Nat.reduceSub, Nat.lt_add_one, go_sem, Nat.reduceLeDiff, Nat.reduceLT, Nat.reduceAdd, Nat.reduceSub, Nat.reduceBEq, ct36t2_79, lk79, has79, hg30]
      repeat ((with_reducible refine And.intro ?_ ?_); focus exact an2)
      refine seqM ?_
      refine seqM ?_
      cases H
    replace H := cond_f hg30 H
    refine bif_split (c := bEq p1.Kind 2) (fun hg31 => ?_) (fun hg31 => ?_)
    · replace H := cond_t hg31 H
      refine draw_rule shT_ok ct36t2_ok 1 (by kernel_rfl) (by kernel_rfl) ?_
      intro an han
      simp only [d_nil, d_cons, nxtD, xrD, xoD, roEq, minL, List.append_nil, refsOp, refs, refsL, mask, maskF, place, placeF, okLog, pairOk, hit, inL, slotsF, ren, rnN, nrH, nrB, nrL, nr, List.replicate_zero, List.replicate_succ, Nat.sub_self, Nat.add_zero, Nat.zero_add, Nat.reduceSub, Nat.lt_add_one, go_sem, Nat.reduceLeDiff, Nat.reduceLT, Nat.reduceAdd, Nat.reduceSub, Nat.reduceBEq, ct36t2_79, lk79, has79, hg30, hg31]
      repeat ((with_reducible refine And.intro ?_ ?_); focus exact an2)
      refine seqM ?_
      refine seqM ?_
      cases H
    replace H := cond_f hg31 H
    refine bif_split (c := bEq p1.Kind 3) (fun hg32 => ?_) (fun hg32 => ?_)
    · replace H := cond_t hg32 H
      refine draw_rule shT_ok ct36t2_ok 1 (by kernel_rfl) (by kernel_rfl) ?_
      intro an han
      simp only [d_nil, d_cons, nxtD, xrD, xoD, roEq, minL, List.append_nil, refsOp, refs, refsL, mask, maskF, place, placeF, okLog, pairOk, hit, inL, slotsF, ren, rnN, nrH, nrB, nrL, nr, List.replicate_zero, List.replicate_succ, Nat.sub_self, Nat.add_zero, Nat.zero_add, Nat.reduceSub, Nat.lt_add_one, go_sem, Nat.reduceLeDiff, Nat.reduceLT, Nat.reduceAdd, Nat.reduceSub, Nat.reduceBEq, ct36t2_79, lk79, has79, hg30, hg31, hg32]
      repeat ((with_reducible refine And.intro ?_ ?_); focus exact an2)
      refine seqM ?_
      refine seqM ?_
      cases H
    replace H := cond_f hg32 H
    cases H
  · cases hb
end Go.Proofs.Ytjhkehdbjnhplaa
