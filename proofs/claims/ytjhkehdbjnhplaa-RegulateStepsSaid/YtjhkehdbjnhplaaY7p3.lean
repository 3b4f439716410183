/-
  What the law reaches.
-/
import Derived.Test.YtjhkehdbjnhplaaY7p2
namespace Go.Proofs.Ytjhkehdbjnhplaa
open Go.Am
set_option linter.unusedVariables false
set_option linter.unusedSimpArgs false
/-! hotspot/hotspotref45.radar -/
noncomputable def ct78t0 : Ct := tab [(80, edC body80)]
theorem ct78t0_ok : CtOk Try.prog ct78t0 := tab_cons ok80 <| tab_nil
theorem ct78t0_80 (l : List AV) (h : List ABlk) : ct78t0 80 l h = edC body80 l h := rfl
noncomputable def ct78t1 : Ct := tab [(65, edC body65)]
theorem ct78t1_ok : CtOk Try.prog ct78t1 := tab_cons ok65 <| tab_nil
theorem ct78t1_65 (l : List AV) (h : List ABlk) : ct78t1 65 l h = edC body65 l h := rfl
noncomputable def ct78t2 : Ct := tab [(81, pureC body81)]
theorem ct78t2_ok : CtOk Try.prog ct78t2 := tab_cons ok81 <| tab_nil
theorem ct78t2_81 (l : List AV) (h : List ABlk) : ct78t2 81 l h = pureC body81 l h := rfl
noncomputable def F78 (p0 : TRegulate) (p1 : Int) (p2 : Int) : Option (TRegulate × (List TRegulateWord)) :=
  (F80 p0 p2).bind fun r1 => bif (!p0.Lead) then (some ((TRegulate.mk r1.Table r1.Channel r1.Lead r1.Heard r1.Stopped r1.Moving r1.To r1.At r1.Blocked r1.Clear), [(TRegulateWord.mk 2 p0.Channel 0 0)])) else ((F65 (TRegulate.mk r1.Table r1.Channel r1.Lead r1.Heard r1.Stopped r1.Moving r1.To r1.At r1.Blocked r1.Clear) p2).bind fun r3 => bif (bEq (r3.length : Nat) 0) then (some ((TRegulate.mk r1.Table r1.Channel r1.Lead r1.Heard r1.Stopped r1.Moving r1.To r1.At r1.Blocked r1.Clear), [])) else (need (!(bEq (r3.length : Nat) 0)) <| need (inb (p1.tmod (r3.length : Nat)) r3.length) <| (F81 (TRegulate.mk r1.Table r1.Channel r1.Lead r1.Heard r1.Stopped true (gd r3 ((p1.tmod (r3.length : Nat)).toNat)) (minI (wr .i64 (p2 + 150000)) 1099511627776) r1.Blocked r1.Clear)).bind fun r7 => some ((TRegulate.mk r1.Table r1.Channel r1.Lead r1.Heard r1.Stopped true (gd r3 ((p1.tmod (r3.length : Nat)).toNat)) (minI (wr .i64 (p2 + 150000)) 1099511627776) r1.Blocked r1.Clear), [r7])))
noncomputable def body78 : List AV -> List ABlk -> ED
  | [v0, v1, v2], h => .ed [] (aK 10 k_TRegulate (roD (deadL h []) v0) /\ roDOb (deadL h []) v0 /\ iK .i64 (roD (deadL h []) v1) /\ roDOb (deadL h []) v1 /\ iK .i64 (roD (deadL h []) v2) /\ roDOb (deadL h []) v2 /\ (F78 (g_TRegulate (aL (roD (deadL h []) v0))) (iA (roD (deadL h []) v1)) (iA (roD (deadL h []) v2))).isSome = true) (.tup [.agg [.sl 0 3 0 ((((gt (F78 (g_TRegulate (aL (roD (deadL h []) v0))) (iA (roD (deadL h []) v1)) (iA (roD (deadL h []) v2)))).1).Table).length) false, .int .i64 (((gt (F78 (g_TRegulate (aL (roD (deadL h []) v0))) (iA (roD (deadL h []) v1)) (iA (roD (deadL h []) v2)))).1).Channel), .bool (((gt (F78 (g_TRegulate (aL (roD (deadL h []) v0))) (iA (roD (deadL h []) v1)) (iA (roD (deadL h []) v2)))).1).Lead), .int .i64 (((gt (F78 (g_TRegulate (aL (roD (deadL h []) v0))) (iA (roD (deadL h []) v1)) (iA (roD (deadL h []) v2)))).1).Heard), .bool (((gt (F78 (g_TRegulate (aL (roD (deadL h []) v0))) (iA (roD (deadL h []) v1)) (iA (roD (deadL h []) v2)))).1).Stopped), .bool (((gt (F78 (g_TRegulate (aL (roD (deadL h []) v0))) (iA (roD (deadL h []) v1)) (iA (roD (deadL h []) v2)))).1).Moving), .int .i64 (((gt (F78 (g_TRegulate (aL (roD (deadL h []) v0))) (iA (roD (deadL h []) v1)) (iA (roD (deadL h []) v2)))).1).To), .int .i64 (((gt (F78 (g_TRegulate (aL (roD (deadL h []) v0))) (iA (roD (deadL h []) v1)) (iA (roD (deadL h []) v2)))).1).At), .sl 1 2 0 ((((gt (F78 (g_TRegulate (aL (roD (deadL h []) v0))) (iA (roD (deadL h []) v1)) (iA (roD (deadL h []) v2)))).1).Blocked).length) false, .sl 2 1 0 ((((gt (F78 (g_TRegulate (aL (roD (deadL h []) v0))) (iA (roD (deadL h []) v1)) (iA (roD (deadL h []) v2)))).1).Clear).length) false], .sl 3 4 0 (((gt (F78 (g_TRegulate (aL (roD (deadL h []) v0))) (iA (roD (deadL h []) v1)) (iA (roD (deadL h []) v2)))).2).length) false]) [.row 45 3 ((((gt (F78 (g_TRegulate (aL (roD (deadL h []) v0))) (iA (roD (deadL h []) v1)) (iA (roD (deadL h []) v2)))).1).Table).length) (enR c_TRegulateChannel (((gt (F78 (g_TRegulate (aL (roD (deadL h []) v0))) (iA (roD (deadL h []) v1)) (iA (roD (deadL h []) v2)))).1).Table)), .row 79 2 ((((gt (F78 (g_TRegulate (aL (roD (deadL h []) v0))) (iA (roD (deadL h []) v1)) (iA (roD (deadL h []) v2)))).1).Blocked).length) (enR c_TRegulateBlock (((gt (F78 (g_TRegulate (aL (roD (deadL h []) v0))) (iA (roD (deadL h []) v1)) (iA (roD (deadL h []) v2)))).1).Blocked)), .row 3 1 ((((gt (F78 (g_TRegulate (aL (roD (deadL h []) v0))) (iA (roD (deadL h []) v1)) (iA (roD (deadL h []) v2)))).1).Clear).length) (enR c_i64 (((gt (F78 (g_TRegulate (aL (roD (deadL h []) v0))) (iA (roD (deadL h []) v1)) (iA (roD (deadL h []) v2)))).1).Clear)), .row 23 4 (((gt (F78 (g_TRegulate (aL (roD (deadL h []) v0))) (iA (roD (deadL h []) v1)) (iA (roD (deadL h []) v2)))).2).length) (enR c_TRegulateWord ((gt (F78 (g_TRegulate (aL (roD (deadL h []) v0))) (iA (roD (deadL h []) v1)) (iA (roD (deadL h []) v2)))).2))]
  | _, _ => .fail
set_option maxHeartbeats 4000000 in
set_option maxRecDepth 20000 in
theorem ok78 : FnOk Try.prog 78 (edC body78) := by
  refine edit_fnV body78 (rs := [.cell 6 39, .tmp 7]) Try.func78 (by kernel_rfl) rfl rfl ?_
  intro l h bs ob q0 g0 hb hob
  unfold body78 at hb
  split at hb
  · rename_i v0 v1 v2
    injection hb with q1 q2 q3 q4; subst q1 q2 q3 q4
    obtain ⟨hk0_0, hk0_1, hk1_0, hk1_1, hk2_0, hk2_1, hob⟩ := hob
    obtain ⟨r, H⟩ := Option.isSome_iff_exists.1 hob
    rw [H, gt_some]
    have hw0 := wA_TRegulate hk0_0
    obtain ⟨p0, hp_p0⟩ : ∃ p0, p0 = g_TRegulate (aL (roD (deadL h []) v0)) := ⟨_, rfl⟩
    rw [← hp_p0] at H hw0
    have hw1 := iK_wk hk1_0
    obtain ⟨p1, hp_p1⟩ : ∃ p1, p1 = iA (roD (deadL h []) v1) := ⟨_, rfl⟩
    rw [← hp_p1] at H hw1
    have hw2 := iK_wk hk2_0
    obtain ⟨p2, hp_p2⟩ : ∃ p2, p2 = iA (roD (deadL h []) v2) := ⟨_, rfl⟩
    rw [← hp_p2] at H hw2
    refine ⟨[.agg [.ro 3 p0.Table.length false (enR c_TRegulateChannel p0.Table), .int .i64 p0.Channel, .bool p0.Lead, .int .i64 p0.Heard, .bool p0.Stopped, .bool p0.Moving, .int .i64 p0.To, .int .i64 p0.At, .ro 2 p0.Blocked.length false (enR c_TRegulateBlock p0.Blocked), .ro 1 p0.Clear.length false (enR c_i64 p0.Clear)], .int .i64 p1, .int .i64 p2], [], rfl, ⟨(EW_view hk0_1 hw0), ⟨(EW_view hk1_1 hw1), ⟨(EW_view hk2_1 hw2), trivial⟩⟩⟩, trivial, trivial, ⟨(nfB_en nr_TRegulateChannel), ⟨(nfB_en nr_TRegulateBlock), ⟨(nfB_en nr_i64), ⟨(nfB_en nr_TRegulateWord), trivial⟩⟩⟩⟩, ⟨noroB_en, ⟨noroB_en, ⟨noroB_en, ⟨noroB_en, trivial⟩⟩⟩⟩, (by first | (simp only [noro, noroL, and_self]; done) | (simp only [noro, noroL]; and_intros <;> first | trivial | exact noro_bif (by simp only [noro]) (by simp only [noro]) | (simp only [noro, noroL, and_self]))), ?_⟩
    rw [Try.ntmps78]
    simp only [List.length_cons, List.length_nil, Nat.reduceAdd, Nat.reduceSub, List.replicate_succ, List.replicate_zero, List.cons_append, List.nil_append]
    unfold F78 at H
    refine sq ctNo_ok ?_
    simp only [go_sem]
    refine seqM ?_
    obtain ⟨r1, e2, H⟩ := bsi H
    refine rg ct78t0_ok ?_
    simp only [go_sem, Nat.reduceLT, Nat.reduceAdd, ct78t0_80, body80, e2]
    refine seqM ?_
    refine sq ctNo_ok ?_
    simp only [go_sem, Nat.reduceLeDiff, Nat.reduceLT, Nat.reduceAdd]
    refine condM rfl trivial (fun hc => ?_) (fun hc => ?_)
    · replace H := cond_t hc H
      refine seqM ?_
      refine draw_rule shT_ok ctNo_ok 1 (by kernel_rfl) (by kernel_rfl) ?_
      intro an han
      simp only [d_nil, d_cons, nxtD, xrD, xoD, roEq, minL, List.append_nil, refsOp, refs, mask, maskF, place, placeF, okLog, pairOk, hit, inL, slotsF, ren, rnN, nrH, nrB, nrL, nr, List.replicate_zero, List.replicate_succ, Nat.sub_self, Nat.add_zero, Nat.zero_add, Nat.reduceSub, Nat.lt_add_one, go_sem, Nat.reduceLeDiff, Nat.reduceLT, Nat.reduceAdd, Nat.reduceSub, Nat.reduceBEq]
      repeat ((with_reducible refine And.intro ?_ ?_); focus (and_intros <;> first | (with_reducible trivial) | (show anB _ _ _ = true; subst han; kernel_rfl) | (show (anB _ _ _ && _) = true; subst han; kernel_rfl) | omega | assumption | exact nrc | exact nfc | first | exact rfl | exact trivial | exact fitI | exact .inr rfl | exact .inl rfl | exact fun x hx => absurd hx (by omega) | (intro x hx; (repeat (first | (and_intros <;> (first | exact rfl | exact trivial | exact fitI | exact .inr rfl | exact .inl rfl | exact fun x hx => absurd hx (by omega))) | (exfalso; omega) | (rcases x with _ | x))); done)))
      refine rg ctNo_ok ?_
      simp only [go_sem, Nat.reduceLT, Nat.reduceAdd]
      obtain rfl := Option.some.inj H
      refine RetE_mk [] [some 2, some 3, some 4, some 6] ?_ ?_ ?_ ?_ (by rfl) (by rfl)
      · simp only [go_sem]
      · simp only [go_sem]
      · simp only [go_sem]
        exact Cv_tup (CvL_cons (by first | (simp [Cv, CvL, getM]; done) | (simp [Cv, CvL, getM, gt_some]; omega)) (CvL_cons (by first | (simp [Cv, getM]; done) | (simp [Cv, CvL, getM, gt_some]; omega)) CvL_nil))
      · simp only [go_sem, CvH]
        first | exact ⟨CvB_row nr_TRegulateChannel (by first | rfl | (simp; done) | (simp; omega)) (fun _ _ _ _ => rfl), CvB_row nr_TRegulateBlock (by first | rfl | (simp; done) | (simp; omega)) (fun _ _ _ _ => rfl), CvB_row nr_i64 (by first | rfl | (simp; done) | (simp; omega)) (fun _ _ _ _ => rfl), CvB_row nr_TRegulateWord (by first | rfl | (simp; done) | (simp; omega)) (lit_row (f := c_TRegulateWord) [(TRegulateWord.mk 2 p0.Channel 0 0)] (fun _ _ => rfl) rfl)⟩ | trivial
    replace H := cond_f hc H
    refine rg ctNo_ok ?_
    simp only [go_sem]
    refine seqM ?_
    obtain ⟨r3, e4, H⟩ := bsi H
    refine rg ct78t1_ok ?_
    simp only [go_sem, Nat.reduceLT, Nat.reduceAdd, ct78t1_65, body65, e4]
    repeat ((with_reducible refine And.intro ?_ ?_); focus (first | (and_intros <;> first | (with_reducible trivial) | omega | assumption | exact nfc | first | exact rfl | exact trivial | exact fitI | exact .inr rfl | exact .inl rfl | exact fun x hx => absurd hx (by omega)) | grind))
    refine seqM ?_
    refine sq ctNo_ok ?_
    simp only [go_sem]
    refine condM rfl trivial (fun hc => ?_) (fun hc => ?_)
    · replace H := cond_t hc H
      refine sq ctNo_ok ?_
      simp only [go_sem, Nat.reduceLT, Nat.reduceAdd]
      refine rg ctNo_ok ?_
      simp only [go_sem, Nat.reduceLT, Nat.reduceAdd]
      obtain rfl := Option.some.inj H
      refine RetE_mk [] [some 2, some 3, some 4, none] ?_ ?_ ?_ ?_ (by rfl) (by rfl)
      · simp only [go_sem]
      · simp only [go_sem]
      · simp only [go_sem]
        exact Cv_tup (CvL_cons (by first | (simp [Cv, CvL, getM]; done) | (simp [Cv, CvL, getM, gt_some]; omega)) (CvL_cons (by first | (simp [Cv]; done) | (simp [Cv, CvL, getM, gt_some]; omega)) CvL_nil))
      · simp only [go_sem, CvH]
        first | exact ⟨CvB_row nr_TRegulateChannel (by first | rfl | (simp; done) | (simp; omega)) (fun _ _ _ _ => rfl), CvB_row nr_TRegulateBlock (by first | rfl | (simp; done) | (simp; omega)) (fun _ _ _ _ => rfl), CvB_row nr_i64 (by first | rfl | (simp; done) | (simp; omega)) (fun _ _ _ _ => rfl), CvB_none⟩ | trivial
    replace H := cond_f hc H
    refine rg ctNo_ok ?_
    simp only [go_sem]
    refine sq ctNo_ok ?_
    simp only [go_sem, Nat.reduceLeDiff, Nat.reduceAdd]
    repeat ((with_reducible refine And.intro ?_ ?_); focus (first | (with_reducible trivial) | omega | grind))
    refine seqM ?_
    obtain ⟨f5, H⟩ := need_some.1 H
    replace f5 := ne0_iff.1 f5
    obtain ⟨f6, H⟩ := need_some.1 H
    replace f6 := inb_iff.1 f6
    refine rg ctNo_ok ?_
    simp only [go_sem, Nat.reduceLeDiff, Nat.reduceLT, Nat.reduceAdd, f5, f6]
    refine sq ctNo_ok ?_
    simp only [go_sem, Nat.reduceLeDiff, Nat.reduceAdd]
    refine seqM ?_
    obtain ⟨r7, e8, H⟩ := bsi H
    refine draw_rule shT_ok ct78t2_ok 1 (by kernel_rfl) (by kernel_rfl) ?_
    intro an han
    simp only [d_nil, d_cons, nxtD, xrD, xoD, roEq, minL, List.append_nil, refsOp, refs, refsL, mask, maskF, place, placeF, okLog, pairOk, hit, inL, slotsF, ren, rnN, nrH, nrB, nrL, nr, List.replicate_zero, List.replicate_succ, Nat.sub_self, Nat.add_zero, Nat.zero_add, Nat.reduceSub, Nat.lt_add_one, go_sem, Nat.reduceLeDiff, Nat.reduceLT, Nat.reduceAdd, Nat.reduceSub, Nat.reduceBEq, ct78t2_81, body81, e8]
    repeat ((with_reducible refine And.intro ?_ ?_); focus (and_intros <;> first | (with_reducible trivial) | (show anB _ _ _ = true; subst han; kernel_rfl) | (show (anB _ _ _ && _) = true; subst han; kernel_rfl) | omega | assumption | exact nrc | exact nfc | first | exact rfl | exact trivial | exact fitI | exact .inr rfl | exact .inl rfl | exact fun x hx => absurd hx (by omega) | (intro x hx; (repeat (first | (and_intros <;> (first | exact rfl | exact trivial | exact fitI | exact .inr rfl | exact .inl rfl | exact fun x hx => absurd hx (by omega))) | (exfalso; omega) | (rcases x with _ | x))); done)))
    refine rg ctNo_ok ?_
    simp only [go_sem, Nat.reduceLT, Nat.reduceAdd]
    obtain rfl := Option.some.inj H
    refine RetE_mk [] [some 2, some 3, some 4, some 7] ?_ ?_ ?_ ?_ (by rfl) (by rfl)
    · simp only [go_sem]
    · simp only [go_sem]
    · simp only [go_sem]
      exact Cv_tup (CvL_cons (by first | (simp [Cv, CvL, getM]; done) | (simp [Cv, CvL, getM, gt_some]; omega)) (CvL_cons (by first | (simp [Cv, getM]; done) | (simp [Cv, CvL, getM, gt_some]; omega)) CvL_nil))
    · simp only [go_sem, CvH]
      first | exact ⟨CvB_row nr_TRegulateChannel (by first | rfl | (simp; done) | (simp; omega)) (fun _ _ _ _ => rfl), CvB_row nr_TRegulateBlock (by first | rfl | (simp; done) | (simp; omega)) (fun _ _ _ _ => rfl), CvB_row nr_i64 (by first | rfl | (simp; done) | (simp; omega)) (fun _ _ _ _ => rfl), CvB_row nr_TRegulateWord (by first | rfl | (simp; done) | (simp; omega)) (lit_row (f := c_TRegulateWord) [r7] (fun _ _ => rfl) rfl)⟩ | trivial
  · cases hb
/-! hotspot/hotspotref45.Radar -/
noncomputable def ct35t0 : Ct := tab [(64, pureC body64)]
theorem ct35t0_ok : CtOk Try.prog ct35t0 := tab_cons ok64 <| tab_nil
theorem ct35t0_64 (l : List AV) (h : List ABlk) : ct35t0 64 l h = pureC body64 l h := rfl
noncomputable def ct35t1 : Ct := tab [(78, edC body78)]
theorem ct35t1_ok : CtOk Try.prog ct35t1 := tab_cons ok78 <| tab_nil
theorem ct35t1_78 (l : List AV) (h : List ABlk) : ct35t1 78 l h = edC body78 l h := rfl
noncomputable def F35 (p0 : TRegulate) (p1 : Int) (p2 : Int) : Option (TRegulate × (List TRegulateWord) × Int) :=
  (F64 p0 p2 p1).bind fun r1 => bif ((bEq r1 0) && p0.Stopped) then (some ((TRegulate.mk [] 0 false 0 false false 0 0 [] []), [], 20)) else (bif (!bEq r1 0) then (some ((TRegulate.mk [] 0 false 0 false false 0 0 [] []), [], r1)) else ((F78 p0 p1 p2).bind fun r3 => some ((TRegulate.mk r3.1.Table r3.1.Channel r3.1.Lead r3.1.Heard r3.1.Stopped r3.1.Moving r3.1.To r3.1.At r3.1.Blocked r3.1.Clear), r3.2, 0)))
noncomputable def body35 : List AV -> List ABlk -> ED
  | [v0, v1, v2], h => .ed [] (aK 10 k_TRegulate (roD (deadL h []) v0) /\ roDOb (deadL h []) v0 /\ iK .i64 (roD (deadL h []) v1) /\ roDOb (deadL h []) v1 /\ iK .i64 (roD (deadL h []) v2) /\ roDOb (deadL h []) v2 /\ (F35 (g_TRegulate (aL (roD (deadL h []) v0))) (iA (roD (deadL h []) v1)) (iA (roD (deadL h []) v2))).isSome = true) (.tup [.agg [.sl 0 3 0 ((((gt (F35 (g_TRegulate (aL (roD (deadL h []) v0))) (iA (roD (deadL h []) v1)) (iA (roD (deadL h []) v2)))).1).Table).length) false, .int .i64 (((gt (F35 (g_TRegulate (aL (roD (deadL h []) v0))) (iA (roD (deadL h []) v1)) (iA (roD (deadL h []) v2)))).1).Channel), .bool (((gt (F35 (g_TRegulate (aL (roD (deadL h []) v0))) (iA (roD (deadL h []) v1)) (iA (roD (deadL h []) v2)))).1).Lead), .int .i64 (((gt (F35 (g_TRegulate (aL (roD (deadL h []) v0))) (iA (roD (deadL h []) v1)) (iA (roD (deadL h []) v2)))).1).Heard), .bool (((gt (F35 (g_TRegulate (aL (roD (deadL h []) v0))) (iA (roD (deadL h []) v1)) (iA (roD (deadL h []) v2)))).1).Stopped), .bool (((gt (F35 (g_TRegulate (aL (roD (deadL h []) v0))) (iA (roD (deadL h []) v1)) (iA (roD (deadL h []) v2)))).1).Moving), .int .i64 (((gt (F35 (g_TRegulate (aL (roD (deadL h []) v0))) (iA (roD (deadL h []) v1)) (iA (roD (deadL h []) v2)))).1).To), .int .i64 (((gt (F35 (g_TRegulate (aL (roD (deadL h []) v0))) (iA (roD (deadL h []) v1)) (iA (roD (deadL h []) v2)))).1).At), .sl 1 2 0 ((((gt (F35 (g_TRegulate (aL (roD (deadL h []) v0))) (iA (roD (deadL h []) v1)) (iA (roD (deadL h []) v2)))).1).Blocked).length) false, .sl 2 1 0 ((((gt (F35 (g_TRegulate (aL (roD (deadL h []) v0))) (iA (roD (deadL h []) v1)) (iA (roD (deadL h []) v2)))).1).Clear).length) false], .sl 3 4 0 (((gt (F35 (g_TRegulate (aL (roD (deadL h []) v0))) (iA (roD (deadL h []) v1)) (iA (roD (deadL h []) v2)))).2.1).length) false, .int .i64 ((gt (F35 (g_TRegulate (aL (roD (deadL h []) v0))) (iA (roD (deadL h []) v1)) (iA (roD (deadL h []) v2)))).2.2)]) [.row 45 3 ((((gt (F35 (g_TRegulate (aL (roD (deadL h []) v0))) (iA (roD (deadL h []) v1)) (iA (roD (deadL h []) v2)))).1).Table).length) (enR c_TRegulateChannel (((gt (F35 (g_TRegulate (aL (roD (deadL h []) v0))) (iA (roD (deadL h []) v1)) (iA (roD (deadL h []) v2)))).1).Table)), .row 79 2 ((((gt (F35 (g_TRegulate (aL (roD (deadL h []) v0))) (iA (roD (deadL h []) v1)) (iA (roD (deadL h []) v2)))).1).Blocked).length) (enR c_TRegulateBlock (((gt (F35 (g_TRegulate (aL (roD (deadL h []) v0))) (iA (roD (deadL h []) v1)) (iA (roD (deadL h []) v2)))).1).Blocked)), .row 3 1 ((((gt (F35 (g_TRegulate (aL (roD (deadL h []) v0))) (iA (roD (deadL h []) v1)) (iA (roD (deadL h []) v2)))).1).Clear).length) (enR c_i64 (((gt (F35 (g_TRegulate (aL (roD (deadL h []) v0))) (iA (roD (deadL h []) v1)) (iA (roD (deadL h []) v2)))).1).Clear)), .row 23 4 (((gt (F35 (g_TRegulate (aL (roD (deadL h []) v0))) (iA (roD (deadL h []) v1)) (iA (roD (deadL h []) v2)))).2.1).length) (enR c_TRegulateWord ((gt (F35 (g_TRegulate (aL (roD (deadL h []) v0))) (iA (roD (deadL h []) v1)) (iA (roD (deadL h []) v2)))).2.1))]
  | _, _ => .fail
set_option maxHeartbeats 4000000 in
set_option maxRecDepth 20000 in
theorem ok35 : FnOk Try.prog 35 (edC body35) := by
  refine edit_fnV body35 (rs := [.cell 6 39, .tmp 7, .tmp 8]) Try.func35 (by kernel_rfl) rfl rfl ?_
  intro l h bs ob q0 g0 hb hob
  unfold body35 at hb
  split at hb
  · rename_i v0 v1 v2
    injection hb with q1 q2 q3 q4; subst q1 q2 q3 q4
    obtain ⟨hk0_0, hk0_1, hk1_0, hk1_1, hk2_0, hk2_1, hob⟩ := hob
    obtain ⟨r, H⟩ := Option.isSome_iff_exists.1 hob
    rw [H, gt_some]
    have hw0 := wA_TRegulate hk0_0
    obtain ⟨p0, hp_p0⟩ : ∃ p0, p0 = g_TRegulate (aL (roD (deadL h []) v0)) := ⟨_, rfl⟩
    rw [← hp_p0] at H hw0
    have hw1 := iK_wk hk1_0
    obtain ⟨p1, hp_p1⟩ : ∃ p1, p1 = iA (roD (deadL h []) v1) := ⟨_, rfl⟩
    rw [← hp_p1] at H hw1
    have hw2 := iK_wk hk2_0
    obtain ⟨p2, hp_p2⟩ : ∃ p2, p2 = iA (roD (deadL h []) v2) := ⟨_, rfl⟩
    rw [← hp_p2] at H hw2
    refine ⟨[.agg [.ro 3 p0.Table.length false (enR c_TRegulateChannel p0.Table), .int .i64 p0.Channel, .bool p0.Lead, .int .i64 p0.Heard, .bool p0.Stopped, .bool p0.Moving, .int .i64 p0.To, .int .i64 p0.At, .ro 2 p0.Blocked.length false (enR c_TRegulateBlock p0.Blocked), .ro 1 p0.Clear.length false (enR c_i64 p0.Clear)], .int .i64 p1, .int .i64 p2], [], rfl, ⟨(EW_view hk0_1 hw0), ⟨(EW_view hk1_1 hw1), ⟨(EW_view hk2_1 hw2), trivial⟩⟩⟩, trivial, trivial, ⟨(nfB_en nr_TRegulateChannel), ⟨(nfB_en nr_TRegulateBlock), ⟨(nfB_en nr_i64), ⟨(nfB_en nr_TRegulateWord), trivial⟩⟩⟩⟩, ⟨noroB_en, ⟨noroB_en, ⟨noroB_en, ⟨noroB_en, trivial⟩⟩⟩⟩, (by first | (simp only [noro, noroL, and_self]; done) | (simp only [noro, noroL]; and_intros <;> first | trivial | exact noro_bif (by simp only [noro]) (by simp only [noro]) | (simp only [noro, noroL, and_self]))), ?_⟩
    rw [Try.ntmps35]
    simp only [List.length_cons, List.length_nil, Nat.reduceAdd, Nat.reduceSub, List.replicate_succ, List.replicate_zero, List.cons_append, List.nil_append]
    unfold F35 at H
    refine sq ctNo_ok ?_
    simp only [go_sem]
    refine seqM ?_
    obtain ⟨r1, e2, H⟩ := bsi H
    refine rg ct35t0_ok ?_
    simp only [go_sem, Nat.reduceLT, Nat.reduceAdd, ct35t0_64, body64, e2]
    refine seqM ?_
    refine sq ctNo_ok ?_
    simp only [go_sem, Nat.reduceLeDiff, Nat.reduceLT, Nat.reduceAdd]
    refine condM rfl trivial (fun hc => ?_) (fun hc => ?_)
    · replace H := cond_t hc H
      refine rg ctNo_ok ?_
      simp only [go_sem]
      refine seqM ?_
      refine sq ctNo_ok ?_
      simp only [go_sem, (by decide : bEq (20) (0) = false)]
      refine condM rfl trivial (fun hc => ?_) (fun hc => ?_)
      rotate_left
      · cases hc
      refine sq ctNo_ok ?_
      simp only [go_sem, Nat.reduceAdd]
      refine rg ctNo_ok ?_
      simp only [go_sem, Nat.reduceLT, Nat.reduceAdd]
      obtain rfl := Option.some.inj H
      refine RetE_mk [] [none, none, none, none] ?_ ?_ ?_ ?_ (by rfl) (by rfl)
      · simp only [go_sem]
      · simp only [go_sem]
      · simp only [go_sem]
        exact Cv_tup (CvL_cons (by first | (simp [Cv, CvL]; done) | (simp [Cv, CvL, getM, gt_some]; omega)) (CvL_cons (by first | (simp [Cv]; done) | (simp [Cv, CvL, getM, gt_some]; omega)) (CvL_cons (by simp [Cv]) CvL_nil)))
      · simp only [go_sem, CvH]
        first | exact ⟨CvB_none, CvB_none, CvB_none, CvB_none⟩ | trivial
    replace H := cond_f hc H
    refine rg ctNo_ok ?_
    simp only [go_sem]
    refine seqM ?_
    refine sq ctNo_ok ?_
    simp only [go_sem]
    refine condM rfl trivial (fun hc => ?_) (fun hc => ?_)
    · replace H := cond_t hc H
      refine sq ctNo_ok ?_
      simp only [go_sem, Nat.reduceAdd]
      refine rg ctNo_ok ?_
      simp only [go_sem, Nat.reduceLT, Nat.reduceAdd]
      obtain rfl := Option.some.inj H
      refine RetE_mk [] [none, none, none, none] ?_ ?_ ?_ ?_ (by rfl) (by rfl)
      · simp only [go_sem]
      · simp only [go_sem]
      · simp only [go_sem]
        exact Cv_tup (CvL_cons (by first | (simp [Cv, CvL]; done) | (simp [Cv, CvL, getM, gt_some]; omega)) (CvL_cons (by first | (simp [Cv]; done) | (simp [Cv, CvL, getM, gt_some]; omega)) (CvL_cons (by simp [Cv]) CvL_nil)))
      · simp only [go_sem, CvH]
        first | exact ⟨CvB_none, CvB_none, CvB_none, CvB_none⟩ | trivial
    replace H := cond_f hc H
    refine rg ctNo_ok ?_
    simp only [go_sem]
    refine seqM ?_
    obtain ⟨r3, e4, H⟩ := bsi H
    refine rg ct35t1_ok ?_
    simp only [go_sem, Nat.reduceLT, Nat.reduceAdd, ct35t1_78, body78, e4]
    refine sq ctNo_ok ?_
    simp only [go_sem, Nat.reduceLT, Nat.reduceAdd]
    refine rg ctNo_ok ?_
    simp only [go_sem, Nat.reduceLT, Nat.reduceAdd]
    obtain rfl := Option.some.inj H
    refine RetE_mk [] [some 2, some 3, some 4, some 5] ?_ ?_ ?_ ?_ (by rfl) (by rfl)
    · simp only [go_sem]
    · simp only [go_sem]
    · simp only [go_sem]
      exact Cv_tup (CvL_cons (by first | (simp [Cv, CvL, getM]; done) | (simp [Cv, CvL, getM, gt_some]; omega)) (CvL_cons (by first | (simp [Cv, getM]; done) | (simp [Cv, CvL, getM, gt_some]; omega)) (CvL_cons (by simp [Cv]) CvL_nil)))
    · simp only [go_sem, CvH]
      first | exact ⟨CvB_row nr_TRegulateChannel (by first | rfl | (simp; done) | (simp; omega)) (fun _ _ _ _ => rfl), CvB_row nr_TRegulateBlock (by first | rfl | (simp; done) | (simp; omega)) (fun _ _ _ _ => rfl), CvB_row nr_i64 (by first | rfl | (simp; done) | (simp; omega)) (fun _ _ _ _ => rfl), CvB_row nr_TRegulateWord (by first | rfl | (simp; done) | (simp; omega)) (fun _ _ _ _ => rfl)⟩ | trivial
  · cases hb
/-! hotspot/regulate.valid$1 -/
noncomputable def F83 (p0 : Int) (p1 : Int) (p2 : Int) : Option (Bool) :=
  some ((bLe p1 p0) && (bLe p0 p2))
noncomputable def body83 : List AV -> AR
  | [v0, v1, v2] => .pure (iK .i64 v0 /\ iK .i64 v1 /\ iK .i64 v2 /\ (F83 (iA v0) (iA v1) (iA v2)).isSome = true) (.bool (gt (F83 (iA v0) (iA v1) (iA v2))))
  | _ => .fail
set_option maxHeartbeats 4000000 in
set_option maxRecDepth 20000 in
theorem ok83 : FnOk Try.prog 83 (pureC body83) := by
  refine pure_fnM body83 (rs := [.tmp 6]) Try.func83 (by kernel_rfl) rfl rfl ?_
  intro l ob v hb hob
  unfold body83 at hb
  split at hb
  · rename_i v0 v1 v2
    injection hb with q1 q2; subst q1 q2
    obtain ⟨hk0_0, hk1_0, hk2_0, hob⟩ := hob
    obtain ⟨r, H⟩ := Option.isSome_iff_exists.1 hob
    rw [H, gt_some]
    have hw0 := iK_wk hk0_0
    have hw1 := iK_wk hk1_0
    have hw2 := iK_wk hk2_0
    generalize iA v0 = p0 at H hw0
    generalize iA v1 = p1 at H hw1
    generalize iA v2 = p2 at H hw2
    refine ⟨[.int .i64 p0, .int .i64 p1, .int .i64 p2], _, (fun E vs F => FR_wk1 hw0.1 F (fun vs F => FR_wk1 hw1.1 F (fun vs F => FR_wk1 hw2.1 F (fun vs F => F)))), rfl, rfl, ?_⟩
    rw [Try.ntmps83]
    simp only [List.length_cons, List.length_nil, Nat.reduceAdd, Nat.reduceSub, List.replicate_succ, List.replicate_zero, List.cons_append, List.nil_append]
    unfold F83 at H
    refine sq ctNo_ok ?_
    simp only [go_sem]
    refine sq ctNo_ok ?_
    simp only [go_sem]
    refine rg ctNo_ok ?_
    simp only [go_sem]
    obtain rfl := Option.some.inj H
    first | rfl | simp only [Bool.and_false, Bool.false_and, Bool.and_true, Bool.true_and]
  · cases hb
/-! hotspot/regulate.valid -/
noncomputable def ct44t0 : Ct := tab [(83, pureC body83)]
theorem ct44t0_ok : CtOk Try.prog ct44t0 := tab_cons ok83 <| tab_nil
theorem ct44t0_83 (l : List AV) (h : List ABlk) : ct44t0 83 l h = pureC body83 l h := rfl
noncomputable def F44 (p0 : TRegulateWord) : Option (Bool) :=
  bif (bEq p0.Kind 1) then ((F83 p0.Channel 1 255).bind fun r1 => need (bif r1 then ((F83 p0.To 1 255).isSome) else true) <| need (bif (r1 && (gt (F83 p0.To 1 255))) then ((F83 p0.At 0 1099511627776).isSome) else true) <| some ((r1 && (gt (F83 p0.To 1 255))) && (gt (F83 p0.At 0 1099511627776)))) else (bif (bEq p0.Kind 2) then ((F83 p0.Channel 1 255).bind fun r5 => need (bif r5 then ((F83 p0.To 0 0).isSome) else true) <| need (bif (r5 && (gt (F83 p0.To 0 0))) then ((F83 p0.At 0 0).isSome) else true) <| some ((r5 && (gt (F83 p0.To 0 0))) && (gt (F83 p0.At 0 0)))) else (bif (bEq p0.Kind 3) then ((F83 p0.Channel 1 255).bind fun r9 => need (bif r9 then ((F83 p0.To 0 0).isSome) else true) <| need (bif (r9 && (gt (F83 p0.To 0 0))) then ((F83 p0.At 0 1099511627776).isSome) else true) <| some ((r9 && (gt (F83 p0.To 0 0))) && (gt (F83 p0.At 0 1099511627776)))) else (some false)))
noncomputable def body44 : List AV -> AR
  | [v0] => .pure (aK 4 k_TRegulateWord v0 /\ (F44 (g_TRegulateWord (aL v0))).isSome = true) (.bool (gt (F44 (g_TRegulateWord (aL v0)))))
  | _ => .fail
set_option maxHeartbeats 4000000 in
set_option maxRecDepth 20000 in
theorem ok44 : FnOk Try.prog 44 (pureC body44) := by
  refine pure_fnM body44 (rs := [.tmp 2]) Try.func44 (by kernel_rfl) rfl rfl ?_
  intro l ob v hb hob
  unfold body44 at hb
  split at hb
  · rename_i v0
    injection hb with q1 q2; subst q1 q2
    obtain ⟨hk0_0, hob⟩ := hob
    obtain ⟨r, H⟩ := Option.isSome_iff_exists.1 hob
    rw [H, gt_some]
    have hw0 := wA_TRegulateWord hk0_0
    generalize g_TRegulateWord (aL v0) = p0 at H hw0
    refine ⟨[.agg [.int .u8 p0.Kind, .int .i64 p0.Channel, .int .i64 p0.To, .int .i64 p0.At]], _, (fun E vs F => FR_wk1 hw0.1 F (fun vs F => F)), rfl, rfl, ?_⟩
    rw [Try.ntmps44]
    simp only [List.length_cons, List.length_nil, Nat.reduceAdd, Nat.reduceSub, List.replicate_succ, List.replicate_zero, List.cons_append, List.nil_append]
    unfold F44 at H
    refine sq ctNo_ok ?_
    simp only [go_sem]
    refine sq ctNo_ok ?_
    simp only [go_sem]
    refine sq ctNo_ok ?_
    simp only [go_sem]
    refine seqM ?_
    refine sq ctNo_ok ?_
    simp only [go_sem, Nat.reduceLeDiff, Nat.reduceLT, Nat.reduceAdd]
    refine blkM ?_
    refine sq ctNo_ok ?_
    simp only [go_sem]
    refine condM rfl trivial (fun hc => ?_) (fun hc => ?_)
    · replace H := cond_t hc H
      refine rg ctNo_ok ?_
      simp only [go_sem]
      refine seqM ?_
      obtain ⟨r1, e2, H⟩ := bsi H
      obtain ⟨f3, H⟩ := need_some.1 H
      replace f3 := g_iff.1 f3
      obtain ⟨f4, H⟩ := need_some.1 H
      replace f4 := g_iff.1 f4
      refine rg ct44t0_ok ?_
      simp only [go_sem, Nat.reduceLeDiff, Nat.reduceLT, Nat.reduceAdd, ct44t0_83, body83, e2]
      repeat ((with_reducible refine And.intro ?_ ?_); focus (first | (with_reducible trivial) | omega | exact f3 | exact f4 | (intro g; have q := f3 (by first | exact g | (rw [g]; rfl) | simpa using g); first | exact q | exact ⟨q.1, q.2.1⟩ | exact q.2.2 | omega | exact ⟨g, q⟩ | exact ⟨trivial, q⟩ | exact ⟨g, q.1, q.2.1⟩ | exact ⟨g, q.2.2⟩) | (intro g; have q := f4 (by first | exact g | (rw [g]; rfl) | simpa using g); first | exact q | exact ⟨q.1, q.2.1⟩ | exact q.2.2 | omega | exact ⟨g, q⟩ | exact ⟨trivial, q⟩ | exact ⟨g, q.1, q.2.1⟩ | exact ⟨g, q.2.2⟩) | (intro g; (try have q0 := f3 (by first | exact g | (rw [g]; rfl) | simpa using g)); (try have q1 := f4 (by first | exact g | (rw [g]; rfl) | simpa using g)); and_intros <;> first | (with_reducible trivial) | assumption | exact nfc | (intro g2; rw [g, g2]; rfl) | (intro g2; assumption) | (simp only [g, Bool.true_and, Bool.and_true, Bool.not_false, Bool.not_true]; assumption) | grind) | (and_intros <;> first | (with_reducible trivial) | omega | assumption | exact nfc | first | exact rfl | exact trivial | exact fitI | exact .inr rfl | exact .inl rfl | exact fun x hx => absurd hx (by omega)) | grind))
      refine rg ctNo_ok ?_
      simp only [go_sem]
      obtain rfl := Option.some.inj H
      first | rfl | simp only [Bool.and_false, Bool.false_and, Bool.and_true, Bool.true_and]
    replace H := cond_f hc H
    refine sq ctNo_ok ?_
    simp only [go_sem]
    refine condM rfl trivial (fun hc => ?_) (fun hc => ?_)
    · replace H := cond_t hc H
      refine rg ctNo_ok ?_
      simp only [go_sem]
      refine seqM ?_
      obtain ⟨r5, e6, H⟩ := bsi H
      obtain ⟨f7, H⟩ := need_some.1 H
      replace f7 := g_iff.1 f7
      obtain ⟨f8, H⟩ := need_some.1 H
      replace f8 := g_iff.1 f8
      refine rg ct44t0_ok ?_
      simp only [go_sem, Nat.reduceLeDiff, Nat.reduceLT, Nat.reduceAdd, ct44t0_83, body83, e6]
      repeat ((with_reducible refine And.intro ?_ ?_); focus (first | (with_reducible trivial) | omega | exact f7 | exact f8 | (intro g; have q := f7 (by first | exact g | (rw [g]; rfl) | simpa using g); first | exact q | exact ⟨q.1, q.2.1⟩ | exact q.2.2 | omega | exact ⟨g, q⟩ | exact ⟨trivial, q⟩ | exact ⟨g, q.1, q.2.1⟩ | exact ⟨g, q.2.2⟩) | (intro g; have q := f8 (by first | exact g | (rw [g]; rfl) | simpa using g); first | exact q | exact ⟨q.1, q.2.1⟩ | exact q.2.2 | omega | exact ⟨g, q⟩ | exact ⟨trivial, q⟩ | exact ⟨g, q.1, q.2.1⟩ | exact ⟨g, q.2.2⟩) | (intro g; (try have q0 := f7 (by first | exact g | (rw [g]; rfl) | simpa using g)); (try have q1 := f8 (by first | exact g | (rw [g]; rfl) | simpa using g)); and_intros <;> first | (with_reducible trivial) | assumption | exact nfc | (intro g2; rw [g, g2]; rfl) | (intro g2; assumption) | (simp only [g, Bool.true_and, Bool.and_true, Bool.not_false, Bool.not_true]; assumption) | grind) | (and_intros <;> first | (with_reducible trivial) | omega | assumption | exact nfc | first | exact rfl | exact trivial | exact fitI | exact .inr rfl | exact .inl rfl | exact fun x hx => absurd hx (by omega)) | grind))
      refine rg ctNo_ok ?_
      simp only [go_sem]
      obtain rfl := Option.some.inj H
      first | rfl | simp only [Bool.and_false, Bool.false_and, Bool.and_true, Bool.true_and]
    replace H := cond_f hc H
    refine sq ctNo_ok ?_
    simp only [go_sem]
    refine condM' rfl trivial (fun hc => ?_) (fun hc => ?_)
    · replace H := cond_f hc H
      refine sq ctNo_ok ?_
      simp only [go_sem]
      refine rg ctNo_ok ?_
      simp only [go_sem]
      obtain rfl := Option.some.inj H
      first | rfl | simp only [Bool.and_false, Bool.false_and, Bool.and_true, Bool.true_and]
    replace H := cond_t hc H
    refine rg ctNo_ok ?_
    simp only [go_sem]
    refine seqM ?_
    obtain ⟨r9, e10, H⟩ := bsi H
    obtain ⟨f11, H⟩ := need_some.1 H
    replace f11 := g_iff.1 f11
    obtain ⟨f12, H⟩ := need_some.1 H
    replace f12 := g_iff.1 f12
    refine rg ct44t0_ok ?_
    simp only [go_sem, Nat.reduceLeDiff, Nat.reduceLT, Nat.reduceAdd, ct44t0_83, body83, e10]
    repeat ((with_reducible refine And.intro ?_ ?_); focus (first | (with_reducible trivial) | omega | exact f11 | exact f12 | (intro g; have q := f11 (by first | exact g | (rw [g]; rfl) | simpa using g); first | exact q | exact ⟨q.1, q.2.1⟩ | exact q.2.2 | omega | exact ⟨g, q⟩ | exact ⟨trivial, q⟩ | exact ⟨g, q.1, q.2.1⟩ | exact ⟨g, q.2.2⟩) | (intro g; have q := f12 (by first | exact g | (rw [g]; rfl) | simpa using g); first | exact q | exact ⟨q.1, q.2.1⟩ | exact q.2.2 | omega | exact ⟨g, q⟩ | exact ⟨trivial, q⟩ | exact ⟨g, q.1, q.2.1⟩ | exact ⟨g, q.2.2⟩) | (intro g; (try have q0 := f11 (by first | exact g | (rw [g]; rfl) | simpa using g)); (try have q1 := f12 (by first | exact g | (rw [g]; rfl) | simpa using g)); and_intros <;> first | (with_reducible trivial) | assumption | exact nfc | (intro g2; rw [g, g2]; rfl) | (intro g2; assumption) | (simp only [g, Bool.true_and, Bool.and_true, Bool.not_false, Bool.not_true]; assumption) | grind) | (and_intros <;> first | (with_reducible trivial) | omega | assumption | exact nfc | first | exact rfl | exact trivial | exact fitI | exact .inr rfl | exact .inl rfl | exact fun x hx => absurd hx (by omega)) | grind))
    refine rg ctNo_ok ?_
    simp only [go_sem]
    obtain rfl := Option.some.inj H
    first | rfl | simp only [Bool.and_false, Bool.false_and, Bool.and_true, Bool.true_and]
  · cases hb
/-! hotspot/regulate.handlers -/
def M79 : List (Int × Value) := [(1, .agg #[.func (.func 104) #[] #[], .func (.func 105) #[] #[]]), (2, .agg #[.func (.func 106) #[] #[], .func (.func 107) #[] #[]]), (3, .agg #[.func (.func 108) #[] #[], .func (.func 109) #[] #[]])]
theorem lk79 (n : Int) : lkM M79 n = bif bEq n 1 then .agg [.fn 104 [], .fn 105 []] else bif bEq n 2 then .agg [.fn 106 [], .fn 107 []] else bif bEq n 3 then .agg [.fn 108 [], .fn 109 []] else .top := rfl
theorem has79 (n : Int) : hasM M79 n = bif bEq n 1 then true else bif bEq n 2 then true else bif bEq n 3 then true else false := rfl
theorem go79 (w : World) : Calls Try.prog 79 #[] w fun e w' => e = .returned (.map (some w.heap.size)) /\ ∃ es c, NewMap w w' es c /\ es.toList.map (fun e => (e.key, e.val)) = M79.map (fun q => (Value.int .u8 q.1, q.2)) := by
  refine calls_of_wp Try.func79 rfl ?_
  refine wp_seq (wp_region_list ?_)
  refine stepL rfl rfl ?_
  refine wp_seq (wp_region_list ?_)
  refine stepL (r := .map (some w.heap.size)) (w' := w.alloc (.map #[] 0)) rfl rfl ?_
  have n0 := NewMap.mk0 w
  refine stepL (r := .agg #[.func (.func 104) #[] #[], .func (.func 105) #[] #[]]) (w' := w.alloc (.map #[] 0)) rfl (by kernel_rfl) ?_
  obtain ⟨w1, r1, n1⟩ := n0.ins (P := Try.prog) (mt := 133) (kt := 5) (et := 132) (n := 1) (v := .agg #[.func (.func 104) #[] #[], .func (.func 105) #[] #[]]) (by kernel_rfl) (by kernel_rfl) (by simp [MapKept.IsKey]) (by simp)
  refine stepS rfl (skipU r1) ?_
  refine stepL (r := .agg #[.func (.func 106) #[] #[], .func (.func 107) #[] #[]]) (w' := w1) rfl (by kernel_rfl) ?_
  obtain ⟨w2, r2, n2⟩ := n1.ins (P := Try.prog) (mt := 133) (kt := 5) (et := 132) (n := 2) (v := .agg #[.func (.func 106) #[] #[], .func (.func 107) #[] #[]]) (by kernel_rfl) (by kernel_rfl) (by simp [MapKept.IsKey]) (by simp)
  refine stepS rfl (skipU r2) ?_
  refine stepL (r := .agg #[.func (.func 108) #[] #[], .func (.func 109) #[] #[]]) (w' := w2) rfl (by kernel_rfl) ?_
  obtain ⟨w3, r3, n3⟩ := n2.ins (P := Try.prog) (mt := 133) (kt := 5) (et := 132) (n := 3) (v := .agg #[.func (.func 108) #[] #[], .func (.func 109) #[] #[]]) (by kernel_rfl) (by kernel_rfl) (by simp [MapKept.IsKey]) (by simp)
  refine stepS rfl (skipU r3) ?_
  refine stepL rfl rfl ?_
  refine stepL rfl rfl ?_
  refine wp_ret ?_
  exact ⟨rfl, .map (some w.heap.size), by kernel_rfl, rfl, _, _, n3, rfl⟩
theorem ok79 : FnOk Try.prog 79 (mapC M79) := map_fn ⟨_, Try.func79, by kernel_rfl, by kernel_rfl⟩ M79 go79
/-! hotspot/regulate.handlers$1 -/
noncomputable def F104_0 (p0_2 : Bool) (p1 : TRegulateWord) (p2 : Int) : Option (Bool) :=
  some ((!p0_2) && (bLe p2 p1.At))
noncomputable def body104_0 : List AV -> AR
  | [v0, v1, v2] => .pure (rM 10 v0 /\ bK (rG v0 2) /\ aK 4 k_TRegulateWord v1 /\ iK .i64 v2 /\ (F104_0 (bA (rG v0 2)) (g_TRegulateWord (aL v1)) (iA v2)).isSome = true) (.bool (gt (F104_0 (bA (rG v0 2)) (g_TRegulateWord (aL v1)) (iA v2))))
  | _ => .fail
set_option maxHeartbeats 4000000 in
set_option maxRecDepth 20000 in
theorem ok104_0 : FnOk Try.prog 104 (pureC body104_0) := by
  refine pure_fnM body104_0 (rs := [.tmp 6]) Try.func104 (by kernel_rfl) rfl rfl ?_
  intro l ob v hb hob
  unfold body104_0 at hb
  split at hb
  · rename_i v0 v1 v2
    injection hb with q1 q2; subst q1 q2
    obtain ⟨hk0_0, hk0_1, hk1_0, hk2_0, hob⟩ := hob
    obtain ⟨r, H⟩ := Option.isSome_iff_exists.1 hob
    rw [H, gt_some]
    have hw0 := (rM_wk (cells := [AV.top, AV.top, AV.bool (bA (rG v0 2)), AV.top, AV.top, AV.top, AV.top, AV.top, AV.top, AV.top]) hk0_0 (fun y hy => match y, hy with | 0, _ => top_wk | 1, _ => top_wk | 2, _ => bK_wk hk0_1 | 3, _ => top_wk | 4, _ => top_wk | 5, _ => top_wk | 6, _ => top_wk | 7, _ => top_wk | 8, _ => top_wk | 9, _ => top_wk | y + 10, hy => absurd hy (by omega)))
    have hw1 := wA_TRegulateWord hk1_0
    have hw2 := iK_wk hk2_0
    generalize bA (rG v0 2) = p0_2 at H hw0
    generalize g_TRegulateWord (aL v1) = p1 at H hw1
    generalize iA v2 = p2 at H hw2
    refine ⟨[.rptr 10 1 0 0 (fun _ y => getL [.top, .top, .bool p0_2, .top, .top, .top, .top, .top, .top, .top] y), .agg [.int .u8 p1.Kind, .int .i64 p1.Channel, .int .i64 p1.To, .int .i64 p1.At], .int .i64 p2], _, (fun E vs F => FR_wk1 hw0.1 F (fun vs F => FR_wk1 hw1.1 F (fun vs F => FR_wk1 hw2.1 F (fun vs F => F)))), rfl, rfl, ?_⟩
    rw [Try.ntmps104]
    simp only [List.length_cons, List.length_nil, Nat.reduceAdd, Nat.reduceSub, List.replicate_succ, List.replicate_zero, List.cons_append, List.nil_append]
    unfold F104_0 at H
    refine sq ctNo_ok ?_
    simp only [go_sem]
    refine sq ctNo_ok ?_
    simp only [go_sem, Nat.reduceLeDiff, Nat.reduceLT, Nat.reduceAdd]
    refine rg ctNo_ok ?_
    simp only [go_sem]
    obtain rfl := Option.some.inj H
    first | rfl | simp only [Bool.and_false, Bool.false_and, Bool.and_true, Bool.true_and]
  · cases hb
/-! hotspot/regulate.handlers$2 -/
noncomputable def ct105_0t0 : Ct := tab [(61, pureC body61_0)]
theorem ct105_0t0_ok : CtOk Try.prog ct105_0t0 := tab_cons ok61_0 <| tab_nil
theorem ct105_0t0_61 (l : List AV) (h : List ABlk) : ct105_0t0 61 l h = pureC body61_0 l h := rfl
noncomputable def ct105_0t1 : Ct := tab [(92, edC body92_0)]
theorem ct105_0t1_ok : CtOk Try.prog ct105_0t1 := tab_cons ok92_0 <| tab_nil
theorem ct105_0t1_92 (l : List AV) (h : List ABlk) : ct105_0t1 92 l h = edC body92_0 l h := rfl
noncomputable def F105_0 (p0 : TRegulate) (p1 : TRegulateWord) (p2 : Int) (p3 : Int) : Option ((List TRegulateWord) × Int × TRegulate) :=
  (F61_0 p0.Table p1.To).bind fun r1 => bif (!r1) then (some ([], 6, (TRegulate.mk p0.Table p0.Channel p0.Lead p0.Heard p0.Stopped p0.Moving p0.To p0.At p0.Blocked p0.Clear))) else ((F92_0 (TRegulate.mk p0.Table p0.Channel p0.Lead p0.Heard p0.Stopped p0.Moving p0.To p0.At p0.Blocked p0.Clear) p3).bind fun r3 => some ([], 0, (TRegulate.mk r3.Table r3.Channel r3.Lead r3.Heard r3.Stopped true p1.To p1.At r3.Blocked r3.Clear)))
noncomputable def body105_0 : List AV -> List ABlk -> ED
  | [v0, v1, v2, v3], h => .ed [ptB v0, slN (getL (celL h v0) 0), slN (getL (celL h v0) 8), slN (getL (celL h v0) 9)] (pK 39 10 h v0 /\ k_TRegulate (getL (roWL h (celL h v0))) /\ oS 45 3 h (getL (celL h v0) 0) /\ nref (getL (celL h v0) 1) /\ nref (getL (celL h v0) 2) /\ nref (getL (celL h v0) 3) /\ nref (getL (celL h v0) 4) /\ nref (getL (celL h v0) 5) /\ nref (getL (celL h v0) 6) /\ nref (getL (celL h v0) 7) /\ oS 79 2 h (getL (celL h v0) 8) /\ oS 3 1 h (getL (celL h v0) 9) /\ aK 4 k_TRegulateWord (roD (deadL h [ptB v0, slN (getL (celL h v0) 0), slN (getL (celL h v0) 8), slN (getL (celL h v0) 9)]) v1) /\ roDOb (deadL h [ptB v0, slN (getL (celL h v0) 0), slN (getL (celL h v0) 8), slN (getL (celL h v0) 9)]) v1 /\ iK .i64 (roD (deadL h [ptB v0, slN (getL (celL h v0) 0), slN (getL (celL h v0) 8), slN (getL (celL h v0) 9)]) v2) /\ roDOb (deadL h [ptB v0, slN (getL (celL h v0) 0), slN (getL (celL h v0) 8), slN (getL (celL h v0) 9)]) v2 /\ iK .i64 (roD (deadL h [ptB v0, slN (getL (celL h v0) 0), slN (getL (celL h v0) 8), slN (getL (celL h v0) 9)]) v3) /\ roDOb (deadL h [ptB v0, slN (getL (celL h v0) 0), slN (getL (celL h v0) 8), slN (getL (celL h v0) 9)]) v3 /\ (F105_0 (g_TRegulate (getL (roWL h (celL h v0)))) (g_TRegulateWord (aL (roD (deadL h [ptB v0, slN (getL (celL h v0) 0), slN (getL (celL h v0) 8), slN (getL (celL h v0) 9)]) v1))) (iA (roD (deadL h [ptB v0, slN (getL (celL h v0) 0), slN (getL (celL h v0) 8), slN (getL (celL h v0) 9)]) v2)) (iA (roD (deadL h [ptB v0, slN (getL (celL h v0) 0), slN (getL (celL h v0) 8), slN (getL (celL h v0) 9)]) v3))).isSome = true) (.tup [.sl 7 4 0 (((gt (F105_0 (g_TRegulate (getL (roWL h (celL h v0)))) (g_TRegulateWord (aL (roD (deadL h [ptB v0, slN (getL (celL h v0) 0), slN (getL (celL h v0) 8), slN (getL (celL h v0) 9)]) v1))) (iA (roD (deadL h [ptB v0, slN (getL (celL h v0) 0), slN (getL (celL h v0) 8), slN (getL (celL h v0) 9)]) v2)) (iA (roD (deadL h [ptB v0, slN (getL (celL h v0) 0), slN (getL (celL h v0) 8), slN (getL (celL h v0) 9)]) v3)))).1).length) false, .int .i64 ((gt (F105_0 (g_TRegulate (getL (roWL h (celL h v0)))) (g_TRegulateWord (aL (roD (deadL h [ptB v0, slN (getL (celL h v0) 0), slN (getL (celL h v0) 8), slN (getL (celL h v0) 9)]) v1))) (iA (roD (deadL h [ptB v0, slN (getL (celL h v0) 0), slN (getL (celL h v0) 8), slN (getL (celL h v0) 9)]) v2)) (iA (roD (deadL h [ptB v0, slN (getL (celL h v0) 0), slN (getL (celL h v0) 8), slN (getL (celL h v0) 9)]) v3)))).2.1)]) [.lit 39 [.sl 4 3 0 ((((gt (F105_0 (g_TRegulate (getL (roWL h (celL h v0)))) (g_TRegulateWord (aL (roD (deadL h [ptB v0, slN (getL (celL h v0) 0), slN (getL (celL h v0) 8), slN (getL (celL h v0) 9)]) v1))) (iA (roD (deadL h [ptB v0, slN (getL (celL h v0) 0), slN (getL (celL h v0) 8), slN (getL (celL h v0) 9)]) v2)) (iA (roD (deadL h [ptB v0, slN (getL (celL h v0) 0), slN (getL (celL h v0) 8), slN (getL (celL h v0) 9)]) v3)))).2.2).Table).length) false, .int .i64 (((gt (F105_0 (g_TRegulate (getL (roWL h (celL h v0)))) (g_TRegulateWord (aL (roD (deadL h [ptB v0, slN (getL (celL h v0) 0), slN (getL (celL h v0) 8), slN (getL (celL h v0) 9)]) v1))) (iA (roD (deadL h [ptB v0, slN (getL (celL h v0) 0), slN (getL (celL h v0) 8), slN (getL (celL h v0) 9)]) v2)) (iA (roD (deadL h [ptB v0, slN (getL (celL h v0) 0), slN (getL (celL h v0) 8), slN (getL (celL h v0) 9)]) v3)))).2.2).Channel), .bool (((gt (F105_0 (g_TRegulate (getL (roWL h (celL h v0)))) (g_TRegulateWord (aL (roD (deadL h [ptB v0, slN (getL (celL h v0) 0), slN (getL (celL h v0) 8), slN (getL (celL h v0) 9)]) v1))) (iA (roD (deadL h [ptB v0, slN (getL (celL h v0) 0), slN (getL (celL h v0) 8), slN (getL (celL h v0) 9)]) v2)) (iA (roD (deadL h [ptB v0, slN (getL (celL h v0) 0), slN (getL (celL h v0) 8), slN (getL (celL h v0) 9)]) v3)))).2.2).Lead), .int .i64 (((gt (F105_0 (g_TRegulate (getL (roWL h (celL h v0)))) (g_TRegulateWord (aL (roD (deadL h [ptB v0, slN (getL (celL h v0) 0), slN (getL (celL h v0) 8), slN (getL (celL h v0) 9)]) v1))) (iA (roD (deadL h [ptB v0, slN (getL (celL h v0) 0), slN (getL (celL h v0) 8), slN (getL (celL h v0) 9)]) v2)) (iA (roD (deadL h [ptB v0, slN (getL (celL h v0) 0), slN (getL (celL h v0) 8), slN (getL (celL h v0) 9)]) v3)))).2.2).Heard), .bool (((gt (F105_0 (g_TRegulate (getL (roWL h (celL h v0)))) (g_TRegulateWord (aL (roD (deadL h [ptB v0, slN (getL (celL h v0) 0), slN (getL (celL h v0) 8), slN (getL (celL h v0) 9)]) v1))) (iA (roD (deadL h [ptB v0, slN (getL (celL h v0) 0), slN (getL (celL h v0) 8), slN (getL (celL h v0) 9)]) v2)) (iA (roD (deadL h [ptB v0, slN (getL (celL h v0) 0), slN (getL (celL h v0) 8), slN (getL (celL h v0) 9)]) v3)))).2.2).Stopped), .bool (((gt (F105_0 (g_TRegulate (getL (roWL h (celL h v0)))) (g_TRegulateWord (aL (roD (deadL h [ptB v0, slN (getL (celL h v0) 0), slN (getL (celL h v0) 8), slN (getL (celL h v0) 9)]) v1))) (iA (roD (deadL h [ptB v0, slN (getL (celL h v0) 0), slN (getL (celL h v0) 8), slN (getL (celL h v0) 9)]) v2)) (iA (roD (deadL h [ptB v0, slN (getL (celL h v0) 0), slN (getL (celL h v0) 8), slN (getL (celL h v0) 9)]) v3)))).2.2).Moving), .int .i64 (((gt (F105_0 (g_TRegulate (getL (roWL h (celL h v0)))) (g_TRegulateWord (aL (roD (deadL h [ptB v0, slN (getL (celL h v0) 0), slN (getL (celL h v0) 8), slN (getL (celL h v0) 9)]) v1))) (iA (roD (deadL h [ptB v0, slN (getL (celL h v0) 0), slN (getL (celL h v0) 8), slN (getL (celL h v0) 9)]) v2)) (iA (roD (deadL h [ptB v0, slN (getL (celL h v0) 0), slN (getL (celL h v0) 8), slN (getL (celL h v0) 9)]) v3)))).2.2).To), .int .i64 (((gt (F105_0 (g_TRegulate (getL (roWL h (celL h v0)))) (g_TRegulateWord (aL (roD (deadL h [ptB v0, slN (getL (celL h v0) 0), slN (getL (celL h v0) 8), slN (getL (celL h v0) 9)]) v1))) (iA (roD (deadL h [ptB v0, slN (getL (celL h v0) 0), slN (getL (celL h v0) 8), slN (getL (celL h v0) 9)]) v2)) (iA (roD (deadL h [ptB v0, slN (getL (celL h v0) 0), slN (getL (celL h v0) 8), slN (getL (celL h v0) 9)]) v3)))).2.2).At), .sl 5 2 0 ((((gt (F105_0 (g_TRegulate (getL (roWL h (celL h v0)))) (g_TRegulateWord (aL (roD (deadL h [ptB v0, slN (getL (celL h v0) 0), slN (getL (celL h v0) 8), slN (getL (celL h v0) 9)]) v1))) (iA (roD (deadL h [ptB v0, slN (getL (celL h v0) 0), slN (getL (celL h v0) 8), slN (getL (celL h v0) 9)]) v2)) (iA (roD (deadL h [ptB v0, slN (getL (celL h v0) 0), slN (getL (celL h v0) 8), slN (getL (celL h v0) 9)]) v3)))).2.2).Blocked).length) false, .sl 6 1 0 ((((gt (F105_0 (g_TRegulate (getL (roWL h (celL h v0)))) (g_TRegulateWord (aL (roD (deadL h [ptB v0, slN (getL (celL h v0) 0), slN (getL (celL h v0) 8), slN (getL (celL h v0) 9)]) v1))) (iA (roD (deadL h [ptB v0, slN (getL (celL h v0) 0), slN (getL (celL h v0) 8), slN (getL (celL h v0) 9)]) v2)) (iA (roD (deadL h [ptB v0, slN (getL (celL h v0) 0), slN (getL (celL h v0) 8), slN (getL (celL h v0) 9)]) v3)))).2.2).Clear).length) false], .dead, .dead, .dead, .row 45 3 ((((gt (F105_0 (g_TRegulate (getL (roWL h (celL h v0)))) (g_TRegulateWord (aL (roD (deadL h [ptB v0, slN (getL (celL h v0) 0), slN (getL (celL h v0) 8), slN (getL (celL h v0) 9)]) v1))) (iA (roD (deadL h [ptB v0, slN (getL (celL h v0) 0), slN (getL (celL h v0) 8), slN (getL (celL h v0) 9)]) v2)) (iA (roD (deadL h [ptB v0, slN (getL (celL h v0) 0), slN (getL (celL h v0) 8), slN (getL (celL h v0) 9)]) v3)))).2.2).Table).length) (enR c_TRegulateChannel (((gt (F105_0 (g_TRegulate (getL (roWL h (celL h v0)))) (g_TRegulateWord (aL (roD (deadL h [ptB v0, slN (getL (celL h v0) 0), slN (getL (celL h v0) 8), slN (getL (celL h v0) 9)]) v1))) (iA (roD (deadL h [ptB v0, slN (getL (celL h v0) 0), slN (getL (celL h v0) 8), slN (getL (celL h v0) 9)]) v2)) (iA (roD (deadL h [ptB v0, slN (getL (celL h v0) 0), slN (getL (celL h v0) 8), slN (getL (celL h v0) 9)]) v3)))).2.2).Table)), .row 79 2 ((((gt (F105_0 (g_TRegulate (getL (roWL h (celL h v0)))) (g_TRegulateWord (aL (roD (deadL h [ptB v0, slN (getL (celL h v0) 0), slN (getL (celL h v0) 8), slN (getL (celL h v0) 9)]) v1))) (iA (roD (deadL h [ptB v0, slN (getL (celL h v0) 0), slN (getL (celL h v0) 8), slN (getL (celL h v0) 9)]) v2)) (iA (roD (deadL h [ptB v0, slN (getL (celL h v0) 0), slN (getL (celL h v0) 8), slN (getL (celL h v0) 9)]) v3)))).2.2).Blocked).length) (enR c_TRegulateBlock (((gt (F105_0 (g_TRegulate (getL (roWL h (celL h v0)))) (g_TRegulateWord (aL (roD (deadL h [ptB v0, slN (getL (celL h v0) 0), slN (getL (celL h v0) 8), slN (getL (celL h v0) 9)]) v1))) (iA (roD (deadL h [ptB v0, slN (getL (celL h v0) 0), slN (getL (celL h v0) 8), slN (getL (celL h v0) 9)]) v2)) (iA (roD (deadL h [ptB v0, slN (getL (celL h v0) 0), slN (getL (celL h v0) 8), slN (getL (celL h v0) 9)]) v3)))).2.2).Blocked)), .row 3 1 ((((gt (F105_0 (g_TRegulate (getL (roWL h (celL h v0)))) (g_TRegulateWord (aL (roD (deadL h [ptB v0, slN (getL (celL h v0) 0), slN (getL (celL h v0) 8), slN (getL (celL h v0) 9)]) v1))) (iA (roD (deadL h [ptB v0, slN (getL (celL h v0) 0), slN (getL (celL h v0) 8), slN (getL (celL h v0) 9)]) v2)) (iA (roD (deadL h [ptB v0, slN (getL (celL h v0) 0), slN (getL (celL h v0) 8), slN (getL (celL h v0) 9)]) v3)))).2.2).Clear).length) (enR c_i64 (((gt (F105_0 (g_TRegulate (getL (roWL h (celL h v0)))) (g_TRegulateWord (aL (roD (deadL h [ptB v0, slN (getL (celL h v0) 0), slN (getL (celL h v0) 8), slN (getL (celL h v0) 9)]) v1))) (iA (roD (deadL h [ptB v0, slN (getL (celL h v0) 0), slN (getL (celL h v0) 8), slN (getL (celL h v0) 9)]) v2)) (iA (roD (deadL h [ptB v0, slN (getL (celL h v0) 0), slN (getL (celL h v0) 8), slN (getL (celL h v0) 9)]) v3)))).2.2).Clear)), .row 23 4 (((gt (F105_0 (g_TRegulate (getL (roWL h (celL h v0)))) (g_TRegulateWord (aL (roD (deadL h [ptB v0, slN (getL (celL h v0) 0), slN (getL (celL h v0) 8), slN (getL (celL h v0) 9)]) v1))) (iA (roD (deadL h [ptB v0, slN (getL (celL h v0) 0), slN (getL (celL h v0) 8), slN (getL (celL h v0) 9)]) v2)) (iA (roD (deadL h [ptB v0, slN (getL (celL h v0) 0), slN (getL (celL h v0) 8), slN (getL (celL h v0) 9)]) v3)))).1).length) (enR c_TRegulateWord ((gt (F105_0 (g_TRegulate (getL (roWL h (celL h v0)))) (g_TRegulateWord (aL (roD (deadL h [ptB v0, slN (getL (celL h v0) 0), slN (getL (celL h v0) 8), slN (getL (celL h v0) 9)]) v1))) (iA (roD (deadL h [ptB v0, slN (getL (celL h v0) 0), slN (getL (celL h v0) 8), slN (getL (celL h v0) 9)]) v2)) (iA (roD (deadL h [ptB v0, slN (getL (celL h v0) 0), slN (getL (celL h v0) 8), slN (getL (celL h v0) 9)]) v3)))).1))]
  | _, _ => .fail
set_option maxHeartbeats 4000000 in
set_option maxRecDepth 20000 in
theorem ok105_0 : FnOk Try.prog 105 (edC body105_0) := by
  refine edit_fnV body105_0 (rs := [.tmp 8, .tmp 9]) Try.func105 (by kernel_rfl) rfl rfl ?_
  intro l h bs ob q0 g0 hb hob
  unfold body105_0 at hb
  split at hb
  · rename_i v0 v1 v2 v3
    injection hb with q1 q2 q3 q4; subst q1 q2 q3 q4
    obtain ⟨hk0_0, hk0_1, hk0_2, hk0_3, hk0_4, hk0_5, hk0_6, hk0_7, hk0_8, hk0_9, hk0_10, hk0_11, hk1_0, hk1_1, hk2_0, hk2_1, hk3_0, hk3_1, hob⟩ := hob
    obtain ⟨r, H⟩ := Option.isSome_iff_exists.1 hob
    rw [H, gt_some]
    obtain ⟨p0, hp0⟩ : ∃ p0, p0 = g_TRegulate (getL (roWL h (celL h v0))) := ⟨_, rfl⟩
    rw [← hp0] at H
    have hw0 : ∀ y, y < 10 -> WkV (getL (c_TRegulate p0) y) (roW h (getL (celL h v0) y)) /\ nref (getL (c_TRegulate p0) y) := fun y hy => by rw [hp0, ← getL_roWL]; exact w_TRegulate hk0_1 y hy
    have hk0_K := hk0_1
    unfold k_TRegulate at hk0_K
    obtain ⟨kk0_0, kk0_1, kk0_2, kk0_3, kk0_4, kk0_5, kk0_6, kk0_7, kk0_8, kk0_9⟩ := hk0_K
    obtain ⟨ev0_0, eb0_0⟩ := own_row2 (f := c_TRegulateChannel) (g := g_TRegulateChannel) (bs := [ptB v0, slN (getL (celL h v0) 0), slN (getL (celL h v0) 8), slN (getL (celL h v0) 9)]) (i := 1) (fun hr => w_TRegulateChannel hr) hk0_2 (by rw [← getL_roWL]; exact kk0_0) (L := p0.Table) (by rw [hp0, ← getL_roWL]; rfl) rfl
    obtain ⟨ev0_8, eb0_8⟩ := own_row2 (f := c_TRegulateBlock) (g := g_TRegulateBlock) (bs := [ptB v0, slN (getL (celL h v0) 0), slN (getL (celL h v0) 8), slN (getL (celL h v0) 9)]) (i := 2) (fun hr => w_TRegulateBlock hr) hk0_10 (by rw [← getL_roWL]; exact kk0_8) (L := p0.Blocked) (by rw [hp0, ← getL_roWL]; rfl) rfl
    obtain ⟨ev0_9, eb0_9⟩ := own_row2 (f := c_i64) (g := g_i64) (bs := [ptB v0, slN (getL (celL h v0) 0), slN (getL (celL h v0) 8), slN (getL (celL h v0) 9)]) (i := 3) (fun hr => w_i64 hr) hk0_11 (by rw [← getL_roWL]; exact kk0_9) (L := p0.Clear) (by rw [hp0, ← getL_roWL]; rfl) rfl
    have hw1 := wA_TRegulateWord hk1_0
    obtain ⟨p1, hp_p1⟩ : ∃ p1, p1 = g_TRegulateWord (aL (roD (deadL h [ptB v0, slN (getL (celL h v0) 0), slN (getL (celL h v0) 8), slN (getL (celL h v0) 9)]) v1)) := ⟨_, rfl⟩
    rw [← hp_p1] at H hw1
    have hw2 := iK_wk hk2_0
    obtain ⟨p2, hp_p2⟩ : ∃ p2, p2 = iA (roD (deadL h [ptB v0, slN (getL (celL h v0) 0), slN (getL (celL h v0) 8), slN (getL (celL h v0) 9)]) v2) := ⟨_, rfl⟩
    rw [← hp_p2] at H hw2
    have hw3 := iK_wk hk3_0
    obtain ⟨p3, hp_p3⟩ : ∃ p3, p3 = iA (roD (deadL h [ptB v0, slN (getL (celL h v0) 0), slN (getL (celL h v0) 8), slN (getL (celL h v0) 9)]) v3) := ⟨_, rfl⟩
    rw [← hp_p3] at H hw3
    refine ⟨[.ptr 0 0 0 0, .agg [.int .u8 p1.Kind, .int .i64 p1.Channel, .int .i64 p1.To, .int .i64 p1.At], .int .i64 p2, .int .i64 p3], [.lit 39 [.sl 1 3 0 p0.Table.length false, .int .i64 p0.Channel, .bool p0.Lead, .int .i64 p0.Heard, .bool p0.Stopped, .bool p0.Moving, .int .i64 p0.To, .int .i64 p0.At, .sl 2 2 0 p0.Blocked.length false, .sl 3 1 0 p0.Clear.length false], .row 45 3 p0.Table.length (enR c_TRegulateChannel p0.Table), .row 79 2 p0.Blocked.length (enR c_TRegulateBlock p0.Blocked), .row 3 1 p0.Clear.length (enR c_i64 p0.Clear)], rfl, ⟨(EW_own (EV_pK hk0_0 rfl) (by simp only [noro])), ⟨(EW_view hk1_1 hw1), ⟨(EW_view hk2_1 hw2), ⟨(EW_view hk3_1 hw3), trivial⟩⟩⟩⟩, ⟨(EB_pK hk0_0 rfl rfl (fun y hy => by
          match y, hy with
          | 0, _ => exact ev0_0
          | 1, _ => exact EV_t hk0_3 (hw0 1 (by decide))
          | 2, _ => exact EV_t hk0_4 (hw0 2 (by decide))
          | 3, _ => exact EV_t hk0_5 (hw0 3 (by decide))
          | 4, _ => exact EV_t hk0_6 (hw0 4 (by decide))
          | 5, _ => exact EV_t hk0_7 (hw0 5 (by decide))
          | 6, _ => exact EV_t hk0_8 (hw0 6 (by decide))
          | 7, _ => exact EV_t hk0_9 (hw0 7 (by decide))
          | 8, _ => exact ev0_8
          | 9, _ => exact ev0_9
          | y + 10, hy => omega)), ⟨eb0_0, ⟨eb0_8, ⟨eb0_9, trivial⟩⟩⟩⟩, ⟨(by simp only [noroB, noroL, noro, and_self]), ⟨noroB_en, ⟨noroB_en, ⟨noroB_en, trivial⟩⟩⟩⟩, ⟨trivial, ⟨trivial, ⟨trivial, ⟨trivial, ⟨(nfB_en nr_TRegulateChannel), ⟨(nfB_en nr_TRegulateBlock), ⟨(nfB_en nr_i64), ⟨(nfB_en nr_TRegulateWord), trivial⟩⟩⟩⟩⟩⟩⟩⟩, ⟨(by simp only [noroB, noroL, noro, and_self]), ⟨trivial, ⟨trivial, ⟨trivial, ⟨noroB_en, ⟨noroB_en, ⟨noroB_en, ⟨noroB_en, trivial⟩⟩⟩⟩⟩⟩⟩⟩, (by first | (simp only [noro, noroL, and_self]; done) | (simp only [noro, noroL]; and_intros <;> first | trivial | exact noro_bif (by simp only [noro]) (by simp only [noro]) | (simp only [noro, noroL, and_self]))), ?_⟩
    rw [Try.ntmps105]
    simp only [List.length_cons, List.length_nil, Nat.reduceAdd, Nat.reduceSub, List.replicate_succ, List.replicate_zero, List.cons_append, List.nil_append]
    unfold F105_0 at H
    refine sq ctNo_ok ?_
    simp only [go_sem, Nat.reduceAdd]
    refine seqM ?_
    refine seqM ?_
    obtain ⟨r1, e2, H⟩ := bsi H
    refine rg ct105_0t0_ok ?_
    simp only [go_sem, Nat.reduceLeDiff, Nat.reduceLT, Nat.reduceAdd, ct105_0t0_61, body61_0, e2]
    repeat ((with_reducible refine And.intro ?_ ?_); focus (first | (and_intros <;> first | (with_reducible trivial) | omega | assumption | exact nfc | first | exact rfl | exact trivial | exact fitI | exact .inr rfl | exact .inl rfl | exact fun x hx => absurd hx (by omega)) | grind))
    refine condM rfl trivial (fun hc => ?_) (fun hc => ?_)
    · replace H := cond_t hc H
      refine sq ctNo_ok ?_
      simp only [go_sem]
      refine rg ctNo_ok ?_
      simp only [go_sem]
      obtain rfl := Option.some.inj H
      refine RetE_mk [] [some 0, some 1, some 2, some 3, some 1, some 2, some 3, none] ?_ ?_ ?_ ?_ (by rfl) (by rfl)
      · simp only [go_sem]
      · simp only [go_sem]
      · simp only [go_sem]
        exact Cv_tup (CvL_cons (by first | (simp [Cv]; done) | (simp [Cv, CvL, getM, gt_some]; omega)) (CvL_cons (by simp [Cv]) CvL_nil))
      · simp only [go_sem, CvH]
        first | exact ⟨(by simp [CvB, CvL, Cv, blkAt, geth, getM]), CvB_dead, CvB_dead, CvB_dead, CvB_row nr_TRegulateChannel (by first | rfl | (simp; done) | (simp; omega)) (fun _ _ _ _ => rfl), CvB_row nr_TRegulateBlock (by first | rfl | (simp; done) | (simp; omega)) (fun _ _ _ _ => rfl), CvB_row nr_i64 (by first | rfl | (simp; done) | (simp; omega)) (fun _ _ _ _ => rfl), CvB_none⟩ | trivial
    replace H := cond_f hc H
    refine rg ctNo_ok ?_
    simp only [go_sem]
    refine seqM ?_
    obtain ⟨r3, e4, H⟩ := bsi H
    refine rg ct105_0t1_ok ?_
    simp only [go_sem, Nat.reduceAdd, Nat.reduceBEq, ct105_0t1_92, body92_0, e4]
    refine seqM ?_
    refine draw_rule shT_ok ctNo_ok 0 (by kernel_rfl) (by kernel_rfl) ?_
    intro an han
    simp only [d_nil, d_cons, nxtD, xrD, xoD, roEq, minL, List.append_nil, refsOp, refs, mask, maskF, place, placeF, okLog, pairOk, hit, inL, slotsF, nrH, nrB, nrL, nr, List.replicate_zero, Nat.sub_self, Nat.add_zero, Nat.zero_add, Nat.reduceSub, Nat.lt_add_one, go_sem, Nat.reduceLeDiff, Nat.reduceLT, Nat.reduceAdd, Nat.reduceSub, Nat.reduceBEq]
    repeat ((with_reducible refine And.intro ?_ ?_); focus (and_intros <;> first | (with_reducible trivial) | (show anB _ _ _ = true; subst han; kernel_rfl) | (show (anB _ _ _ && _) = true; subst han; kernel_rfl) | omega | assumption | exact nrc | exact nfc | first | exact rfl | exact trivial | exact fitI | exact .inr rfl | exact .inl rfl | exact fun x hx => absurd hx (by omega)))
    refine sq ctNo_ok ?_
    simp only [go_sem]
    refine rg ctNo_ok ?_
    simp only [go_sem]
    obtain rfl := Option.some.inj H
    refine RetE_mk [] [some 0, some 1, some 2, some 3, some 5, some 6, some 7, none] ?_ ?_ ?_ ?_ (by rfl) (by rfl)
    · simp only [go_sem]
    · simp only [go_sem]
    · simp only [go_sem]
      exact Cv_tup (CvL_cons (by first | (simp [Cv]; done) | (simp [Cv, CvL, getM, gt_some]; omega)) (CvL_cons (by simp [Cv]) CvL_nil))
    · simp only [go_sem, CvH]
      first | exact ⟨(by simp [CvB, CvL, Cv, blkAt, geth, getM]), CvB_dead, CvB_dead, CvB_dead, CvB_row nr_TRegulateChannel (by first | rfl | (simp; done) | (simp; omega)) (fun _ _ _ _ => rfl), CvB_row nr_TRegulateBlock (by first | rfl | (simp; done) | (simp; omega)) (fun _ _ _ _ => rfl), CvB_row nr_i64 (by first | rfl | (simp; done) | (simp; omega)) (fun _ _ _ _ => rfl), CvB_none⟩ | trivial
  · cases hb
/-! hotspot/regulate.handlers$3 -/
noncomputable def F106_0 (p0_2 : Bool) (p0_4 : Bool) (p1 : TRegulateWord) (p2 : Int) : Option (Bool) :=
  some (p0_2 && (!p0_4))
noncomputable def body106_0 : List AV -> AR
  | [v0, v1, v2] => .pure (rM 10 v0 /\ bK (rG v0 2) /\ bK (rG v0 4) /\ aK 4 k_TRegulateWord v1 /\ iK .i64 v2 /\ (F106_0 (bA (rG v0 2)) (bA (rG v0 4)) (g_TRegulateWord (aL v1)) (iA v2)).isSome = true) (.bool (gt (F106_0 (bA (rG v0 2)) (bA (rG v0 4)) (g_TRegulateWord (aL v1)) (iA v2))))
  | _ => .fail
set_option maxHeartbeats 4000000 in
set_option maxRecDepth 20000 in
theorem ok106_0 : FnOk Try.prog 106 (pureC body106_0) := by
  refine pure_fnM body106_0 (rs := [.tmp 6]) Try.func106 (by kernel_rfl) rfl rfl ?_
  intro l ob v hb hob
  unfold body106_0 at hb
  split at hb
  · rename_i v0 v1 v2
    injection hb with q1 q2; subst q1 q2
    obtain ⟨hk0_0, hk0_1, hk0_2, hk1_0, hk2_0, hob⟩ := hob
    obtain ⟨r, H⟩ := Option.isSome_iff_exists.1 hob
    rw [H, gt_some]
    have hw0 := (rM_wk (cells := [AV.top, AV.top, AV.bool (bA (rG v0 2)), AV.top, AV.bool (bA (rG v0 4)), AV.top, AV.top, AV.top, AV.top, AV.top]) hk0_0 (fun y hy => match y, hy with | 0, _ => top_wk | 1, _ => top_wk | 2, _ => bK_wk hk0_1 | 3, _ => top_wk | 4, _ => bK_wk hk0_2 | 5, _ => top_wk | 6, _ => top_wk | 7, _ => top_wk | 8, _ => top_wk | 9, _ => top_wk | y + 10, hy => absurd hy (by omega)))
    have hw1 := wA_TRegulateWord hk1_0
    have hw2 := iK_wk hk2_0
    generalize bA (rG v0 2) = p0_2 at H hw0
    generalize bA (rG v0 4) = p0_4 at H hw0
    generalize g_TRegulateWord (aL v1) = p1 at H hw1
    generalize iA v2 = p2 at H hw2
    refine ⟨[.rptr 10 1 0 0 (fun _ y => getL [.top, .top, .bool p0_2, .top, .bool p0_4, .top, .top, .top, .top, .top] y), .agg [.int .u8 p1.Kind, .int .i64 p1.Channel, .int .i64 p1.To, .int .i64 p1.At], .int .i64 p2], _, (fun E vs F => FR_wk1 hw0.1 F (fun vs F => FR_wk1 hw1.1 F (fun vs F => FR_wk1 hw2.1 F (fun vs F => F)))), rfl, rfl, ?_⟩
    rw [Try.ntmps106]
    simp only [List.length_cons, List.length_nil, Nat.reduceAdd, Nat.reduceSub, List.replicate_succ, List.replicate_zero, List.cons_append, List.nil_append]
    unfold F106_0 at H
    refine sq ctNo_ok ?_
    simp only [go_sem]
    refine sq ctNo_ok ?_
    simp only [go_sem, Nat.reduceLeDiff, Nat.reduceLT, Nat.reduceAdd]
    refine rg ctNo_ok ?_
    simp only [go_sem]
    obtain rfl := Option.some.inj H
    first | rfl | simp only [Bool.and_false, Bool.false_and, Bool.and_true, Bool.true_and]
  · cases hb
/-! hotspot/regulate.handlers$4 -/
noncomputable def ct107_0t0 : Ct := tab [(54, edC body54_0)]
theorem ct107_0t0_ok : CtOk Try.prog ct107_0t0 := tab_cons ok54_0 <| tab_nil
theorem ct107_0t0_54 (l : List AV) (h : List ABlk) : ct107_0t0 54 l h = edC body54_0 l h := rfl
noncomputable def F107_0 (p0 : TRegulate) (p1 : TRegulateWord) (p2 : Int) (p3 : Int) : Option ((List TRegulateWord) × Int × TRegulate) :=
  (F54_0 (TRegulate.mk p0.Table p0.Channel p0.Lead p0.Heard p0.Stopped p0.Moving p0.To p0.At p0.Blocked p0.Clear) p2 p3).bind fun r1 => some (r1.1, 0, (TRegulate.mk r1.2.Table r1.2.Channel r1.2.Lead r1.2.Heard r1.2.Stopped r1.2.Moving r1.2.To r1.2.At r1.2.Blocked r1.2.Clear))
noncomputable def body107_0 : List AV -> List ABlk -> ED
  | [v0, v1, v2, v3], h => .ed [ptB v0, slN (getL (celL h v0) 0), slN (getL (celL h v0) 8), slN (getL (celL h v0) 9)] (pK 39 10 h v0 /\ k_TRegulate (getL (roWL h (celL h v0))) /\ oS 45 3 h (getL (celL h v0) 0) /\ nref (getL (celL h v0) 1) /\ nref (getL (celL h v0) 2) /\ nref (getL (celL h v0) 3) /\ nref (getL (celL h v0) 4) /\ nref (getL (celL h v0) 5) /\ nref (getL (celL h v0) 6) /\ nref (getL (celL h v0) 7) /\ oS 79 2 h (getL (celL h v0) 8) /\ oS 3 1 h (getL (celL h v0) 9) /\ aK 4 k_TRegulateWord (roD (deadL h [ptB v0, slN (getL (celL h v0) 0), slN (getL (celL h v0) 8), slN (getL (celL h v0) 9)]) v1) /\ roDOb (deadL h [ptB v0, slN (getL (celL h v0) 0), slN (getL (celL h v0) 8), slN (getL (celL h v0) 9)]) v1 /\ iK .i64 (roD (deadL h [ptB v0, slN (getL (celL h v0) 0), slN (getL (celL h v0) 8), slN (getL (celL h v0) 9)]) v2) /\ roDOb (deadL h [ptB v0, slN (getL (celL h v0) 0), slN (getL (celL h v0) 8), slN (getL (celL h v0) 9)]) v2 /\ iK .i64 (roD (deadL h [ptB v0, slN (getL (celL h v0) 0), slN (getL (celL h v0) 8), slN (getL (celL h v0) 9)]) v3) /\ roDOb (deadL h [ptB v0, slN (getL (celL h v0) 0), slN (getL (celL h v0) 8), slN (getL (celL h v0) 9)]) v3 /\ (F107_0 (g_TRegulate (getL (roWL h (celL h v0)))) (g_TRegulateWord (aL (roD (deadL h [ptB v0, slN (getL (celL h v0) 0), slN (getL (celL h v0) 8), slN (getL (celL h v0) 9)]) v1))) (iA (roD (deadL h [ptB v0, slN (getL (celL h v0) 0), slN (getL (celL h v0) 8), slN (getL (celL h v0) 9)]) v2)) (iA (roD (deadL h [ptB v0, slN (getL (celL h v0) 0), slN (getL (celL h v0) 8), slN (getL (celL h v0) 9)]) v3))).isSome = true) (.tup [.sl 7 4 0 (((gt (F107_0 (g_TRegulate (getL (roWL h (celL h v0)))) (g_TRegulateWord (aL (roD (deadL h [ptB v0, slN (getL (celL h v0) 0), slN (getL (celL h v0) 8), slN (getL (celL h v0) 9)]) v1))) (iA (roD (deadL h [ptB v0, slN (getL (celL h v0) 0), slN (getL (celL h v0) 8), slN (getL (celL h v0) 9)]) v2)) (iA (roD (deadL h [ptB v0, slN (getL (celL h v0) 0), slN (getL (celL h v0) 8), slN (getL (celL h v0) 9)]) v3)))).1).length) false, .int .i64 ((gt (F107_0 (g_TRegulate (getL (roWL h (celL h v0)))) (g_TRegulateWord (aL (roD (deadL h [ptB v0, slN (getL (celL h v0) 0), slN (getL (celL h v0) 8), slN (getL (celL h v0) 9)]) v1))) (iA (roD (deadL h [ptB v0, slN (getL (celL h v0) 0), slN (getL (celL h v0) 8), slN (getL (celL h v0) 9)]) v2)) (iA (roD (deadL h [ptB v0, slN (getL (celL h v0) 0), slN (getL (celL h v0) 8), slN (getL (celL h v0) 9)]) v3)))).2.1)]) [.lit 39 [.sl 4 3 0 ((((gt (F107_0 (g_TRegulate (getL (roWL h (celL h v0)))) (g_TRegulateWord (aL (roD (deadL h [ptB v0, slN (getL (celL h v0) 0), slN (getL (celL h v0) 8), slN (getL (celL h v0) 9)]) v1))) (iA (roD (deadL h [ptB v0, slN (getL (celL h v0) 0), slN (getL (celL h v0) 8), slN (getL (celL h v0) 9)]) v2)) (iA (roD (deadL h [ptB v0, slN (getL (celL h v0) 0), slN (getL (celL h v0) 8), slN (getL (celL h v0) 9)]) v3)))).2.2).Table).length) false, .int .i64 (((gt (F107_0 (g_TRegulate (getL (roWL h (celL h v0)))) (g_TRegulateWord (aL (roD (deadL h [ptB v0, slN (getL (celL h v0) 0), slN (getL (celL h v0) 8), slN (getL (celL h v0) 9)]) v1))) (iA (roD (deadL h [ptB v0, slN (getL (celL h v0) 0), slN (getL (celL h v0) 8), slN (getL (celL h v0) 9)]) v2)) (iA (roD (deadL h [ptB v0, slN (getL (celL h v0) 0), slN (getL (celL h v0) 8), slN (getL (celL h v0) 9)]) v3)))).2.2).Channel), .bool (((gt (F107_0 (g_TRegulate (getL (roWL h (celL h v0)))) (g_TRegulateWord (aL (roD (deadL h [ptB v0, slN (getL (celL h v0) 0), slN (getL (celL h v0) 8), slN (getL (celL h v0) 9)]) v1))) (iA (roD (deadL h [ptB v0, slN (getL (celL h v0) 0), slN (getL (celL h v0) 8), slN (getL (celL h v0) 9)]) v2)) (iA (roD (deadL h [ptB v0, slN (getL (celL h v0) 0), slN (getL (celL h v0) 8), slN (getL (celL h v0) 9)]) v3)))).2.2).Lead), .int .i64 (((gt (F107_0 (g_TRegulate (getL (roWL h (celL h v0)))) (g_TRegulateWord (aL (roD (deadL h [ptB v0, slN (getL (celL h v0) 0), slN (getL (celL h v0) 8), slN (getL (celL h v0) 9)]) v1))) (iA (roD (deadL h [ptB v0, slN (getL (celL h v0) 0), slN (getL (celL h v0) 8), slN (getL (celL h v0) 9)]) v2)) (iA (roD (deadL h [ptB v0, slN (getL (celL h v0) 0), slN (getL (celL h v0) 8), slN (getL (celL h v0) 9)]) v3)))).2.2).Heard), .bool (((gt (F107_0 (g_TRegulate (getL (roWL h (celL h v0)))) (g_TRegulateWord (aL (roD (deadL h [ptB v0, slN (getL (celL h v0) 0), slN (getL (celL h v0) 8), slN (getL (celL h v0) 9)]) v1))) (iA (roD (deadL h [ptB v0, slN (getL (celL h v0) 0), slN (getL (celL h v0) 8), slN (getL (celL h v0) 9)]) v2)) (iA (roD (deadL h [ptB v0, slN (getL (celL h v0) 0), slN (getL (celL h v0) 8), slN (getL (celL h v0) 9)]) v3)))).2.2).Stopped), .bool (((gt (F107_0 (g_TRegulate (getL (roWL h (celL h v0)))) (g_TRegulateWord (aL (roD (deadL h [ptB v0, slN (getL (celL h v0) 0), slN (getL (celL h v0) 8), slN (getL (celL h v0) 9)]) v1))) (iA (roD (deadL h [ptB v0, slN (getL (celL h v0) 0), slN (getL (celL h v0) 8), slN (getL (celL h v0) 9)]) v2)) (iA (roD (deadL h [ptB v0, slN (getL (celL h v0) 0), slN (getL (celL h v0) 8), slN (getL (celL h v0) 9)]) v3)))).2.2).Moving), .int .i64 (((gt (F107_0 (g_TRegulate (getL (roWL h (celL h v0)))) (g_TRegulateWord (aL (roD (deadL h [ptB v0, slN (getL (celL h v0) 0), slN (getL (celL h v0) 8), slN (getL (celL h v0) 9)]) v1))) (iA (roD (deadL h [ptB v0, slN (getL (celL h v0) 0), slN (getL (celL h v0) 8), slN (getL (celL h v0) 9)]) v2)) (iA (roD (deadL h [ptB v0, slN (getL (celL h v0) 0), slN (getL (celL h v0) 8), slN (getL (celL h v0) 9)]) v3)))).2.2).To), .int .i64 (((gt (F107_0 (g_TRegulate (getL (roWL h (celL h v0)))) (g_TRegulateWord (aL (roD (deadL h [ptB v0, slN (getL (celL h v0) 0), slN (getL (celL h v0) 8), slN (getL (celL h v0) 9)]) v1))) (iA (roD (deadL h [ptB v0, slN (getL (celL h v0) 0), slN (getL (celL h v0) 8), slN (getL (celL h v0) 9)]) v2)) (iA (roD (deadL h [ptB v0, slN (getL (celL h v0) 0), slN (getL (celL h v0) 8), slN (getL (celL h v0) 9)]) v3)))).2.2).At), .sl 5 2 0 ((((gt (F107_0 (g_TRegulate (getL (roWL h (celL h v0)))) (g_TRegulateWord (aL (roD (deadL h [ptB v0, slN (getL (celL h v0) 0), slN (getL (celL h v0) 8), slN (getL (celL h v0) 9)]) v1))) (iA (roD (deadL h [ptB v0, slN (getL (celL h v0) 0), slN (getL (celL h v0) 8), slN (getL (celL h v0) 9)]) v2)) (iA (roD (deadL h [ptB v0, slN (getL (celL h v0) 0), slN (getL (celL h v0) 8), slN (getL (celL h v0) 9)]) v3)))).2.2).Blocked).length) false, .sl 6 1 0 ((((gt (F107_0 (g_TRegulate (getL (roWL h (celL h v0)))) (g_TRegulateWord (aL (roD (deadL h [ptB v0, slN (getL (celL h v0) 0), slN (getL (celL h v0) 8), slN (getL (celL h v0) 9)]) v1))) (iA (roD (deadL h [ptB v0, slN (getL (celL h v0) 0), slN (getL (celL h v0) 8), slN (getL (celL h v0) 9)]) v2)) (iA (roD (deadL h [ptB v0, slN (getL (celL h v0) 0), slN (getL (celL h v0) 8), slN (getL (celL h v0) 9)]) v3)))).2.2).Clear).length) false], .dead, .dead, .dead, .row 45 3 ((((gt (F107_0 (g_TRegulate (getL (roWL h (celL h v0)))) (g_TRegulateWord (aL (roD (deadL h [ptB v0, slN (getL (celL h v0) 0), slN (getL (celL h v0) 8), slN (getL (celL h v0) 9)]) v1))) (iA (roD (deadL h [ptB v0, slN (getL (celL h v0) 0), slN (getL (celL h v0) 8), slN (getL (celL h v0) 9)]) v2)) (iA (roD (deadL h [ptB v0, slN (getL (celL h v0) 0), slN (getL (celL h v0) 8), slN (getL (celL h v0) 9)]) v3)))).2.2).Table).length) (enR c_TRegulateChannel (((gt (F107_0 (g_TRegulate (getL (roWL h (celL h v0)))) (g_TRegulateWord (aL (roD (deadL h [ptB v0, slN (getL (celL h v0) 0), slN (getL (celL h v0) 8), slN (getL (celL h v0) 9)]) v1))) (iA (roD (deadL h [ptB v0, slN (getL (celL h v0) 0), slN (getL (celL h v0) 8), slN (getL (celL h v0) 9)]) v2)) (iA (roD (deadL h [ptB v0, slN (getL (celL h v0) 0), slN (getL (celL h v0) 8), slN (getL (celL h v0) 9)]) v3)))).2.2).Table)), .row 79 2 ((((gt (F107_0 (g_TRegulate (getL (roWL h (celL h v0)))) (g_TRegulateWord (aL (roD (deadL h [ptB v0, slN (getL (celL h v0) 0), slN (getL (celL h v0) 8), slN (getL (celL h v0) 9)]) v1))) (iA (roD (deadL h [ptB v0, slN (getL (celL h v0) 0), slN (getL (celL h v0) 8), slN (getL (celL h v0) 9)]) v2)) (iA (roD (deadL h [ptB v0, slN (getL (celL h v0) 0), slN (getL (celL h v0) 8), slN (getL (celL h v0) 9)]) v3)))).2.2).Blocked).length) (enR c_TRegulateBlock (((gt (F107_0 (g_TRegulate (getL (roWL h (celL h v0)))) (g_TRegulateWord (aL (roD (deadL h [ptB v0, slN (getL (celL h v0) 0), slN (getL (celL h v0) 8), slN (getL (celL h v0) 9)]) v1))) (iA (roD (deadL h [ptB v0, slN (getL (celL h v0) 0), slN (getL (celL h v0) 8), slN (getL (celL h v0) 9)]) v2)) (iA (roD (deadL h [ptB v0, slN (getL (celL h v0) 0), slN (getL (celL h v0) 8), slN (getL (celL h v0) 9)]) v3)))).2.2).Blocked)), .row 3 1 ((((gt (F107_0 (g_TRegulate (getL (roWL h (celL h v0)))) (g_TRegulateWord (aL (roD (deadL h [ptB v0, slN (getL (celL h v0) 0), slN (getL (celL h v0) 8), slN (getL (celL h v0) 9)]) v1))) (iA (roD (deadL h [ptB v0, slN (getL (celL h v0) 0), slN (getL (celL h v0) 8), slN (getL (celL h v0) 9)]) v2)) (iA (roD (deadL h [ptB v0, slN (getL (celL h v0) 0), slN (getL (celL h v0) 8), slN (getL (celL h v0) 9)]) v3)))).2.2).Clear).length) (enR c_i64 (((gt (F107_0 (g_TRegulate (getL (roWL h (celL h v0)))) (g_TRegulateWord (aL (roD (deadL h [ptB v0, slN (getL (celL h v0) 0), slN (getL (celL h v0) 8), slN (getL (celL h v0) 9)]) v1))) (iA (roD (deadL h [ptB v0, slN (getL (celL h v0) 0), slN (getL (celL h v0) 8), slN (getL (celL h v0) 9)]) v2)) (iA (roD (deadL h [ptB v0, slN (getL (celL h v0) 0), slN (getL (celL h v0) 8), slN (getL (celL h v0) 9)]) v3)))).2.2).Clear)), .row 23 4 (((gt (F107_0 (g_TRegulate (getL (roWL h (celL h v0)))) (g_TRegulateWord (aL (roD (deadL h [ptB v0, slN (getL (celL h v0) 0), slN (getL (celL h v0) 8), slN (getL (celL h v0) 9)]) v1))) (iA (roD (deadL h [ptB v0, slN (getL (celL h v0) 0), slN (getL (celL h v0) 8), slN (getL (celL h v0) 9)]) v2)) (iA (roD (deadL h [ptB v0, slN (getL (celL h v0) 0), slN (getL (celL h v0) 8), slN (getL (celL h v0) 9)]) v3)))).1).length) (enR c_TRegulateWord ((gt (F107_0 (g_TRegulate (getL (roWL h (celL h v0)))) (g_TRegulateWord (aL (roD (deadL h [ptB v0, slN (getL (celL h v0) 0), slN (getL (celL h v0) 8), slN (getL (celL h v0) 9)]) v1))) (iA (roD (deadL h [ptB v0, slN (getL (celL h v0) 0), slN (getL (celL h v0) 8), slN (getL (celL h v0) 9)]) v2)) (iA (roD (deadL h [ptB v0, slN (getL (celL h v0) 0), slN (getL (celL h v0) 8), slN (getL (celL h v0) 9)]) v3)))).1))]
  | _, _ => .fail
set_option maxHeartbeats 4000000 in
set_option maxRecDepth 20000 in
theorem ok107_0 : FnOk Try.prog 107 (edC body107_0) := by
  refine edit_fnV body107_0 (rs := [.tmp 8, .tmp 9]) Try.func107 (by kernel_rfl) rfl rfl ?_
  intro l h bs ob q0 g0 hb hob
  unfold body107_0 at hb
  split at hb
  · rename_i v0 v1 v2 v3
    injection hb with q1 q2 q3 q4; subst q1 q2 q3 q4
    obtain ⟨hk0_0, hk0_1, hk0_2, hk0_3, hk0_4, hk0_5, hk0_6, hk0_7, hk0_8, hk0_9, hk0_10, hk0_11, hk1_0, hk1_1, hk2_0, hk2_1, hk3_0, hk3_1, hob⟩ := hob
    obtain ⟨r, H⟩ := Option.isSome_iff_exists.1 hob
    rw [H, gt_some]
    obtain ⟨p0, hp0⟩ : ∃ p0, p0 = g_TRegulate (getL (roWL h (celL h v0))) := ⟨_, rfl⟩
    rw [← hp0] at H
    have hw0 : ∀ y, y < 10 -> WkV (getL (c_TRegulate p0) y) (roW h (getL (celL h v0) y)) /\ nref (getL (c_TRegulate p0) y) := fun y hy => by rw [hp0, ← getL_roWL]; exact w_TRegulate hk0_1 y hy
    have hk0_K := hk0_1
    unfold k_TRegulate at hk0_K
    obtain ⟨kk0_0, kk0_1, kk0_2, kk0_3, kk0_4, kk0_5, kk0_6, kk0_7, kk0_8, kk0_9⟩ := hk0_K
    obtain ⟨ev0_0, eb0_0⟩ := own_row2 (f := c_TRegulateChannel) (g := g_TRegulateChannel) (bs := [ptB v0, slN (getL (celL h v0) 0), slN (getL (celL h v0) 8), slN (getL (celL h v0) 9)]) (i := 1) (fun hr => w_TRegulateChannel hr) hk0_2 (by rw [← getL_roWL]; exact kk0_0) (L := p0.Table) (by rw [hp0, ← getL_roWL]; rfl) rfl
    obtain ⟨ev0_8, eb0_8⟩ := own_row2 (f := c_TRegulateBlock) (g := g_TRegulateBlock) (bs := [ptB v0, slN (getL (celL h v0) 0), slN (getL (celL h v0) 8), slN (getL (celL h v0) 9)]) (i := 2) (fun hr => w_TRegulateBlock hr) hk0_10 (by rw [← getL_roWL]; exact kk0_8) (L := p0.Blocked) (by rw [hp0, ← getL_roWL]; rfl) rfl
    obtain ⟨ev0_9, eb0_9⟩ := own_row2 (f := c_i64) (g := g_i64) (bs := [ptB v0, slN (getL (celL h v0) 0), slN (getL (celL h v0) 8), slN (getL (celL h v0) 9)]) (i := 3) (fun hr => w_i64 hr) hk0_11 (by rw [← getL_roWL]; exact kk0_9) (L := p0.Clear) (by rw [hp0, ← getL_roWL]; rfl) rfl
    have hw1 := wA_TRegulateWord hk1_0
    obtain ⟨p1, hp_p1⟩ : ∃ p1, p1 = g_TRegulateWord (aL (roD (deadL h [ptB v0, slN (getL (celL h v0) 0), slN (getL (celL h v0) 8), slN (getL (celL h v0) 9)]) v1)) := ⟨_, rfl⟩
    rw [← hp_p1] at H hw1
    have hw2 := iK_wk hk2_0
    obtain ⟨p2, hp_p2⟩ : ∃ p2, p2 = iA (roD (deadL h [ptB v0, slN (getL (celL h v0) 0), slN (getL (celL h v0) 8), slN (getL (celL h v0) 9)]) v2) := ⟨_, rfl⟩
    rw [← hp_p2] at H hw2
    have hw3 := iK_wk hk3_0
    obtain ⟨p3, hp_p3⟩ : ∃ p3, p3 = iA (roD (deadL h [ptB v0, slN (getL (celL h v0) 0), slN (getL (celL h v0) 8), slN (getL (celL h v0) 9)]) v3) := ⟨_, rfl⟩
    rw [← hp_p3] at H hw3
    refine ⟨[.ptr 0 0 0 0, .agg [.int .u8 p1.Kind, .int .i64 p1.Channel, .int .i64 p1.To, .int .i64 p1.At], .int .i64 p2, .int .i64 p3], [.lit 39 [.sl 1 3 0 p0.Table.length false, .int .i64 p0.Channel, .bool p0.Lead, .int .i64 p0.Heard, .bool p0.Stopped, .bool p0.Moving, .int .i64 p0.To, .int .i64 p0.At, .sl 2 2 0 p0.Blocked.length false, .sl 3 1 0 p0.Clear.length false], .row 45 3 p0.Table.length (enR c_TRegulateChannel p0.Table), .row 79 2 p0.Blocked.length (enR c_TRegulateBlock p0.Blocked), .row 3 1 p0.Clear.length (enR c_i64 p0.Clear)], rfl, ⟨(EW_own (EV_pK hk0_0 rfl) (by simp only [noro])), ⟨(EW_view hk1_1 hw1), ⟨(EW_view hk2_1 hw2), ⟨(EW_view hk3_1 hw3), trivial⟩⟩⟩⟩, ⟨(EB_pK hk0_0 rfl rfl (fun y hy => by
          match y, hy with
          | 0, _ => exact ev0_0
          | 1, _ => exact EV_t hk0_3 (hw0 1 (by decide))
          | 2, _ => exact EV_t hk0_4 (hw0 2 (by decide))
          | 3, _ => exact EV_t hk0_5 (hw0 3 (by decide))
          | 4, _ => exact EV_t hk0_6 (hw0 4 (by decide))
          | 5, _ => exact EV_t hk0_7 (hw0 5 (by decide))
          | 6, _ => exact EV_t hk0_8 (hw0 6 (by decide))
          | 7, _ => exact EV_t hk0_9 (hw0 7 (by decide))
          | 8, _ => exact ev0_8
          | 9, _ => exact ev0_9
          | y + 10, hy => omega)), ⟨eb0_0, ⟨eb0_8, ⟨eb0_9, trivial⟩⟩⟩⟩, ⟨(by simp only [noroB, noroL, noro, and_self]), ⟨noroB_en, ⟨noroB_en, ⟨noroB_en, trivial⟩⟩⟩⟩, ⟨trivial, ⟨trivial, ⟨trivial, ⟨trivial, ⟨(nfB_en nr_TRegulateChannel), ⟨(nfB_en nr_TRegulateBlock), ⟨(nfB_en nr_i64), ⟨(nfB_en nr_TRegulateWord), trivial⟩⟩⟩⟩⟩⟩⟩⟩, ⟨(by simp only [noroB, noroL, noro, and_self]), ⟨trivial, ⟨trivial, ⟨trivial, ⟨noroB_en, ⟨noroB_en, ⟨noroB_en, ⟨noroB_en, trivial⟩⟩⟩⟩⟩⟩⟩⟩, (by first | (simp only [noro, noroL, and_self]; done) | (simp only [noro, noroL]; and_intros <;> first | trivial | exact noro_bif (by simp only [noro]) (by simp only [noro]) | (simp only [noro, noroL, and_self]))), ?_⟩
    rw [Try.ntmps107]
    simp only [List.length_cons, List.length_nil, Nat.reduceAdd, Nat.reduceSub, List.replicate_succ, List.replicate_zero, List.cons_append, List.nil_append]
    unfold F107_0 at H
    refine sq ctNo_ok ?_
    simp only [go_sem, Nat.reduceAdd]
    refine seqM ?_
    obtain ⟨r1, e2, H⟩ := bsi H
    refine rg ct107_0t0_ok ?_
    simp only [go_sem, Nat.reduceAdd, Nat.reduceBEq, ct107_0t0_54, body54_0, e2]
    refine rg ctNo_ok ?_
    simp only [go_sem]
    obtain rfl := Option.some.inj H
    refine RetE_mk [] [some 0, some 1, some 2, some 3, some 5, some 6, some 7, some 8] ?_ ?_ ?_ ?_ (by rfl) (by rfl)
    · simp only [go_sem]
    · simp only [go_sem]
    · simp only [go_sem]
      exact Cv_tup (CvL_cons (by first | (simp [Cv, getM]; done) | (simp [Cv, CvL, getM, gt_some]; omega)) (CvL_cons (by simp [Cv]) CvL_nil))
    · simp only [go_sem, CvH]
      first | exact ⟨(by simp [CvB, CvL, Cv, blkAt, geth, getM]), CvB_dead, CvB_dead, CvB_dead, CvB_row nr_TRegulateChannel (by first | rfl | (simp; done) | (simp; omega)) (fun _ _ _ _ => rfl), CvB_row nr_TRegulateBlock (by first | rfl | (simp; done) | (simp; omega)) (fun _ _ _ _ => rfl), CvB_row nr_i64 (by first | rfl | (simp; done) | (simp; omega)) (fun _ _ _ _ => rfl), CvB_row nr_TRegulateWord (by first | rfl | (simp; done) | (simp; omega)) (fun _ _ _ _ => rfl)⟩ | trivial
  · cases hb
/-! hotspot/regulate.handlers$5 -/
noncomputable def F108_0 (p0_2 : Bool) (p0_3 : Int) (p0_4 : Bool) (p1 : TRegulateWord) (p2 : Int) : Option (Bool) :=
  some ((((!p0_2) && (!p0_4)) && (bLe p0_3 p1.At)) && (bLe p1.At p2))
noncomputable def body108_0 : List AV -> AR
  | [v0, v1, v2] => .pure (rM 10 v0 /\ bK (rG v0 2) /\ iK .i64 (rG v0 3) /\ bK (rG v0 4) /\ aK 4 k_TRegulateWord v1 /\ iK .i64 v2 /\ (F108_0 (bA (rG v0 2)) (iA (rG v0 3)) (bA (rG v0 4)) (g_TRegulateWord (aL v1)) (iA v2)).isSome = true) (.bool (gt (F108_0 (bA (rG v0 2)) (iA (rG v0 3)) (bA (rG v0 4)) (g_TRegulateWord (aL v1)) (iA v2))))
  | _ => .fail
set_option maxHeartbeats 4000000 in
set_option maxRecDepth 20000 in
theorem ok108_0 : FnOk Try.prog 108 (pureC body108_0) := by
  refine pure_fnM body108_0 (rs := [.tmp 6]) Try.func108 (by kernel_rfl) rfl rfl ?_
  intro l ob v hb hob
  unfold body108_0 at hb
  split at hb
  · rename_i v0 v1 v2
    injection hb with q1 q2; subst q1 q2
    obtain ⟨hk0_0, hk0_1, hk0_2, hk0_3, hk1_0, hk2_0, hob⟩ := hob
    obtain ⟨r, H⟩ := Option.isSome_iff_exists.1 hob
    rw [H, gt_some]
    have hw0 := (rM_wk (cells := [AV.top, AV.top, AV.bool (bA (rG v0 2)), AV.int .i64 (iA (rG v0 3)), AV.bool (bA (rG v0 4)), AV.top, AV.top, AV.top, AV.top, AV.top]) hk0_0 (fun y hy => match y, hy with | 0, _ => top_wk | 1, _ => top_wk | 2, _ => bK_wk hk0_1 | 3, _ => iK_wk hk0_2 | 4, _ => bK_wk hk0_3 | 5, _ => top_wk | 6, _ => top_wk | 7, _ => top_wk | 8, _ => top_wk | 9, _ => top_wk | y + 10, hy => absurd hy (by omega)))
    have hw1 := wA_TRegulateWord hk1_0
    have hw2 := iK_wk hk2_0
    generalize bA (rG v0 2) = p0_2 at H hw0
    generalize iA (rG v0 3) = p0_3 at H hw0
    generalize bA (rG v0 4) = p0_4 at H hw0
    generalize g_TRegulateWord (aL v1) = p1 at H hw1
    generalize iA v2 = p2 at H hw2
    refine ⟨[.rptr 10 1 0 0 (fun _ y => getL [.top, .top, .bool p0_2, .int .i64 p0_3, .bool p0_4, .top, .top, .top, .top, .top] y), .agg [.int .u8 p1.Kind, .int .i64 p1.Channel, .int .i64 p1.To, .int .i64 p1.At], .int .i64 p2], _, (fun E vs F => FR_wk1 hw0.1 F (fun vs F => FR_wk1 hw1.1 F (fun vs F => FR_wk1 hw2.1 F (fun vs F => F)))), rfl, rfl, ?_⟩
    rw [Try.ntmps108]
    simp only [List.length_cons, List.length_nil, Nat.reduceAdd, Nat.reduceSub, List.replicate_succ, List.replicate_zero, List.cons_append, List.nil_append]
    unfold F108_0 at H
    refine sq ctNo_ok ?_
    simp only [go_sem]
    refine seqM ?_
    refine draw_quiet shT_ok ctNo_ok (by kernel_rfl) (by kernel_rfl) ?_
    simp only [go_sem, Nat.reduceLeDiff, Nat.reduceLT, Nat.reduceAdd]
    refine rg ctNo_ok ?_
    simp only [go_sem]
    obtain rfl := Option.some.inj H
    first | rfl | simp only [Bool.and_false, Bool.false_and, Bool.and_true, Bool.true_and]
  · cases hb
/-! hotspot/regulate.handlers$6 -/
noncomputable def F109_0 (p0 : TRegulate) (p1 : TRegulateWord) (p2 : Int) (p3 : Int) : Option ((List TRegulateWord) × Int × TRegulate) :=
  some ([], 0, (TRegulate.mk p0.Table p0.Channel p0.Lead p1.At p0.Stopped p0.Moving p0.To p0.At p0.Blocked p0.Clear))
noncomputable def body109_0 : List AV -> List ABlk -> ED
  | [v0, v1, v2, v3], h => .ed [ptB v0, slN (getL (celL h v0) 0), slN (getL (celL h v0) 8), slN (getL (celL h v0) 9)] (pK 39 10 h v0 /\ k_TRegulate (getL (roWL h (celL h v0))) /\ oS 45 3 h (getL (celL h v0) 0) /\ nref (getL (celL h v0) 1) /\ nref (getL (celL h v0) 2) /\ nref (getL (celL h v0) 3) /\ nref (getL (celL h v0) 4) /\ nref (getL (celL h v0) 5) /\ nref (getL (celL h v0) 6) /\ nref (getL (celL h v0) 7) /\ oS 79 2 h (getL (celL h v0) 8) /\ oS 3 1 h (getL (celL h v0) 9) /\ aK 4 k_TRegulateWord (roD (deadL h [ptB v0, slN (getL (celL h v0) 0), slN (getL (celL h v0) 8), slN (getL (celL h v0) 9)]) v1) /\ roDOb (deadL h [ptB v0, slN (getL (celL h v0) 0), slN (getL (celL h v0) 8), slN (getL (celL h v0) 9)]) v1 /\ iK .i64 (roD (deadL h [ptB v0, slN (getL (celL h v0) 0), slN (getL (celL h v0) 8), slN (getL (celL h v0) 9)]) v2) /\ roDOb (deadL h [ptB v0, slN (getL (celL h v0) 0), slN (getL (celL h v0) 8), slN (getL (celL h v0) 9)]) v2 /\ iK .i64 (roD (deadL h [ptB v0, slN (getL (celL h v0) 0), slN (getL (celL h v0) 8), slN (getL (celL h v0) 9)]) v3) /\ roDOb (deadL h [ptB v0, slN (getL (celL h v0) 0), slN (getL (celL h v0) 8), slN (getL (celL h v0) 9)]) v3 /\ (F109_0 (g_TRegulate (getL (roWL h (celL h v0)))) (g_TRegulateWord (aL (roD (deadL h [ptB v0, slN (getL (celL h v0) 0), slN (getL (celL h v0) 8), slN (getL (celL h v0) 9)]) v1))) (iA (roD (deadL h [ptB v0, slN (getL (celL h v0) 0), slN (getL (celL h v0) 8), slN (getL (celL h v0) 9)]) v2)) (iA (roD (deadL h [ptB v0, slN (getL (celL h v0) 0), slN (getL (celL h v0) 8), slN (getL (celL h v0) 9)]) v3))).isSome = true) (.tup [.sl 7 4 0 (((gt (F109_0 (g_TRegulate (getL (roWL h (celL h v0)))) (g_TRegulateWord (aL (roD (deadL h [ptB v0, slN (getL (celL h v0) 0), slN (getL (celL h v0) 8), slN (getL (celL h v0) 9)]) v1))) (iA (roD (deadL h [ptB v0, slN (getL (celL h v0) 0), slN (getL (celL h v0) 8), slN (getL (celL h v0) 9)]) v2)) (iA (roD (deadL h [ptB v0, slN (getL (celL h v0) 0), slN (getL (celL h v0) 8), slN (getL (celL h v0) 9)]) v3)))).1).length) false, .int .i64 ((gt (F109_0 (g_TRegulate (getL (roWL h (celL h v0)))) (g_TRegulateWord (aL (roD (deadL h [ptB v0, slN (getL (celL h v0) 0), slN (getL (celL h v0) 8), slN (getL (celL h v0) 9)]) v1))) (iA (roD (deadL h [ptB v0, slN (getL (celL h v0) 0), slN (getL (celL h v0) 8), slN (getL (celL h v0) 9)]) v2)) (iA (roD (deadL h [ptB v0, slN (getL (celL h v0) 0), slN (getL (celL h v0) 8), slN (getL (celL h v0) 9)]) v3)))).2.1)]) [.lit 39 [.sl 4 3 0 ((((gt (F109_0 (g_TRegulate (getL (roWL h (celL h v0)))) (g_TRegulateWord (aL (roD (deadL h [ptB v0, slN (getL (celL h v0) 0), slN (getL (celL h v0) 8), slN (getL (celL h v0) 9)]) v1))) (iA (roD (deadL h [ptB v0, slN (getL (celL h v0) 0), slN (getL (celL h v0) 8), slN (getL (celL h v0) 9)]) v2)) (iA (roD (deadL h [ptB v0, slN (getL (celL h v0) 0), slN (getL (celL h v0) 8), slN (getL (celL h v0) 9)]) v3)))).2.2).Table).length) false, .int .i64 (((gt (F109_0 (g_TRegulate (getL (roWL h (celL h v0)))) (g_TRegulateWord (aL (roD (deadL h [ptB v0, slN (getL (celL h v0) 0), slN (getL (celL h v0) 8), slN (getL (celL h v0) 9)]) v1))) (iA (roD (deadL h [ptB v0, slN (getL (celL h v0) 0), slN (getL (celL h v0) 8), slN (getL (celL h v0) 9)]) v2)) (iA (roD (deadL h [ptB v0, slN (getL (celL h v0) 0), slN (getL (celL h v0) 8), slN (getL (celL h v0) 9)]) v3)))).2.2).Channel), .bool (((gt (F109_0 (g_TRegulate (getL (roWL h (celL h v0)))) (g_TRegulateWord (aL (roD (deadL h [ptB v0, slN (getL (celL h v0) 0), slN (getL (celL h v0) 8), slN (getL (celL h v0) 9)]) v1))) (iA (roD (deadL h [ptB v0, slN (getL (celL h v0) 0), slN (getL (celL h v0) 8), slN (getL (celL h v0) 9)]) v2)) (iA (roD (deadL h [ptB v0, slN (getL (celL h v0) 0), slN (getL (celL h v0) 8), slN (getL (celL h v0) 9)]) v3)))).2.2).Lead), .int .i64 (((gt (F109_0 (g_TRegulate (getL (roWL h (celL h v0)))) (g_TRegulateWord (aL (roD (deadL h [ptB v0, slN (getL (celL h v0) 0), slN (getL (celL h v0) 8), slN (getL (celL h v0) 9)]) v1))) (iA (roD (deadL h [ptB v0, slN (getL (celL h v0) 0), slN (getL (celL h v0) 8), slN (getL (celL h v0) 9)]) v2)) (iA (roD (deadL h [ptB v0, slN (getL (celL h v0) 0), slN (getL (celL h v0) 8), slN (getL (celL h v0) 9)]) v3)))).2.2).Heard), .bool (((gt (F109_0 (g_TRegulate (getL (roWL h (celL h v0)))) (g_TRegulateWord (aL (roD (deadL h [ptB v0, slN (getL (celL h v0) 0), slN (getL (celL h v0) 8), slN (getL (celL h v0) 9)]) v1))) (iA (roD (deadL h [ptB v0, slN (getL (celL h v0) 0), slN (getL (celL h v0) 8), slN (getL (celL h v0) 9)]) v2)) (iA (roD (deadL h [ptB v0, slN (getL (celL h v0) 0), slN (getL (celL h v0) 8), slN (getL (celL h v0) 9)]) v3)))).2.2).Stopped), .bool (((gt (F109_0 (g_TRegulate (getL (roWL h (celL h v0)))) (g_TRegulateWord (aL (roD (deadL h [ptB v0, slN (getL (celL h v0) 0), slN (getL (celL h v0) 8), slN (getL (celL h v0) 9)]) v1))) (iA (roD (deadL h [ptB v0, slN (getL (celL h v0) 0), slN (getL (celL h v0) 8), slN (getL (celL h v0) 9)]) v2)) (iA (roD (deadL h [ptB v0, slN (getL (celL h v0) 0), slN (getL (celL h v0) 8), slN (getL (celL h v0) 9)]) v3)))).2.2).Moving), .int .i64 (((gt (F109_0 (g_TRegulate (getL (roWL h (celL h v0)))) (g_TRegulateWord (aL (roD (deadL h [ptB v0, slN (getL (celL h v0) 0), slN (getL (celL h v0) 8), slN (getL (celL h v0) 9)]) v1))) (iA (roD (deadL h [ptB v0, slN (getL (celL h v0) 0), slN (getL (celL h v0) 8), slN (getL (celL h v0) 9)]) v2)) (iA (roD (deadL h [ptB v0, slN (getL (celL h v0) 0), slN (getL (celL h v0) 8), slN (getL (celL h v0) 9)]) v3)))).2.2).To), .int .i64 (((gt (F109_0 (g_TRegulate (getL (roWL h (celL h v0)))) (g_TRegulateWord (aL (roD (deadL h [ptB v0, slN (getL (celL h v0) 0), slN (getL (celL h v0) 8), slN (getL (celL h v0) 9)]) v1))) (iA (roD (deadL h [ptB v0, slN (getL (celL h v0) 0), slN (getL (celL h v0) 8), slN (getL (celL h v0) 9)]) v2)) (iA (roD (deadL h [ptB v0, slN (getL (celL h v0) 0), slN (getL (celL h v0) 8), slN (getL (celL h v0) 9)]) v3)))).2.2).At), .sl 5 2 0 ((((gt (F109_0 (g_TRegulate (getL (roWL h (celL h v0)))) (g_TRegulateWord (aL (roD (deadL h [ptB v0, slN (getL (celL h v0) 0), slN (getL (celL h v0) 8), slN (getL (celL h v0) 9)]) v1))) (iA (roD (deadL h [ptB v0, slN (getL (celL h v0) 0), slN (getL (celL h v0) 8), slN (getL (celL h v0) 9)]) v2)) (iA (roD (deadL h [ptB v0, slN (getL (celL h v0) 0), slN (getL (celL h v0) 8), slN (getL (celL h v0) 9)]) v3)))).2.2).Blocked).length) false, .sl 6 1 0 ((((gt (F109_0 (g_TRegulate (getL (roWL h (celL h v0)))) (g_TRegulateWord (aL (roD (deadL h [ptB v0, slN (getL (celL h v0) 0), slN (getL (celL h v0) 8), slN (getL (celL h v0) 9)]) v1))) (iA (roD (deadL h [ptB v0, slN (getL (celL h v0) 0), slN (getL (celL h v0) 8), slN (getL (celL h v0) 9)]) v2)) (iA (roD (deadL h [ptB v0, slN (getL (celL h v0) 0), slN (getL (celL h v0) 8), slN (getL (celL h v0) 9)]) v3)))).2.2).Clear).length) false], .dead, .dead, .dead, .row 45 3 ((((gt (F109_0 (g_TRegulate (getL (roWL h (celL h v0)))) (g_TRegulateWord (aL (roD (deadL h [ptB v0, slN (getL (celL h v0) 0), slN (getL (celL h v0) 8), slN (getL (celL h v0) 9)]) v1))) (iA (roD (deadL h [ptB v0, slN (getL (celL h v0) 0), slN (getL (celL h v0) 8), slN (getL (celL h v0) 9)]) v2)) (iA (roD (deadL h [ptB v0, slN (getL (celL h v0) 0), slN (getL (celL h v0) 8), slN (getL (celL h v0) 9)]) v3)))).2.2).Table).length) (enR c_TRegulateChannel (((gt (F109_0 (g_TRegulate (getL (roWL h (celL h v0)))) (g_TRegulateWord (aL (roD (deadL h [ptB v0, slN (getL (celL h v0) 0), slN (getL (celL h v0) 8), slN (getL (celL h v0) 9)]) v1))) (iA (roD (deadL h [ptB v0, slN (getL (celL h v0) 0), slN (getL (celL h v0) 8), slN (getL (celL h v0) 9)]) v2)) (iA (roD (deadL h [ptB v0, slN (getL (celL h v0) 0), slN (getL (celL h v0) 8), slN (getL (celL h v0) 9)]) v3)))).2.2).Table)), .row 79 2 ((((gt (F109_0 (g_TRegulate (getL (roWL h (celL h v0)))) (g_TRegulateWord (aL (roD (deadL h [ptB v0, slN (getL (celL h v0) 0), slN (getL (celL h v0) 8), slN (getL (celL h v0) 9)]) v1))) (iA (roD (deadL h [ptB v0, slN (getL (celL h v0) 0), slN (getL (celL h v0) 8), slN (getL (celL h v0) 9)]) v2)) (iA (roD (deadL h [ptB v0, slN (getL (celL h v0) 0), slN (getL (celL h v0) 8), slN (getL (celL h v0) 9)]) v3)))).2.2).Blocked).length) (enR c_TRegulateBlock (((gt (F109_0 (g_TRegulate (getL (roWL h (celL h v0)))) (g_TRegulateWord (aL (roD (deadL h [ptB v0, slN (getL (celL h v0) 0), slN (getL (celL h v0) 8), slN (getL (celL h v0) 9)]) v1))) (iA (roD (deadL h [ptB v0, slN (getL (celL h v0) 0), slN (getL (celL h v0) 8), slN (getL (celL h v0) 9)]) v2)) (iA (roD (deadL h [ptB v0, slN (getL (celL h v0) 0), slN (getL (celL h v0) 8), slN (getL (celL h v0) 9)]) v3)))).2.2).Blocked)), .row 3 1 ((((gt (F109_0 (g_TRegulate (getL (roWL h (celL h v0)))) (g_TRegulateWord (aL (roD (deadL h [ptB v0, slN (getL (celL h v0) 0), slN (getL (celL h v0) 8), slN (getL (celL h v0) 9)]) v1))) (iA (roD (deadL h [ptB v0, slN (getL (celL h v0) 0), slN (getL (celL h v0) 8), slN (getL (celL h v0) 9)]) v2)) (iA (roD (deadL h [ptB v0, slN (getL (celL h v0) 0), slN (getL (celL h v0) 8), slN (getL (celL h v0) 9)]) v3)))).2.2).Clear).length) (enR c_i64 (((gt (F109_0 (g_TRegulate (getL (roWL h (celL h v0)))) (g_TRegulateWord (aL (roD (deadL h [ptB v0, slN (getL (celL h v0) 0), slN (getL (celL h v0) 8), slN (getL (celL h v0) 9)]) v1))) (iA (roD (deadL h [ptB v0, slN (getL (celL h v0) 0), slN (getL (celL h v0) 8), slN (getL (celL h v0) 9)]) v2)) (iA (roD (deadL h [ptB v0, slN (getL (celL h v0) 0), slN (getL (celL h v0) 8), slN (getL (celL h v0) 9)]) v3)))).2.2).Clear)), .row 23 4 (((gt (F109_0 (g_TRegulate (getL (roWL h (celL h v0)))) (g_TRegulateWord (aL (roD (deadL h [ptB v0, slN (getL (celL h v0) 0), slN (getL (celL h v0) 8), slN (getL (celL h v0) 9)]) v1))) (iA (roD (deadL h [ptB v0, slN (getL (celL h v0) 0), slN (getL (celL h v0) 8), slN (getL (celL h v0) 9)]) v2)) (iA (roD (deadL h [ptB v0, slN (getL (celL h v0) 0), slN (getL (celL h v0) 8), slN (getL (celL h v0) 9)]) v3)))).1).length) (enR c_TRegulateWord ((gt (F109_0 (g_TRegulate (getL (roWL h (celL h v0)))) (g_TRegulateWord (aL (roD (deadL h [ptB v0, slN (getL (celL h v0) 0), slN (getL (celL h v0) 8), slN (getL (celL h v0) 9)]) v1))) (iA (roD (deadL h [ptB v0, slN (getL (celL h v0) 0), slN (getL (celL h v0) 8), slN (getL (celL h v0) 9)]) v2)) (iA (roD (deadL h [ptB v0, slN (getL (celL h v0) 0), slN (getL (celL h v0) 8), slN (getL (celL h v0) 9)]) v3)))).1))]
  | _, _ => .fail
set_option maxHeartbeats 4000000 in
set_option maxRecDepth 20000 in
theorem ok109_0 : FnOk Try.prog 109 (edC body109_0) := by
  refine edit_fnV body109_0 (rs := [.tmp 8, .tmp 9]) Try.func109 (by kernel_rfl) rfl rfl ?_
  intro l h bs ob q0 g0 hb hob
  unfold body109_0 at hb
  split at hb
  · rename_i v0 v1 v2 v3
    injection hb with q1 q2 q3 q4; subst q1 q2 q3 q4
    obtain ⟨hk0_0, hk0_1, hk0_2, hk0_3, hk0_4, hk0_5, hk0_6, hk0_7, hk0_8, hk0_9, hk0_10, hk0_11, hk1_0, hk1_1, hk2_0, hk2_1, hk3_0, hk3_1, hob⟩ := hob
    obtain ⟨r, H⟩ := Option.isSome_iff_exists.1 hob
    rw [H, gt_some]
    obtain ⟨p0, hp0⟩ : ∃ p0, p0 = g_TRegulate (getL (roWL h (celL h v0))) := ⟨_, rfl⟩
    rw [← hp0] at H
    have hw0 : ∀ y, y < 10 -> WkV (getL (c_TRegulate p0) y) (roW h (getL (celL h v0) y)) /\ nref (getL (c_TRegulate p0) y) := fun y hy => by rw [hp0, ← getL_roWL]; exact w_TRegulate hk0_1 y hy
    have hk0_K := hk0_1
    unfold k_TRegulate at hk0_K
    obtain ⟨kk0_0, kk0_1, kk0_2, kk0_3, kk0_4, kk0_5, kk0_6, kk0_7, kk0_8, kk0_9⟩ := hk0_K
    obtain ⟨ev0_0, eb0_0⟩ := own_row2 (f := c_TRegulateChannel) (g := g_TRegulateChannel) (bs := [ptB v0, slN (getL (celL h v0) 0), slN (getL (celL h v0) 8), slN (getL (celL h v0) 9)]) (i := 1) (fun hr => w_TRegulateChannel hr) hk0_2 (by rw [← getL_roWL]; exact kk0_0) (L := p0.Table) (by rw [hp0, ← getL_roWL]; rfl) rfl
    obtain ⟨ev0_8, eb0_8⟩ := own_row2 (f := c_TRegulateBlock) (g := g_TRegulateBlock) (bs := [ptB v0, slN (getL (celL h v0) 0), slN (getL (celL h v0) 8), slN (getL (celL h v0) 9)]) (i := 2) (fun hr => w_TRegulateBlock hr) hk0_10 (by rw [← getL_roWL]; exact kk0_8) (L := p0.Blocked) (by rw [hp0, ← getL_roWL]; rfl) rfl
    obtain ⟨ev0_9, eb0_9⟩ := own_row2 (f := c_i64) (g := g_i64) (bs := [ptB v0, slN (getL (celL h v0) 0), slN (getL (celL h v0) 8), slN (getL (celL h v0) 9)]) (i := 3) (fun hr => w_i64 hr) hk0_11 (by rw [← getL_roWL]; exact kk0_9) (L := p0.Clear) (by rw [hp0, ← getL_roWL]; rfl) rfl
    have hw1 := wA_TRegulateWord hk1_0
    obtain ⟨p1, hp_p1⟩ : ∃ p1, p1 = g_TRegulateWord (aL (roD (deadL h [ptB v0, slN (getL (celL h v0) 0), slN (getL (celL h v0) 8), slN (getL (celL h v0) 9)]) v1)) := ⟨_, rfl⟩
    rw [← hp_p1] at H hw1
    have hw2 := iK_wk hk2_0
    obtain ⟨p2, hp_p2⟩ : ∃ p2, p2 = iA (roD (deadL h [ptB v0, slN (getL (celL h v0) 0), slN (getL (celL h v0) 8), slN (getL (celL h v0) 9)]) v2) := ⟨_, rfl⟩
    rw [← hp_p2] at H hw2
    have hw3 := iK_wk hk3_0
    obtain ⟨p3, hp_p3⟩ : ∃ p3, p3 = iA (roD (deadL h [ptB v0, slN (getL (celL h v0) 0), slN (getL (celL h v0) 8), slN (getL (celL h v0) 9)]) v3) := ⟨_, rfl⟩
    rw [← hp_p3] at H hw3
    refine ⟨[.ptr 0 0 0 0, .agg [.int .u8 p1.Kind, .int .i64 p1.Channel, .int .i64 p1.To, .int .i64 p1.At], .int .i64 p2, .int .i64 p3], [.lit 39 [.sl 1 3 0 p0.Table.length false, .int .i64 p0.Channel, .bool p0.Lead, .int .i64 p0.Heard, .bool p0.Stopped, .bool p0.Moving, .int .i64 p0.To, .int .i64 p0.At, .sl 2 2 0 p0.Blocked.length false, .sl 3 1 0 p0.Clear.length false], .row 45 3 p0.Table.length (enR c_TRegulateChannel p0.Table), .row 79 2 p0.Blocked.length (enR c_TRegulateBlock p0.Blocked), .row 3 1 p0.Clear.length (enR c_i64 p0.Clear)], rfl, ⟨(EW_own (EV_pK hk0_0 rfl) (by simp only [noro])), ⟨(EW_view hk1_1 hw1), ⟨(EW_view hk2_1 hw2), ⟨(EW_view hk3_1 hw3), trivial⟩⟩⟩⟩, ⟨(EB_pK hk0_0 rfl rfl (fun y hy => by
          match y, hy with
          | 0, _ => exact ev0_0
          | 1, _ => exact EV_t hk0_3 (hw0 1 (by decide))
          | 2, _ => exact EV_t hk0_4 (hw0 2 (by decide))
          | 3, _ => exact EV_t hk0_5 (hw0 3 (by decide))
          | 4, _ => exact EV_t hk0_6 (hw0 4 (by decide))
          | 5, _ => exact EV_t hk0_7 (hw0 5 (by decide))
          | 6, _ => exact EV_t hk0_8 (hw0 6 (by decide))
          | 7, _ => exact EV_t hk0_9 (hw0 7 (by decide))
          | 8, _ => exact ev0_8
          | 9, _ => exact ev0_9
          | y + 10, hy => omega)), ⟨eb0_0, ⟨eb0_8, ⟨eb0_9, trivial⟩⟩⟩⟩, ⟨(by simp only [noroB, noroL, noro, and_self]), ⟨noroB_en, ⟨noroB_en, ⟨noroB_en, trivial⟩⟩⟩⟩, ⟨trivial, ⟨trivial, ⟨trivial, ⟨trivial, ⟨(nfB_en nr_TRegulateChannel), ⟨(nfB_en nr_TRegulateBlock), ⟨(nfB_en nr_i64), ⟨(nfB_en nr_TRegulateWord), trivial⟩⟩⟩⟩⟩⟩⟩⟩, ⟨(by simp only [noroB, noroL, noro, and_self]), ⟨trivial, ⟨trivial, ⟨trivial, ⟨noroB_en, ⟨noroB_en, ⟨noroB_en, ⟨noroB_en, trivial⟩⟩⟩⟩⟩⟩⟩⟩, (by first | (simp only [noro, noroL, and_self]; done) | (simp only [noro, noroL]; and_intros <;> first | trivial | exact noro_bif (by simp only [noro]) (by simp only [noro]) | (simp only [noro, noroL, and_self]))), ?_⟩
    rw [Try.ntmps109]
    simp only [List.length_cons, List.length_nil, Nat.reduceAdd, Nat.reduceSub, List.replicate_succ, List.replicate_zero, List.cons_append, List.nil_append]
    unfold F109_0 at H
    refine sq ctNo_ok ?_
    simp only [go_sem, Nat.reduceAdd]
    refine sq ctNo_ok ?_
    simp only [go_sem, Nat.reduceLeDiff, Nat.reduceLT, Nat.reduceAdd]
    refine sq ctNo_ok ?_
    simp only [go_sem]
    refine rg ctNo_ok ?_
    simp only [go_sem]
    obtain rfl := Option.some.inj H
    refine RetE_mk [] [some 0, some 1, some 2, some 3, some 1, some 2, some 3, none] ?_ ?_ ?_ ?_ (by rfl) (by rfl)
    · simp only [go_sem]
    · simp only [go_sem]
    · simp only [go_sem]
      exact Cv_tup (CvL_cons (by first | (simp [Cv]; done) | (simp [Cv, CvL, getM, gt_some]; omega)) (CvL_cons (by simp [Cv]) CvL_nil))
    · simp only [go_sem, CvH]
      first | exact ⟨(by simp [CvB, CvL, Cv, blkAt, geth, getM]), CvB_dead, CvB_dead, CvB_dead, CvB_row nr_TRegulateChannel (by first | rfl | (simp; done) | (simp; omega)) (fun _ _ _ _ => rfl), CvB_row nr_TRegulateBlock (by first | rfl | (simp; done) | (simp; omega)) (fun _ _ _ _ => rfl), CvB_row nr_i64 (by first | rfl | (simp; done) | (simp; omega)) (fun _ _ _ _ => rfl), CvB_none⟩ | trivial
  · cases hb
/-! hotspot/regulate.Handle -/
noncomputable def ct36t0 : Ct := tab [(50, edC body50)]
theorem ct36t0_ok : CtOk Try.prog ct36t0 := tab_cons ok50 <| tab_nil
theorem ct36t0_50 (l : List AV) (h : List ABlk) : ct36t0 50 l h = edC body50 l h := rfl
noncomputable def ct36t1 : Ct := tab [(44, pureC body44)]
theorem ct36t1_ok : CtOk Try.prog ct36t1 := tab_cons ok44 <| tab_nil
theorem ct36t1_44 (l : List AV) (h : List ABlk) : ct36t1 44 l h = pureC body44 l h := rfl
noncomputable def ct36t2 : Ct := tab [(79, mapC M79)]
theorem ct36t2_ok : CtOk Try.prog ct36t2 := tab_cons ok79 <| tab_nil
theorem ct36t2_79 (l : List AV) (h : List ABlk) : ct36t2 79 l h = mapC M79 l h := rfl
noncomputable def ct36t3 : Ct := tab [(104, pureC body104_0)]
theorem ct36t3_ok : CtOk Try.prog ct36t3 := tab_cons ok104_0 <| tab_nil
theorem ct36t3_104 (l : List AV) (h : List ABlk) : ct36t3 104 l h = pureC body104_0 l h := rfl
noncomputable def ct36t4 : Ct := tab [(105, edC body105_0)]
theorem ct36t4_ok : CtOk Try.prog ct36t4 := tab_cons ok105_0 <| tab_nil
theorem ct36t4_105 (l : List AV) (h : List ABlk) : ct36t4 105 l h = edC body105_0 l h := rfl
noncomputable def ct36t5 : Ct := tab [(106, pureC body106_0)]
theorem ct36t5_ok : CtOk Try.prog ct36t5 := tab_cons ok106_0 <| tab_nil
theorem ct36t5_106 (l : List AV) (h : List ABlk) : ct36t5 106 l h = pureC body106_0 l h := rfl
noncomputable def ct36t6 : Ct := tab [(107, edC body107_0)]
theorem ct36t6_ok : CtOk Try.prog ct36t6 := tab_cons ok107_0 <| tab_nil
theorem ct36t6_107 (l : List AV) (h : List ABlk) : ct36t6 107 l h = edC body107_0 l h := rfl
noncomputable def ct36t7 : Ct := tab [(108, pureC body108_0)]
theorem ct36t7_ok : CtOk Try.prog ct36t7 := tab_cons ok108_0 <| tab_nil
theorem ct36t7_108 (l : List AV) (h : List ABlk) : ct36t7 108 l h = pureC body108_0 l h := rfl
noncomputable def ct36t8 : Ct := tab [(109, edC body109_0)]
theorem ct36t8_ok : CtOk Try.prog ct36t8 := tab_cons ok109_0 <| tab_nil
theorem ct36t8_109 (l : List AV) (h : List ABlk) : ct36t8 109 l h = edC body109_0 l h := rfl
noncomputable def F36 (p0 : TRegulate) (p1 : TRegulateWord) (p2 : Int) (p3 : Int) : Option (TRegulate × (List TRegulateWord) × Int) :=
  (F50 p0 p3 p2).bind fun r1 => bif r1.1.isSome then (bif (!bEq r1.2 0) then (some ((TRegulate.mk [] 0 false 0 false false 0 0 [] []), [], r1.2)) else ((F44 p1).bind fun r4 => bif (!r4) then (some ((TRegulate.mk [] 0 false 0 false false 0 0 [] []), [], 8)) else (bif bEq p1.Kind 1 then (need (bif (!(!bEq p1.Channel ((gt r1.1).Channel))) then ((F104_0 ((gt r1.1).Lead) p1 p3).isSome) else true) <| bif ((!bEq p1.Channel ((gt r1.1).Channel)) || (!(gt (F104_0 ((gt r1.1).Lead) p1 p3)))) then (some ((TRegulate.mk [] 0 false 0 false false 0 0 [] []), [], 21)) else ((F105_0 (TRegulate.mk ((gt r1.1).Table) ((gt r1.1).Channel) ((gt r1.1).Lead) ((gt r1.1).Heard) ((gt r1.1).Stopped) ((gt r1.1).Moving) ((gt r1.1).To) ((gt r1.1).At) ((gt r1.1).Blocked) ((gt r1.1).Clear)) p1 p2 p3).bind fun r8 => bif (!bEq r8.2.1 0) then (some ((TRegulate.mk [] 0 false 0 false false 0 0 [] []), [], r8.2.1)) else (some ((TRegulate.mk r8.2.2.Table r8.2.2.Channel r8.2.2.Lead r8.2.2.Heard r8.2.2.Stopped r8.2.2.Moving r8.2.2.To r8.2.2.At r8.2.2.Blocked r8.2.2.Clear), r8.1, 0)))) else (bif bEq p1.Kind 2 then (need (bif (!(!bEq p1.Channel ((gt r1.1).Channel))) then ((F106_0 ((gt r1.1).Lead) ((gt r1.1).Stopped) p1 p3).isSome) else true) <| bif ((!bEq p1.Channel ((gt r1.1).Channel)) || (!(gt (F106_0 ((gt r1.1).Lead) ((gt r1.1).Stopped) p1 p3)))) then (some ((TRegulate.mk [] 0 false 0 false false 0 0 [] []), [], 21)) else ((F107_0 (TRegulate.mk ((gt r1.1).Table) ((gt r1.1).Channel) ((gt r1.1).Lead) ((gt r1.1).Heard) ((gt r1.1).Stopped) ((gt r1.1).Moving) ((gt r1.1).To) ((gt r1.1).At) ((gt r1.1).Blocked) ((gt r1.1).Clear)) p1 p2 p3).bind fun r12 => bif (!bEq r12.2.1 0) then (some ((TRegulate.mk [] 0 false 0 false false 0 0 [] []), [], r12.2.1)) else (some ((TRegulate.mk r12.2.2.Table r12.2.2.Channel r12.2.2.Lead r12.2.2.Heard r12.2.2.Stopped r12.2.2.Moving r12.2.2.To r12.2.2.At r12.2.2.Blocked r12.2.2.Clear), r12.1, 0)))) else (bif bEq p1.Kind 3 then (need (bif (!(!bEq p1.Channel ((gt r1.1).Channel))) then ((F108_0 ((gt r1.1).Lead) ((gt r1.1).Heard) ((gt r1.1).Stopped) p1 p3).isSome) else true) <| bif ((!bEq p1.Channel ((gt r1.1).Channel)) || (!(gt (F108_0 ((gt r1.1).Lead) ((gt r1.1).Heard) ((gt r1.1).Stopped) p1 p3)))) then (some ((TRegulate.mk [] 0 false 0 false false 0 0 [] []), [], 21)) else ((F109_0 (TRegulate.mk ((gt r1.1).Table) ((gt r1.1).Channel) ((gt r1.1).Lead) ((gt r1.1).Heard) ((gt r1.1).Stopped) ((gt r1.1).Moving) ((gt r1.1).To) ((gt r1.1).At) ((gt r1.1).Blocked) ((gt r1.1).Clear)) p1 p2 p3).bind fun r16 => bif (!bEq r16.2.1 0) then (some ((TRegulate.mk [] 0 false 0 false false 0 0 [] []), [], r16.2.1)) else (some ((TRegulate.mk r16.2.2.Table r16.2.2.Channel r16.2.2.Lead r16.2.2.Heard r16.2.2.Stopped r16.2.2.Moving r16.2.2.To r16.2.2.At r16.2.2.Blocked r16.2.2.Clear), r16.1, 0)))) else (none)))))) else (bif (!bEq r1.2 0) then (some ((TRegulate.mk [] 0 false 0 false false 0 0 [] []), [], r1.2)) else ((F44 p1).bind fun r18 => bif (!r18) then (some ((TRegulate.mk [] 0 false 0 false false 0 0 [] []), [], 8)) else (bif bEq p1.Kind 1 then (none) else (bif bEq p1.Kind 2 then (none) else (bif bEq p1.Kind 3 then (none) else (none))))))
noncomputable def body36 : List AV -> List ABlk -> ED
  | [v0, v1, v2, v3], h => .ed [] (aK 10 k_TRegulate (roD (deadL h []) v0) /\ roDOb (deadL h []) v0 /\ aK 4 k_TRegulateWord (roD (deadL h []) v1) /\ roDOb (deadL h []) v1 /\ iK .i64 (roD (deadL h []) v2) /\ roDOb (deadL h []) v2 /\ iK .i64 (roD (deadL h []) v3) /\ roDOb (deadL h []) v3 /\ (F36 (g_TRegulate (aL (roD (deadL h []) v0))) (g_TRegulateWord (aL (roD (deadL h []) v1))) (iA (roD (deadL h []) v2)) (iA (roD (deadL h []) v3))).isSome = true) (.tup [.agg [.sl 0 3 0 ((((gt (F36 (g_TRegulate (aL (roD (deadL h []) v0))) (g_TRegulateWord (aL (roD (deadL h []) v1))) (iA (roD (deadL h []) v2)) (iA (roD (deadL h []) v3)))).1).Table).length) false, .int .i64 (((gt (F36 (g_TRegulate (aL (roD (deadL h []) v0))) (g_TRegulateWord (aL (roD (deadL h []) v1))) (iA (roD (deadL h []) v2)) (iA (roD (deadL h []) v3)))).1).Channel), .bool (((gt (F36 (g_TRegulate (aL (roD (deadL h []) v0))) (g_TRegulateWord (aL (roD (deadL h []) v1))) (iA (roD (deadL h []) v2)) (iA (roD (deadL h []) v3)))).1).Lead), .int .i64 (((gt (F36 (g_TRegulate (aL (roD (deadL h []) v0))) (g_TRegulateWord (aL (roD (deadL h []) v1))) (iA (roD (deadL h []) v2)) (iA (roD (deadL h []) v3)))).1).Heard), .bool (((gt (F36 (g_TRegulate (aL (roD (deadL h []) v0))) (g_TRegulateWord (aL (roD (deadL h []) v1))) (iA (roD (deadL h []) v2)) (iA (roD (deadL h []) v3)))).1).Stopped), .bool (((gt (F36 (g_TRegulate (aL (roD (deadL h []) v0))) (g_TRegulateWord (aL (roD (deadL h []) v1))) (iA (roD (deadL h []) v2)) (iA (roD (deadL h []) v3)))).1).Moving), .int .i64 (((gt (F36 (g_TRegulate (aL (roD (deadL h []) v0))) (g_TRegulateWord (aL (roD (deadL h []) v1))) (iA (roD (deadL h []) v2)) (iA (roD (deadL h []) v3)))).1).To), .int .i64 (((gt (F36 (g_TRegulate (aL (roD (deadL h []) v0))) (g_TRegulateWord (aL (roD (deadL h []) v1))) (iA (roD (deadL h []) v2)) (iA (roD (deadL h []) v3)))).1).At), .sl 1 2 0 ((((gt (F36 (g_TRegulate (aL (roD (deadL h []) v0))) (g_TRegulateWord (aL (roD (deadL h []) v1))) (iA (roD (deadL h []) v2)) (iA (roD (deadL h []) v3)))).1).Blocked).length) false, .sl 2 1 0 ((((gt (F36 (g_TRegulate (aL (roD (deadL h []) v0))) (g_TRegulateWord (aL (roD (deadL h []) v1))) (iA (roD (deadL h []) v2)) (iA (roD (deadL h []) v3)))).1).Clear).length) false], .sl 3 4 0 (((gt (F36 (g_TRegulate (aL (roD (deadL h []) v0))) (g_TRegulateWord (aL (roD (deadL h []) v1))) (iA (roD (deadL h []) v2)) (iA (roD (deadL h []) v3)))).2.1).length) false, .int .i64 ((gt (F36 (g_TRegulate (aL (roD (deadL h []) v0))) (g_TRegulateWord (aL (roD (deadL h []) v1))) (iA (roD (deadL h []) v2)) (iA (roD (deadL h []) v3)))).2.2)]) [.row 45 3 ((((gt (F36 (g_TRegulate (aL (roD (deadL h []) v0))) (g_TRegulateWord (aL (roD (deadL h []) v1))) (iA (roD (deadL h []) v2)) (iA (roD (deadL h []) v3)))).1).Table).length) (enR c_TRegulateChannel (((gt (F36 (g_TRegulate (aL (roD (deadL h []) v0))) (g_TRegulateWord (aL (roD (deadL h []) v1))) (iA (roD (deadL h []) v2)) (iA (roD (deadL h []) v3)))).1).Table)), .row 79 2 ((((gt (F36 (g_TRegulate (aL (roD (deadL h []) v0))) (g_TRegulateWord (aL (roD (deadL h []) v1))) (iA (roD (deadL h []) v2)) (iA (roD (deadL h []) v3)))).1).Blocked).length) (enR c_TRegulateBlock (((gt (F36 (g_TRegulate (aL (roD (deadL h []) v0))) (g_TRegulateWord (aL (roD (deadL h []) v1))) (iA (roD (deadL h []) v2)) (iA (roD (deadL h []) v3)))).1).Blocked)), .row 3 1 ((((gt (F36 (g_TRegulate (aL (roD (deadL h []) v0))) (g_TRegulateWord (aL (roD (deadL h []) v1))) (iA (roD (deadL h []) v2)) (iA (roD (deadL h []) v3)))).1).Clear).length) (enR c_i64 (((gt (F36 (g_TRegulate (aL (roD (deadL h []) v0))) (g_TRegulateWord (aL (roD (deadL h []) v1))) (iA (roD (deadL h []) v2)) (iA (roD (deadL h []) v3)))).1).Clear)), .row 23 4 (((gt (F36 (g_TRegulate (aL (roD (deadL h []) v0))) (g_TRegulateWord (aL (roD (deadL h []) v1))) (iA (roD (deadL h []) v2)) (iA (roD (deadL h []) v3)))).2.1).length) (enR c_TRegulateWord ((gt (F36 (g_TRegulate (aL (roD (deadL h []) v0))) (g_TRegulateWord (aL (roD (deadL h []) v1))) (iA (roD (deadL h []) v2)) (iA (roD (deadL h []) v3)))).2.1))]
  | _, _ => .fail
set_option maxHeartbeats 4000000 in
set_option maxRecDepth 20000 in
theorem ok36 : FnOk Try.prog 36 (edC body36) := by
  refine edit_fnV body36 (rs := [.cell 8 39, .tmp 9, .tmp 10]) Try.func36 (by kernel_rfl) rfl rfl ?_
  intro l h bs ob q0 g0 hb hob
  unfold body36 at hb
  split at hb
  · rename_i v0 v1 v2 v3
    injection hb with q1 q2 q3 q4; subst q1 q2 q3 q4
    obtain ⟨hk0_0, hk0_1, hk1_0, hk1_1, hk2_0, hk2_1, hk3_0, hk3_1, hob⟩ := hob
    obtain ⟨r, H⟩ := Option.isSome_iff_exists.1 hob
    rw [H, gt_some]
    have hw0 := wA_TRegulate hk0_0
    obtain ⟨p0, hp_p0⟩ : ∃ p0, p0 = g_TRegulate (aL (roD (deadL h []) v0)) := ⟨_, rfl⟩
    rw [← hp_p0] at H hw0
    have hw1 := wA_TRegulateWord hk1_0
    obtain ⟨p1, hp_p1⟩ : ∃ p1, p1 = g_TRegulateWord (aL (roD (deadL h []) v1)) := ⟨_, rfl⟩
    rw [← hp_p1] at H hw1
    have hw2 := iK_wk hk2_0
    obtain ⟨p2, hp_p2⟩ : ∃ p2, p2 = iA (roD (deadL h []) v2) := ⟨_, rfl⟩
    rw [← hp_p2] at H hw2
    have hw3 := iK_wk hk3_0
    obtain ⟨p3, hp_p3⟩ : ∃ p3, p3 = iA (roD (deadL h []) v3) := ⟨_, rfl⟩
    rw [← hp_p3] at H hw3
    refine ⟨[.agg [.ro 3 p0.Table.length false (enR c_TRegulateChannel p0.Table), .int .i64 p0.Channel, .bool p0.Lead, .int .i64 p0.Heard, .bool p0.Stopped, .bool p0.Moving, .int .i64 p0.To, .int .i64 p0.At, .ro 2 p0.Blocked.length false (enR c_TRegulateBlock p0.Blocked), .ro 1 p0.Clear.length false (enR c_i64 p0.Clear)], .agg [.int .u8 p1.Kind, .int .i64 p1.Channel, .int .i64 p1.To, .int .i64 p1.At], .int .i64 p2, .int .i64 p3], [], rfl, ⟨(EW_view hk0_1 hw0), ⟨(EW_view hk1_1 hw1), ⟨(EW_view hk2_1 hw2), ⟨(EW_view hk3_1 hw3), trivial⟩⟩⟩⟩, trivial, trivial, ⟨(nfB_en nr_TRegulateChannel), ⟨(nfB_en nr_TRegulateBlock), ⟨(nfB_en nr_i64), ⟨(nfB_en nr_TRegulateWord), trivial⟩⟩⟩⟩, ⟨noroB_en, ⟨noroB_en, ⟨noroB_en, ⟨noroB_en, trivial⟩⟩⟩⟩, (by first | (simp only [noro, noroL, and_self]; done) | (simp only [noro, noroL]; and_intros <;> first | trivial | exact noro_bif (by simp only [noro]) (by simp only [noro]) | (simp only [noro, noroL, and_self]))), ?_⟩
    rw [Try.ntmps36]
    simp only [List.length_cons, List.length_nil, Nat.reduceAdd, Nat.reduceSub, List.replicate_succ, List.replicate_zero, List.cons_append, List.nil_append]
    unfold F36 at H
    try dsimp only at H
    refine sq ctNo_ok ?_
    simp only [go_sem, Nat.reduceAdd]
    refine seqM ?_
    obtain ⟨r1, e2, H⟩ := bsi H
    refine rg ct36t0_ok ?_
    simp only [go_sem, Nat.reduceLT, Nat.reduceAdd, ct36t0_50, body50, e2]
    repeat ((with_reducible refine And.intro ?_ ?_); focus (first | (and_intros <;> first | (with_reducible trivial) | omega | assumption | exact nfc | first | exact rfl | exact trivial | exact fitI | exact .inr rfl | exact .inl rfl | exact fun x hx => absurd hx (by omega)) | grind))
    refine bif_split (c := r1.1.isSome) (fun hq3 => ?_) (fun hq3 => ?_)
    · replace H := cond_t hq3 H
      simp only [go_sem, Nat.reduceAdd, hq3, cond_true, rnm, rnmL, rhoN]
      refine seqM ?_
      refine sq ctNo_ok ?_
      simp only [go_sem]
      refine condM rfl trivial (fun hc => ?_) (fun hc => ?_)
      · replace H := cond_t hc H
        refine sq ctNo_ok ?_
        simp only [go_sem, Nat.reduceLT, Nat.reduceAdd]
        repeat ((with_reducible refine And.intro ?_ ?_); focus (first | (with_reducible trivial) | omega | grind))
        refine rg ctNo_ok ?_
        simp only [go_sem, Nat.reduceLT, Nat.reduceAdd]
        obtain rfl := Option.some.inj H
        refine RetE_mk [] [none, none, none, none] ?_ ?_ ?_ ?_ (by rfl) (by rfl)
        · simp only [go_sem]
          try (and_intros <;> first | (with_reducible trivial) | omega | exact nfc | trivial)
        · simp only [go_sem]
          try (and_intros <;> first | (with_reducible trivial) | omega | exact nfc | trivial)
        · simp only [go_sem]
          exact Cv_tup (CvL_cons (by first | (simp [Cv, CvL]; done) | (simp [Cv, CvL, getM, gt_some]; omega)) (CvL_cons (by first | (simp [Cv]; done) | (simp [Cv, CvL, getM, gt_some]; omega)) (CvL_cons (by simp [Cv]) CvL_nil)))
        · simp only [go_sem, CvH]
          first | exact ⟨CvB_none, CvB_none, CvB_none, CvB_none⟩ | trivial
      replace H := cond_f hc H
      refine rg ctNo_ok ?_
      simp only [go_sem]
      refine seqM ?_
      refine seqM ?_
      obtain ⟨r4, e5, H⟩ := bsi H
      refine rg ct36t1_ok ?_
      simp only [go_sem, Nat.reduceLT, Nat.reduceAdd, ct36t1_44, body44, e5]
      repeat ((with_reducible refine And.intro ?_ ?_); focus (first | (and_intros <;> first | (with_reducible trivial) | omega | assumption | exact nfc | first | exact rfl | exact trivial | exact fitI | exact .inr rfl | exact .inl rfl | exact fun x hx => absurd hx (by omega)) | grind))
      refine condM rfl trivial (fun hc => ?_) (fun hc => ?_)
      · replace H := cond_t hc H
        refine sq ctNo_ok ?_
        simp only [go_sem, Nat.reduceLT, Nat.reduceAdd]
        repeat ((with_reducible refine And.intro ?_ ?_); focus (first | (with_reducible trivial) | omega | grind))
        refine rg ctNo_ok ?_
        simp only [go_sem, Nat.reduceLT, Nat.reduceAdd]
        obtain rfl := Option.some.inj H
        refine RetE_mk [] [none, none, none, none] ?_ ?_ ?_ ?_ (by rfl) (by rfl)
        · simp only [go_sem]
          try (and_intros <;> first | (with_reducible trivial) | omega | exact nfc | trivial)
        · simp only [go_sem]
          try (and_intros <;> first | (with_reducible trivial) | omega | exact nfc | trivial)
        · simp only [go_sem]
          exact Cv_tup (CvL_cons (by first | (simp [Cv, CvL]; done) | (simp [Cv, CvL, getM, gt_some]; omega)) (CvL_cons (by first | (simp [Cv]; done) | (simp [Cv, CvL, getM, gt_some]; omega)) (CvL_cons (by simp [Cv]) CvL_nil)))
        · simp only [go_sem, CvH]
          first | exact ⟨CvB_none, CvB_none, CvB_none, CvB_none⟩ | trivial
      replace H := cond_f hc H
      refine rg ctNo_ok ?_
      simp only [go_sem]
      refine seqM ?_
      refine bif_split (c := bEq p1.Kind 1) (fun hg6 => ?_) (fun hg6 => ?_)
      · replace H := cond_t hg6 H
        refine draw_rule shT_ok ct36t2_ok 1 (by kernel_rfl) (by kernel_rfl) ?_
        intro an han
        simp only [d_nil, d_cons, nxtD, xrD, xoD, roEq, minL, List.append_nil, refsOp, refs, refsL, mask, maskF, place, placeF, okLog, pairOk, hit, inL, slotsF, ren, rnN, nrH, nrB, nrL, nr, List.replicate_zero, List.replicate_succ, Nat.sub_self, Nat.add_zero, Nat.zero_add, Nat.reduceSub, Nat.lt_add_one, go_sem, Nat.reduceLeDiff, Nat.reduceLT, Nat.reduceAdd, Nat.reduceSub, Nat.reduceBEq, ct36t2_79, lk79, has79, hg6]
        repeat ((with_reducible refine And.intro ?_ ?_); focus (and_intros <;> first | (with_reducible trivial) | (show anB _ _ _ = true; subst han; kernel_rfl) | (show (anB _ _ _ && _) = true; subst han; kernel_rfl) | omega | assumption | exact nrc | exact nfc | first | exact rfl | exact trivial | exact fitI | exact .inr rfl | exact .inl rfl | exact fun x hx => absurd hx (by omega)))
        refine seqM ?_
        refine seqM ?_
        obtain ⟨f7, H⟩ := need_some.1 H
        replace f7 := g_iff.1 f7
        refine draw_quiet shT_ok ct36t3_ok (by kernel_rfl) (by kernel_rfl) ?_
        simp only [go_sem, Nat.reduceLeDiff, Nat.reduceLT, Nat.reduceAdd, ct36t3_104, body104_0]
        repeat ((with_reducible refine And.intro ?_ ?_); focus (first | (with_reducible trivial) | omega | exact f7 | (intro g; have q := f7 (by first | exact g | (rw [g]; rfl) | simpa using g); first | exact q | exact ⟨q.1, q.2.1⟩ | exact q.2.2 | omega | exact ⟨g, q⟩ | exact ⟨trivial, q⟩ | exact ⟨g, q.1, q.2.1⟩ | exact ⟨g, q.2.2⟩) | (intro g; (try have q0 := f7 (by first | exact g | (rw [g]; rfl) | simpa using g)); and_intros <;> first | (with_reducible trivial) | assumption | exact nfc | (intro g2; rw [g, g2]; rfl) | (intro g2; assumption) | (simp only [g, Bool.true_and, Bool.and_true, Bool.not_false, Bool.not_true]; assumption) | grind) | (and_intros <;> first | (with_reducible trivial) | omega | assumption | exact nfc | first | exact rfl | exact trivial | exact fitI | exact .inr rfl | exact .inl rfl | exact fun x hx => absurd hx (by omega)) | grind))
        refine condM rfl trivial (fun hc => ?_) (fun hc => ?_)
        · replace H := cond_t hc H
          refine sq ctNo_ok ?_
          simp only [go_sem, Nat.reduceLT, Nat.reduceAdd]
          repeat ((with_reducible refine And.intro ?_ ?_); focus (first | (with_reducible trivial) | omega | grind))
          refine rg ctNo_ok ?_
          simp only [go_sem, Nat.reduceLT, Nat.reduceAdd]
          obtain rfl := Option.some.inj H
          refine RetE_mk [] [none, none, none, none] ?_ ?_ ?_ ?_ (by rfl) (by rfl)
          · simp only [go_sem]
            try (and_intros <;> first | (with_reducible trivial) | omega | exact nfc | trivial)
          · simp only [go_sem]
            try (and_intros <;> first | (with_reducible trivial) | omega | exact nfc | trivial)
          · simp only [go_sem]
            exact Cv_tup (CvL_cons (by first | (simp [Cv, CvL]; done) | (simp [Cv, CvL, getM, gt_some]; omega)) (CvL_cons (by first | (simp [Cv]; done) | (simp [Cv, CvL, getM, gt_some]; omega)) (CvL_cons (by simp [Cv]) CvL_nil)))
          · simp only [go_sem, CvH]
            first | exact ⟨CvB_none, CvB_none, CvB_none, CvB_none⟩ | trivial
        replace H := cond_f hc H
        refine rg ctNo_ok ?_
        simp only [go_sem]
        refine seqM ?_
        refine seqM ?_
        obtain ⟨r8, e9, H⟩ := bsi H
        refine rg ct36t4_ok ?_
        simp only [go_sem, Nat.reduceLT, Nat.reduceAdd, Nat.reduceBEq, ct36t4_105, body105_0, e9]
        repeat ((with_reducible refine And.intro ?_ ?_); focus (first | (and_intros <;> first | (with_reducible trivial) | omega | assumption | exact nfc | first | exact rfl | exact trivial | exact fitI | exact .inr rfl | exact .inl rfl | exact fun x hx => absurd hx (by omega)) | grind))
        refine sq ctNo_ok ?_
        simp only [go_sem]
        refine condM rfl trivial (fun hc => ?_) (fun hc => ?_)
        · replace H := cond_t hc H
          refine sq ctNo_ok ?_
          simp only [go_sem, Nat.reduceLT, Nat.reduceAdd]
          repeat ((with_reducible refine And.intro ?_ ?_); focus (first | (with_reducible trivial) | omega | grind))
          refine rg ctNo_ok ?_
          simp only [go_sem, Nat.reduceLT, Nat.reduceAdd]
          obtain rfl := Option.some.inj H
          refine RetE_mk [] [none, none, none, none] ?_ ?_ ?_ ?_ (by rfl) (by rfl)
          · simp only [go_sem]
            try (and_intros <;> first | (with_reducible trivial) | omega | exact nfc | trivial)
          · simp only [go_sem]
            try (and_intros <;> first | (with_reducible trivial) | omega | exact nfc | trivial)
          · simp only [go_sem]
            exact Cv_tup (CvL_cons (by first | (simp [Cv, CvL]; done) | (simp [Cv, CvL, getM, gt_some]; omega)) (CvL_cons (by first | (simp [Cv]; done) | (simp [Cv, CvL, getM, gt_some]; omega)) (CvL_cons (by simp [Cv]) CvL_nil)))
          · simp only [go_sem, CvH]
            first | exact ⟨CvB_none, CvB_none, CvB_none, CvB_none⟩ | trivial
        replace H := cond_f hc H
        refine rg ctNo_ok ?_
        simp only [go_sem]
        refine sq ctNo_ok ?_
        simp only [go_sem, Nat.reduceLT, Nat.reduceAdd]
        repeat ((with_reducible refine And.intro ?_ ?_); focus (first | (with_reducible trivial) | omega | grind))
        refine rg ctNo_ok ?_
        simp only [go_sem, Nat.reduceLT, Nat.reduceAdd]
        obtain rfl := Option.some.inj H
        refine RetE_mk [] [some 8, some 9, some 10, some 11] ?_ ?_ ?_ ?_ (by rfl) (by rfl)
        · simp only [go_sem]
          try (and_intros <;> first | (with_reducible trivial) | omega | exact nfc | trivial)
        · simp only [go_sem]
          try (and_intros <;> first | (with_reducible trivial) | omega | exact nfc | trivial)
        · simp only [go_sem]
          exact Cv_tup (CvL_cons (by first | (simp [Cv, CvL, getM]; done) | (simp [Cv, CvL, getM, gt_some]; omega)) (CvL_cons (by first | (simp [Cv, getM]; done) | (simp [Cv, CvL, getM, gt_some]; omega)) (CvL_cons (by simp [Cv]) CvL_nil)))
        · simp only [go_sem, CvH]
          first | exact ⟨CvB_row nr_TRegulateChannel (by first | rfl | (simp; done) | (simp; omega)) (fun _ _ _ _ => rfl), CvB_row nr_TRegulateBlock (by first | rfl | (simp; done) | (simp; omega)) (fun _ _ _ _ => rfl), CvB_row nr_i64 (by first | rfl | (simp; done) | (simp; omega)) (fun _ _ _ _ => rfl), CvB_row nr_TRegulateWord (by first | rfl | (simp; done) | (simp; omega)) (fun _ _ _ _ => rfl)⟩ | trivial
      replace H := cond_f hg6 H
      refine bif_split (c := bEq p1.Kind 2) (fun hg10 => ?_) (fun hg10 => ?_)
      · replace H := cond_t hg10 H
        refine draw_rule shT_ok ct36t2_ok 1 (by kernel_rfl) (by kernel_rfl) ?_
        intro an han
        simp only [d_nil, d_cons, nxtD, xrD, xoD, roEq, minL, List.append_nil, refsOp, refs, refsL, mask, maskF, place, placeF, okLog, pairOk, hit, inL, slotsF, ren, rnN, nrH, nrB, nrL, nr, List.replicate_zero, List.replicate_succ, Nat.sub_self, Nat.add_zero, Nat.zero_add, Nat.reduceSub, Nat.lt_add_one, go_sem, Nat.reduceLeDiff, Nat.reduceLT, Nat.reduceAdd, Nat.reduceSub, Nat.reduceBEq, ct36t2_79, lk79, has79, hg6, hg10]
        repeat ((with_reducible refine And.intro ?_ ?_); focus (and_intros <;> first | (with_reducible trivial) | (show anB _ _ _ = true; subst han; kernel_rfl) | (show (anB _ _ _ && _) = true; subst han; kernel_rfl) | omega | assumption | exact nrc | exact nfc | first | exact rfl | exact trivial | exact fitI | exact .inr rfl | exact .inl rfl | exact fun x hx => absurd hx (by omega)))
        refine seqM ?_
        refine seqM ?_
        obtain ⟨f11, H⟩ := need_some.1 H
        replace f11 := g_iff.1 f11
        refine draw_quiet shT_ok ct36t5_ok (by kernel_rfl) (by kernel_rfl) ?_
        simp only [go_sem, Nat.reduceLeDiff, Nat.reduceLT, Nat.reduceAdd, ct36t5_106, body106_0]
        repeat ((with_reducible refine And.intro ?_ ?_); focus (first | (with_reducible trivial) | omega | exact f11 | (intro g; have q := f11 (by first | exact g | (rw [g]; rfl) | simpa using g); first | exact q | exact ⟨q.1, q.2.1⟩ | exact q.2.2 | omega | exact ⟨g, q⟩ | exact ⟨trivial, q⟩ | exact ⟨g, q.1, q.2.1⟩ | exact ⟨g, q.2.2⟩) | (intro g; (try have q0 := f11 (by first | exact g | (rw [g]; rfl) | simpa using g)); and_intros <;> first | (with_reducible trivial) | assumption | exact nfc | (intro g2; rw [g, g2]; rfl) | (intro g2; assumption) | (simp only [g, Bool.true_and, Bool.and_true, Bool.not_false, Bool.not_true]; assumption) | grind) | (and_intros <;> first | (with_reducible trivial) | omega | assumption | exact nfc | first | exact rfl | exact trivial | exact fitI | exact .inr rfl | exact .inl rfl | exact fun x hx => absurd hx (by omega)) | grind))
        refine condM rfl trivial (fun hc => ?_) (fun hc => ?_)
        · replace H := cond_t hc H
          refine sq ctNo_ok ?_
          simp only [go_sem, Nat.reduceLT, Nat.reduceAdd]
          repeat ((with_reducible refine And.intro ?_ ?_); focus (first | (with_reducible trivial) | omega | grind))
          refine rg ctNo_ok ?_
          simp only [go_sem, Nat.reduceLT, Nat.reduceAdd]
          obtain rfl := Option.some.inj H
          refine RetE_mk [] [none, none, none, none] ?_ ?_ ?_ ?_ (by rfl) (by rfl)
          · simp only [go_sem]
            try (and_intros <;> first | (with_reducible trivial) | omega | exact nfc | trivial)
          · simp only [go_sem]
            try (and_intros <;> first | (with_reducible trivial) | omega | exact nfc | trivial)
          · simp only [go_sem]
            exact Cv_tup (CvL_cons (by first | (simp [Cv, CvL]; done) | (simp [Cv, CvL, getM, gt_some]; omega)) (CvL_cons (by first | (simp [Cv]; done) | (simp [Cv, CvL, getM, gt_some]; omega)) (CvL_cons (by simp [Cv]) CvL_nil)))
          · simp only [go_sem, CvH]
            first | exact ⟨CvB_none, CvB_none, CvB_none, CvB_none⟩ | trivial
        replace H := cond_f hc H
        refine rg ctNo_ok ?_
        simp only [go_sem]
        refine seqM ?_
        refine seqM ?_
        obtain ⟨r12, e13, H⟩ := bsi H
        refine rg ct36t6_ok ?_
        simp only [go_sem, Nat.reduceLT, Nat.reduceAdd, Nat.reduceBEq, ct36t6_107, body107_0, e13]
        repeat ((with_reducible refine And.intro ?_ ?_); focus (first | (and_intros <;> first | (with_reducible trivial) | omega | assumption | exact nfc | first | exact rfl | exact trivial | exact fitI | exact .inr rfl | exact .inl rfl | exact fun x hx => absurd hx (by omega)) | grind))
        refine sq ctNo_ok ?_
        simp only [go_sem]
        refine condM rfl trivial (fun hc => ?_) (fun hc => ?_)
        · replace H := cond_t hc H
          refine sq ctNo_ok ?_
          simp only [go_sem, Nat.reduceLT, Nat.reduceAdd]
          repeat ((with_reducible refine And.intro ?_ ?_); focus (first | (with_reducible trivial) | omega | grind))
          refine rg ctNo_ok ?_
          simp only [go_sem, Nat.reduceLT, Nat.reduceAdd]
          obtain rfl := Option.some.inj H
          refine RetE_mk [] [none, none, none, none] ?_ ?_ ?_ ?_ (by rfl) (by rfl)
          · simp only [go_sem]
            try (and_intros <;> first | (with_reducible trivial) | omega | exact nfc | trivial)
          · simp only [go_sem]
            try (and_intros <;> first | (with_reducible trivial) | omega | exact nfc | trivial)
          · simp only [go_sem]
            exact Cv_tup (CvL_cons (by first | (simp [Cv, CvL]; done) | (simp [Cv, CvL, getM, gt_some]; omega)) (CvL_cons (by first | (simp [Cv]; done) | (simp [Cv, CvL, getM, gt_some]; omega)) (CvL_cons (by simp [Cv]) CvL_nil)))
          · simp only [go_sem, CvH]
            first | exact ⟨CvB_none, CvB_none, CvB_none, CvB_none⟩ | trivial
        replace H := cond_f hc H
        refine rg ctNo_ok ?_
        simp only [go_sem]
        refine sq ctNo_ok ?_
        simp only [go_sem, Nat.reduceLT, Nat.reduceAdd]
        repeat ((with_reducible refine And.intro ?_ ?_); focus (first | (with_reducible trivial) | omega | grind))
        refine rg ctNo_ok ?_
        simp only [go_sem, Nat.reduceLT, Nat.reduceAdd]
        obtain rfl := Option.some.inj H
        refine RetE_mk [] [some 8, some 9, some 10, some 11] ?_ ?_ ?_ ?_ (by rfl) (by rfl)
        · simp only [go_sem]
          try (and_intros <;> first | (with_reducible trivial) | omega | exact nfc | trivial)
        · simp only [go_sem]
          try (and_intros <;> first | (with_reducible trivial) | omega | exact nfc | trivial)
        · simp only [go_sem]
          exact Cv_tup (CvL_cons (by first | (simp [Cv, CvL, getM]; done) | (simp [Cv, CvL, getM, gt_some]; omega)) (CvL_cons (by first | (simp [Cv, getM]; done) | (simp [Cv, CvL, getM, gt_some]; omega)) (CvL_cons (by simp [Cv]) CvL_nil)))
        · simp only [go_sem, CvH]
          first | exact ⟨CvB_row nr_TRegulateChannel (by first | rfl | (simp; done) | (simp; omega)) (fun _ _ _ _ => rfl), CvB_row nr_TRegulateBlock (by first | rfl | (simp; done) | (simp; omega)) (fun _ _ _ _ => rfl), CvB_row nr_i64 (by first | rfl | (simp; done) | (simp; omega)) (fun _ _ _ _ => rfl), CvB_row nr_TRegulateWord (by first | rfl | (simp; done) | (simp; omega)) (fun _ _ _ _ => rfl)⟩ | trivial
      replace H := cond_f hg10 H
      refine bif_split (c := bEq p1.Kind 3) (fun hg14 => ?_) (fun hg14 => ?_)
      · replace H := cond_t hg14 H
        refine draw_rule shT_ok ct36t2_ok 1 (by kernel_rfl) (by kernel_rfl) ?_
        intro an han
        simp only [d_nil, d_cons, nxtD, xrD, xoD, roEq, minL, List.append_nil, refsOp, refs, refsL, mask, maskF, place, placeF, okLog, pairOk, hit, inL, slotsF, ren, rnN, nrH, nrB, nrL, nr, List.replicate_zero, List.replicate_succ, Nat.sub_self, Nat.add_zero, Nat.zero_add, Nat.reduceSub, Nat.lt_add_one, go_sem, Nat.reduceLeDiff, Nat.reduceLT, Nat.reduceAdd, Nat.reduceSub, Nat.reduceBEq, ct36t2_79, lk79, has79, hg6, hg10, hg14]
        repeat ((with_reducible refine And.intro ?_ ?_); focus (and_intros <;> first | (with_reducible trivial) | (show anB _ _ _ = true; subst han; kernel_rfl) | (show (anB _ _ _ && _) = true; subst han; kernel_rfl) | omega | assumption | exact nrc | exact nfc | first | exact rfl | exact trivial | exact fitI | exact .inr rfl | exact .inl rfl | exact fun x hx => absurd hx (by omega)))
        refine seqM ?_
        refine seqM ?_
        obtain ⟨f15, H⟩ := need_some.1 H
        replace f15 := g_iff.1 f15
        refine draw_quiet shT_ok ct36t7_ok (by kernel_rfl) (by kernel_rfl) ?_
        simp only [go_sem, Nat.reduceLeDiff, Nat.reduceLT, Nat.reduceAdd, ct36t7_108, body108_0]
        repeat ((with_reducible refine And.intro ?_ ?_); focus (first | (with_reducible trivial) | omega | exact f15 | (intro g; have q := f15 (by first | exact g | (rw [g]; rfl) | simpa using g); first | exact q | exact ⟨q.1, q.2.1⟩ | exact q.2.2 | omega | exact ⟨g, q⟩ | exact ⟨trivial, q⟩ | exact ⟨g, q.1, q.2.1⟩ | exact ⟨g, q.2.2⟩) | (intro g; (try have q0 := f15 (by first | exact g | (rw [g]; rfl) | simpa using g)); and_intros <;> first | (with_reducible trivial) | assumption | exact nfc | (intro g2; rw [g, g2]; rfl) | (intro g2; assumption) | (simp only [g, Bool.true_and, Bool.and_true, Bool.not_false, Bool.not_true]; assumption) | grind) | (and_intros <;> first | (with_reducible trivial) | omega | assumption | exact nfc | first | exact rfl | exact trivial | exact fitI | exact .inr rfl | exact .inl rfl | exact fun x hx => absurd hx (by omega)) | grind))
        refine condM rfl trivial (fun hc => ?_) (fun hc => ?_)
        · replace H := cond_t hc H
          refine sq ctNo_ok ?_
          simp only [go_sem, Nat.reduceLT, Nat.reduceAdd]
          repeat ((with_reducible refine And.intro ?_ ?_); focus (first | (with_reducible trivial) | omega | grind))
          refine rg ctNo_ok ?_
          simp only [go_sem, Nat.reduceLT, Nat.reduceAdd]
          obtain rfl := Option.some.inj H
          refine RetE_mk [] [none, none, none, none] ?_ ?_ ?_ ?_ (by rfl) (by rfl)
          · simp only [go_sem]
            try (and_intros <;> first | (with_reducible trivial) | omega | exact nfc | trivial)
          · simp only [go_sem]
            try (and_intros <;> first | (with_reducible trivial) | omega | exact nfc | trivial)
          · simp only [go_sem]
            exact Cv_tup (CvL_cons (by first | (simp [Cv, CvL]; done) | (simp [Cv, CvL, getM, gt_some]; omega)) (CvL_cons (by first | (simp [Cv]; done) | (simp [Cv, CvL, getM, gt_some]; omega)) (CvL_cons (by simp [Cv]) CvL_nil)))
          · simp only [go_sem, CvH]
            first | exact ⟨CvB_none, CvB_none, CvB_none, CvB_none⟩ | trivial
        replace H := cond_f hc H
        refine rg ctNo_ok ?_
        simp only [go_sem]
        refine seqM ?_
        refine seqM ?_
        obtain ⟨r16, e17, H⟩ := bsi H
        refine rg ct36t8_ok ?_
        simp only [go_sem, Nat.reduceLT, Nat.reduceAdd, Nat.reduceBEq, ct36t8_109, body109_0, e17]
        repeat ((with_reducible refine And.intro ?_ ?_); focus (first | (and_intros <;> first | (with_reducible trivial) | omega | assumption | exact nfc | first | exact rfl | exact trivial | exact fitI | exact .inr rfl | exact .inl rfl | exact fun x hx => absurd hx (by omega)) | grind))
        refine sq ctNo_ok ?_
        simp only [go_sem]
        refine condM rfl trivial (fun hc => ?_) (fun hc => ?_)
        · replace H := cond_t hc H
          refine sq ctNo_ok ?_
          simp only [go_sem, Nat.reduceLT, Nat.reduceAdd]
          repeat ((with_reducible refine And.intro ?_ ?_); focus (first | (with_reducible trivial) | omega | grind))
          refine rg ctNo_ok ?_
          simp only [go_sem, Nat.reduceLT, Nat.reduceAdd]
          obtain rfl := Option.some.inj H
          refine RetE_mk [] [none, none, none, none] ?_ ?_ ?_ ?_ (by rfl) (by rfl)
          · simp only [go_sem]
            try (and_intros <;> first | (with_reducible trivial) | omega | exact nfc | trivial)
          · simp only [go_sem]
            try (and_intros <;> first | (with_reducible trivial) | omega | exact nfc | trivial)
          · simp only [go_sem]
            exact Cv_tup (CvL_cons (by first | (simp [Cv, CvL]; done) | (simp [Cv, CvL, getM, gt_some]; omega)) (CvL_cons (by first | (simp [Cv]; done) | (simp [Cv, CvL, getM, gt_some]; omega)) (CvL_cons (by simp [Cv]) CvL_nil)))
          · simp only [go_sem, CvH]
            first | exact ⟨CvB_none, CvB_none, CvB_none, CvB_none⟩ | trivial
        replace H := cond_f hc H
        refine rg ctNo_ok ?_
        simp only [go_sem]
        refine sq ctNo_ok ?_
        simp only [go_sem, Nat.reduceLT, Nat.reduceAdd]
        repeat ((with_reducible refine And.intro ?_ ?_); focus (first | (with_reducible trivial) | omega | grind))
        refine rg ctNo_ok ?_
        simp only [go_sem, Nat.reduceLT, Nat.reduceAdd]
        obtain rfl := Option.some.inj H
        refine RetE_mk [] [some 8, some 9, some 10, some 11] ?_ ?_ ?_ ?_ (by rfl) (by rfl)
        · simp only [go_sem]
          try (and_intros <;> first | (with_reducible trivial) | omega | exact nfc | trivial)
        · simp only [go_sem]
          try (and_intros <;> first | (with_reducible trivial) | omega | exact nfc | trivial)
        · simp only [go_sem]
          exact Cv_tup (CvL_cons (by first | (simp [Cv, CvL, getM]; done) | (simp [Cv, CvL, getM, gt_some]; omega)) (CvL_cons (by first | (simp [Cv, getM]; done) | (simp [Cv, CvL, getM, gt_some]; omega)) (CvL_cons (by simp [Cv]) CvL_nil)))
        · simp only [go_sem, CvH]
          first | exact ⟨CvB_row nr_TRegulateChannel (by first | rfl | (simp; done) | (simp; omega)) (fun _ _ _ _ => rfl), CvB_row nr_TRegulateBlock (by first | rfl | (simp; done) | (simp; omega)) (fun _ _ _ _ => rfl), CvB_row nr_i64 (by first | rfl | (simp; done) | (simp; omega)) (fun _ _ _ _ => rfl), CvB_row nr_TRegulateWord (by first | rfl | (simp; done) | (simp; omega)) (fun _ _ _ _ => rfl)⟩ | trivial
      replace H := cond_f hg14 H
      cases H
    replace H := cond_f hq3 H
    simp only [go_sem, hq3, cond_false]
    refine seqM ?_
    refine sq ctNo_ok ?_
    simp only [go_sem]
    refine condM rfl trivial (fun hc => ?_) (fun hc => ?_)
    · replace H := cond_t hc H
      refine sq ctNo_ok ?_
      simp only [go_sem, Nat.reduceLT, Nat.reduceAdd]
      repeat ((with_reducible refine And.intro ?_ ?_); focus (first | (with_reducible trivial) | omega | grind))
      refine rg ctNo_ok ?_
      simp only [go_sem, Nat.reduceLT, Nat.reduceAdd]
      obtain rfl := Option.some.inj H
      refine RetE_mk [] [none, none, none, none] ?_ ?_ ?_ ?_ (by rfl) (by rfl)
      · simp only [go_sem]
        try (and_intros <;> first | (with_reducible trivial) | omega | exact nfc | trivial)
      · simp only [go_sem]
        try (and_intros <;> first | (with_reducible trivial) | omega | exact nfc | trivial)
      · simp only [go_sem]
        exact Cv_tup (CvL_cons (by first | (simp [Cv, CvL]; done) | (simp [Cv, CvL, getM, gt_some]; omega)) (CvL_cons (by first | (simp [Cv]; done) | (simp [Cv, CvL, getM, gt_some]; omega)) (CvL_cons (by simp [Cv]) CvL_nil)))
      · simp only [go_sem, CvH]
        first | exact ⟨CvB_none, CvB_none, CvB_none, CvB_none⟩ | trivial
    replace H := cond_f hc H
    refine rg ctNo_ok ?_
    simp only [go_sem]
    refine seqM ?_
    refine seqM ?_
    obtain ⟨r18, e19, H⟩ := bsi H
    refine rg ct36t1_ok ?_
    simp only [go_sem, Nat.reduceLT, Nat.reduceAdd, ct36t1_44, body44, e19]
    repeat ((with_reducible refine And.intro ?_ ?_); focus (first | (and_intros <;> first | (with_reducible trivial) | omega | assumption | exact nfc | first | exact rfl | exact trivial | exact fitI | exact .inr rfl | exact .inl rfl | exact fun x hx => absurd hx (by omega)) | grind))
    refine condM rfl trivial (fun hc => ?_) (fun hc => ?_)
    · replace H := cond_t hc H
      refine sq ctNo_ok ?_
      simp only [go_sem, Nat.reduceLT, Nat.reduceAdd]
      repeat ((with_reducible refine And.intro ?_ ?_); focus (first | (with_reducible trivial) | omega | grind))
      refine rg ctNo_ok ?_
      simp only [go_sem, Nat.reduceLT, Nat.reduceAdd]
      obtain rfl := Option.some.inj H
      refine RetE_mk [] [none, none, none, none] ?_ ?_ ?_ ?_ (by rfl) (by rfl)
      · simp only [go_sem]
        try (and_intros <;> first | (with_reducible trivial) | omega | exact nfc | trivial)
      · simp only [go_sem]
        try (and_intros <;> first | (with_reducible trivial) | omega | exact nfc | trivial)
      · simp only [go_sem]
        exact Cv_tup (CvL_cons (by first | (simp [Cv, CvL]; done) | (simp [Cv, CvL, getM, gt_some]; omega)) (CvL_cons (by first | (simp [Cv]; done) | (simp [Cv, CvL, getM, gt_some]; omega)) (CvL_cons (by simp [Cv]) CvL_nil)))
      · simp only [go_sem, CvH]
        first | exact ⟨CvB_none, CvB_none, CvB_none, CvB_none⟩ | trivial
    replace H := cond_f hc H
    refine rg ctNo_ok ?_
    simp only [go_sem]
    refine seqM ?_
    refine bif_split (c := bEq p1.Kind 1) (fun hg20 => ?_) (fun hg20 => ?_)
    · replace H := cond_t hg20 H
      refine draw_rule shT_ok ct36t2_ok 1 (by kernel_rfl) (by kernel_rfl) ?_
      intro an han
      simp only [d_nil, d_cons, nxtD, xrD, xoD, roEq, minL, List.append_nil, refsOp, refs, refsL, mask, maskF, place, placeF, okLog, pairOk, hit, inL, slotsF, ren, rnN, nrH, nrB, nrL, nr, List.replicate_zero, List.replicate_succ, Nat.sub_self, Nat.add_zero, Nat.zero_add, Nat.reduceSub, Nat.lt_add_one, go_sem, Nat.reduceLeDiff, Nat.reduceLT, Nat.reduceAdd, Nat.reduceSub, Nat.reduceBEq, ct36t2_79, lk79, has79, hg20]
      repeat ((with_reducible refine And.intro ?_ ?_); focus (and_intros <;> first | (with_reducible trivial) | (show anB _ _ _ = true; subst han; kernel_rfl) | (show (anB _ _ _ && _) = true; subst han; kernel_rfl) | omega | assumption | exact nrc | exact nfc | first | exact rfl | exact trivial | exact fitI | exact .inr rfl | exact .inl rfl | exact fun x hx => absurd hx (by omega)))
      refine seqM ?_
      refine seqM ?_
      cases H
    replace H := cond_f hg20 H
    refine bif_split (c := bEq p1.Kind 2) (fun hg21 => ?_) (fun hg21 => ?_)
    · replace H := cond_t hg21 H
      refine draw_rule shT_ok ct36t2_ok 1 (by kernel_rfl) (by kernel_rfl) ?_
      intro an han
      simp only [d_nil, d_cons, nxtD, xrD, xoD, roEq, minL, List.append_nil, refsOp, refs, refsL, mask, maskF, place, placeF, okLog, pairOk, hit, inL, slotsF, ren, rnN, nrH, nrB, nrL, nr, List.replicate_zero, List.replicate_succ, Nat.sub_self, Nat.add_zero, Nat.zero_add, Nat.reduceSub, Nat.lt_add_one, go_sem, Nat.reduceLeDiff, Nat.reduceLT, Nat.reduceAdd, Nat.reduceSub, Nat.reduceBEq, ct36t2_79, lk79, has79, hg20, hg21]
      repeat ((with_reducible refine And.intro ?_ ?_); focus (and_intros <;> first | (with_reducible trivial) | (show anB _ _ _ = true; subst han; kernel_rfl) | (show (anB _ _ _ && _) = true; subst han; kernel_rfl) | omega | assumption | exact nrc | exact nfc | first | exact rfl | exact trivial | exact fitI | exact .inr rfl | exact .inl rfl | exact fun x hx => absurd hx (by omega)))
      refine seqM ?_
      refine seqM ?_
      cases H
    replace H := cond_f hg21 H
    refine bif_split (c := bEq p1.Kind 3) (fun hg22 => ?_) (fun hg22 => ?_)
    · replace H := cond_t hg22 H
      refine draw_rule shT_ok ct36t2_ok 1 (by kernel_rfl) (by kernel_rfl) ?_
      intro an han
      simp only [d_nil, d_cons, nxtD, xrD, xoD, roEq, minL, List.append_nil, refsOp, refs, refsL, mask, maskF, place, placeF, okLog, pairOk, hit, inL, slotsF, ren, rnN, nrH, nrB, nrL, nr, List.replicate_zero, List.replicate_succ, Nat.sub_self, Nat.add_zero, Nat.zero_add, Nat.reduceSub, Nat.lt_add_one, go_sem, Nat.reduceLeDiff, Nat.reduceLT, Nat.reduceAdd, Nat.reduceSub, Nat.reduceBEq, ct36t2_79, lk79, has79, hg20, hg21, hg22]
      repeat ((with_reducible refine And.intro ?_ ?_); focus (and_intros <;> first | (with_reducible trivial) | (show anB _ _ _ = true; subst han; kernel_rfl) | (show (anB _ _ _ && _) = true; subst han; kernel_rfl) | omega | assumption | exact nrc | exact nfc | first | exact rfl | exact trivial | exact fitI | exact .inr rfl | exact .inl rfl | exact fun x hx => absurd hx (by omega)))
      refine seqM ?_
      refine seqM ?_
      cases H
    replace H := cond_f hg22 H
    cases H
  · cases hb
/-! hotspot/hotspotref45.Word -/
noncomputable def ct46t0 : Ct := tab [(63, pureC body63)]
theorem ct46t0_ok : CtOk Try.prog ct46t0 := tab_cons ok63 <| tab_nil
theorem ct46t0_63 (l : List AV) (h : List ABlk) : ct46t0 63 l h = pureC body63 l h := rfl
noncomputable def F46 (p0 : TRegulateWord) : Option (Bool) :=
  need (bif (!((bLt p0.Channel 1) || (bLt 255 p0.Channel))) then ((F63 p0.At).isSome) else true) <| bif (((bLt p0.Channel 1) || (bLt 255 p0.Channel)) || (!(gt (F63 p0.At)))) then (some false) else (bif (bEq p0.Kind 1) then (some ((bLe 1 p0.To) && (bLe p0.To 255))) else (bif (bEq p0.Kind 2) then (some ((bEq p0.To 0) && (bEq p0.At 0))) else (bif (bEq p0.Kind 3) then (some (bEq p0.To 0)) else (some false))))
noncomputable def body46 : List AV -> AR
  | [v0] => .pure (aK 4 k_TRegulateWord v0 /\ (F46 (g_TRegulateWord (aL v0))).isSome = true) (.bool (gt (F46 (g_TRegulateWord (aL v0)))))
  | _ => .fail
set_option maxHeartbeats 4000000 in
set_option maxRecDepth 20000 in
theorem ok46 : FnOk Try.prog 46 (pureC body46) := by
  refine pure_fnM body46 (rs := [.tmp 2]) Try.func46 (by kernel_rfl) rfl rfl ?_
  intro l ob v hb hob
  unfold body46 at hb
  split at hb
  · rename_i v0
    injection hb with q1 q2; subst q1 q2
    obtain ⟨hk0_0, hob⟩ := hob
    obtain ⟨r, H⟩ := Option.isSome_iff_exists.1 hob
    rw [H, gt_some]
    have hw0 := wA_TRegulateWord hk0_0
    generalize g_TRegulateWord (aL v0) = p0 at H hw0
    refine ⟨[.agg [.int .u8 p0.Kind, .int .i64 p0.Channel, .int .i64 p0.To, .int .i64 p0.At]], _, (fun E vs F => FR_wk1 hw0.1 F (fun vs F => F)), rfl, rfl, ?_⟩
    rw [Try.ntmps46]
    simp only [List.length_cons, List.length_nil, Nat.reduceAdd, Nat.reduceSub, List.replicate_succ, List.replicate_zero, List.cons_append, List.nil_append]
    unfold F46 at H
    refine sq ctNo_ok ?_
    simp only [go_sem]
    refine seqM ?_
    refine seqM ?_
    obtain ⟨f1, H⟩ := need_some.1 H
    replace f1 := g_iff.1 f1
    refine rg ct46t0_ok ?_
    simp only [go_sem, Nat.reduceLeDiff, Nat.reduceLT, Nat.reduceAdd, ct46t0_63, body63]
    repeat ((with_reducible refine And.intro ?_ ?_); focus (first | (with_reducible trivial) | omega | exact f1 | (intro g; have q := f1 (by first | exact g | (rw [g]; rfl) | simpa using g); first | exact q | exact ⟨q.1, q.2.1⟩ | exact q.2.2 | omega | exact ⟨g, q⟩ | exact ⟨trivial, q⟩ | exact ⟨g, q.1, q.2.1⟩ | exact ⟨g, q.2.2⟩) | (intro g; (try have q0 := f1 (by first | exact g | (rw [g]; rfl) | simpa using g)); and_intros <;> first | (with_reducible trivial) | assumption | exact nfc | (intro g2; rw [g, g2]; rfl) | (intro g2; assumption) | (simp only [g, Bool.true_and, Bool.and_true, Bool.not_false, Bool.not_true]; assumption) | grind) | (and_intros <;> first | (with_reducible trivial) | omega | assumption | exact nfc | first | exact rfl | exact trivial | exact fitI | exact .inr rfl | exact .inl rfl | exact fun x hx => absurd hx (by omega)) | grind))
    refine condM rfl trivial (fun hc => ?_) (fun hc => ?_)
    · replace H := cond_t hc H
      refine sq ctNo_ok ?_
      simp only [go_sem]
      refine rg ctNo_ok ?_
      simp only [go_sem]
      obtain rfl := Option.some.inj H
      first | rfl | simp only [Bool.and_false, Bool.false_and, Bool.and_true, Bool.true_and]
    replace H := cond_f hc H
    refine rg ctNo_ok ?_
    simp only [go_sem]
    refine seqM ?_
    refine sq ctNo_ok ?_
    simp only [go_sem, Nat.reduceLeDiff, Nat.reduceLT, Nat.reduceAdd]
    refine blkM ?_
    refine sq ctNo_ok ?_
    simp only [go_sem]
    refine condM rfl trivial (fun hc => ?_) (fun hc => ?_)
    · replace H := cond_t hc H
      refine sq ctNo_ok ?_
      simp only [go_sem, Nat.reduceLeDiff, Nat.reduceLT, Nat.reduceAdd]
      refine rg ctNo_ok ?_
      simp only [go_sem]
      obtain rfl := Option.some.inj H
      first | rfl | simp only [Bool.and_false, Bool.false_and, Bool.and_true, Bool.true_and]
    replace H := cond_f hc H
    refine sq ctNo_ok ?_
    simp only [go_sem]
    refine condM rfl trivial (fun hc => ?_) (fun hc => ?_)
    · replace H := cond_t hc H
      refine sq ctNo_ok ?_
      simp only [go_sem, Nat.reduceLeDiff, Nat.reduceLT, Nat.reduceAdd]
      refine rg ctNo_ok ?_
      simp only [go_sem]
      obtain rfl := Option.some.inj H
      first | rfl | simp only [Bool.and_false, Bool.false_and, Bool.and_true, Bool.true_and]
    replace H := cond_f hc H
    refine sq ctNo_ok ?_
    simp only [go_sem]
    refine condM rfl trivial (fun hc => ?_) (fun hc => ?_)
    · replace H := cond_t hc H
      refine sq ctNo_ok ?_
      simp only [go_sem, Nat.reduceLeDiff, Nat.reduceLT, Nat.reduceAdd]
      refine rg ctNo_ok ?_
      simp only [go_sem]
      obtain rfl := Option.some.inj H
      first | rfl | simp only [Bool.and_false, Bool.false_and, Bool.and_true, Bool.true_and]
    replace H := cond_f hc H
    refine rg ctNo_ok ?_
    simp only [go_sem]
    refine sq ctNo_ok ?_
    simp only [go_sem]
    refine rg ctNo_ok ?_
    simp only [go_sem]
    obtain rfl := Option.some.inj H
    first | rfl | simp only [Bool.and_false, Bool.false_and, Bool.and_true, Bool.true_and]
  · cases hb
end Go.Proofs.Ytjhkehdbjnhplaa
