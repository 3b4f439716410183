/-
  What the law reaches.
-/
import Derived.Test.YtjhkehdbjnhplaaY7p3
namespace Go.Proofs.Ytjhkehdbjnhplaa
open Go.Am
set_option linter.unusedVariables false
set_option linter.unusedSimpArgs false
/-! hotspot/hotspotref45.Handle -/
noncomputable def ct37t0 : Ct := tab [(64, pureC body64)]
theorem ct37t0_ok : CtOk Try.prog ct37t0 := tab_cons ok64 <| tab_nil
theorem ct37t0_64 (l : List AV) (h : List ABlk) : ct37t0 64 l h = pureC body64 l h := rfl
noncomputable def ct37t1 : Ct := tab [(46, pureC body46)]
theorem ct37t1_ok : CtOk Try.prog ct37t1 := tab_cons ok46 <| tab_nil
theorem ct37t1_46 (l : List AV) (h : List ABlk) : ct37t1 46 l h = pureC body46 l h := rfl
noncomputable def ct37t2 : Ct := tab [(18, pureC body18)]
theorem ct37t2_ok : CtOk Try.prog ct37t2 := tab_cons ok18 <| tab_nil
theorem ct37t2_18 (l : List AV) (h : List ABlk) : ct37t2 18 l h = pureC body18 l h := rfl
noncomputable def ct37t3 : Ct := tab [(80, edC body80)]
theorem ct37t3_ok : CtOk Try.prog ct37t3 := tab_cons ok80 <| tab_nil
theorem ct37t3_80 (l : List AV) (h : List ABlk) : ct37t3 80 l h = edC body80 l h := rfl
noncomputable def ct37t4 : Ct := tab [(78, edC body78)]
theorem ct37t4_ok : CtOk Try.prog ct37t4 := tab_cons ok78 <| tab_nil
theorem ct37t4_78 (l : List AV) (h : List ABlk) : ct37t4 78 l h = edC body78 l h := rfl
noncomputable def ct37t5 : Ct := tab [(24, edC body24)]
theorem ct37t5_ok : CtOk Try.prog ct37t5 := tab_cons ok24 <| tab_nil
theorem ct37t5_24 (l : List AV) (h : List ABlk) : ct37t5 24 l h = edC body24 l h := rfl
noncomputable def F37 (p0 : TRegulate) (p1 : TRegulateWord) (p2 : Int) (p3 : Int) : Option (TRegulate × (List TRegulateWord) × Int) :=
  (F64 p0 p3 p2).bind fun r1 => need (bif (bEq r1 0) then ((F46 p1).isSome) else true) <| bif ((bEq r1 0) && (!(gt (F46 p1)))) then (some ((TRegulate.mk [] 0 false 0 false false 0 0 [] []), [], 8)) else (bif (!bEq r1 0) then (some ((TRegulate.mk [] 0 false 0 false false 0 0 [] []), [], r1)) else (bif (bEq p1.Kind 1) then (bif (((!bEq p1.Channel p0.Channel) || p0.Lead) || (bLt p1.At p3)) then (some ((TRegulate.mk [] 0 false 0 false false 0 0 [] []), [], 21)) else (bif (bEq p1.Kind 1) then ((F18 p0.Table p1.To).bind fun r4 => bif (!r4.2) then (some ((TRegulate.mk [] 0 false 0 false false 0 0 [] []), [], 6)) else ((F80 p0 p3).bind fun r6 => some ((TRegulate.mk r6.Table r6.Channel r6.Lead r6.Heard r6.Stopped true p1.To p1.At r6.Blocked r6.Clear), [], 0))) else (bif (bEq p1.Kind 2) then ((F78 p0 p2 p3).bind fun r8 => some ((TRegulate.mk r8.1.Table r8.1.Channel r8.1.Lead r8.1.Heard r8.1.Stopped r8.1.Moving r8.1.To r8.1.At r8.1.Blocked r8.1.Clear), r8.2, 0)) else ((F24 p0).bind fun r10 => some ((TRegulate.mk r10.Table r10.Channel r10.Lead p1.At r10.Stopped r10.Moving r10.To r10.At r10.Blocked r10.Clear), [], 0))))) else (bif (bEq p1.Kind 2) then (bif (((!bEq p1.Channel p0.Channel) || (!p0.Lead)) || p0.Stopped) then (some ((TRegulate.mk [] 0 false 0 false false 0 0 [] []), [], 21)) else (bif (bEq p1.Kind 1) then ((F18 p0.Table p1.To).bind fun r12 => bif (!r12.2) then (some ((TRegulate.mk [] 0 false 0 false false 0 0 [] []), [], 6)) else ((F80 p0 p3).bind fun r14 => some ((TRegulate.mk r14.Table r14.Channel r14.Lead r14.Heard r14.Stopped true p1.To p1.At r14.Blocked r14.Clear), [], 0))) else (bif (bEq p1.Kind 2) then ((F78 p0 p2 p3).bind fun r16 => some ((TRegulate.mk r16.1.Table r16.1.Channel r16.1.Lead r16.1.Heard r16.1.Stopped r16.1.Moving r16.1.To r16.1.At r16.1.Blocked r16.1.Clear), r16.2, 0)) else ((F24 p0).bind fun r18 => some ((TRegulate.mk r18.Table r18.Channel r18.Lead p1.At r18.Stopped r18.Moving r18.To r18.At r18.Blocked r18.Clear), [], 0))))) else (bif (((((!bEq p1.Channel p0.Channel) || p0.Lead) || p0.Stopped) || (bLt p1.At p0.Heard)) || (bLt p3 p1.At)) then (some ((TRegulate.mk [] 0 false 0 false false 0 0 [] []), [], 21)) else (bif (bEq p1.Kind 1) then ((F18 p0.Table p1.To).bind fun r20 => bif (!r20.2) then (some ((TRegulate.mk [] 0 false 0 false false 0 0 [] []), [], 6)) else ((F80 p0 p3).bind fun r22 => some ((TRegulate.mk r22.Table r22.Channel r22.Lead r22.Heard r22.Stopped true p1.To p1.At r22.Blocked r22.Clear), [], 0))) else (bif (bEq p1.Kind 2) then ((F78 p0 p2 p3).bind fun r24 => some ((TRegulate.mk r24.1.Table r24.1.Channel r24.1.Lead r24.1.Heard r24.1.Stopped r24.1.Moving r24.1.To r24.1.At r24.1.Blocked r24.1.Clear), r24.2, 0)) else ((F24 p0).bind fun r26 => some ((TRegulate.mk r26.Table r26.Channel r26.Lead p1.At r26.Stopped r26.Moving r26.To r26.At r26.Blocked r26.Clear), [], 0))))))))
noncomputable def body37 : List AV -> List ABlk -> ED
  | [v0, v1, v2, v3], h => .ed [] (aK 10 k_TRegulate (roD (deadL h []) v0) /\ roDOb (deadL h []) v0 /\ aK 4 k_TRegulateWord (roD (deadL h []) v1) /\ roDOb (deadL h []) v1 /\ iK .i64 (roD (deadL h []) v2) /\ roDOb (deadL h []) v2 /\ iK .i64 (roD (deadL h []) v3) /\ roDOb (deadL h []) v3 /\ (F37 (g_TRegulate (aL (roD (deadL h []) v0))) (g_TRegulateWord (aL (roD (deadL h []) v1))) (iA (roD (deadL h []) v2)) (iA (roD (deadL h []) v3))).isSome = true) (.tup [.agg [.sl 0 3 0 ((((gt (F37 (g_TRegulate (aL (roD (deadL h []) v0))) (g_TRegulateWord (aL (roD (deadL h []) v1))) (iA (roD (deadL h []) v2)) (iA (roD (deadL h []) v3)))).1).Table).length) false, .int .i64 (((gt (F37 (g_TRegulate (aL (roD (deadL h []) v0))) (g_TRegulateWord (aL (roD (deadL h []) v1))) (iA (roD (deadL h []) v2)) (iA (roD (deadL h []) v3)))).1).Channel), .bool (((gt (F37 (g_TRegulate (aL (roD (deadL h []) v0))) (g_TRegulateWord (aL (roD (deadL h []) v1))) (iA (roD (deadL h []) v2)) (iA (roD (deadL h []) v3)))).1).Lead), .int .i64 (((gt (F37 (g_TRegulate (aL (roD (deadL h []) v0))) (g_TRegulateWord (aL (roD (deadL h []) v1))) (iA (roD (deadL h []) v2)) (iA (roD (deadL h []) v3)))).1).Heard), .bool (((gt (F37 (g_TRegulate (aL (roD (deadL h []) v0))) (g_TRegulateWord (aL (roD (deadL h []) v1))) (iA (roD (deadL h []) v2)) (iA (roD (deadL h []) v3)))).1).Stopped), .bool (((gt (F37 (g_TRegulate (aL (roD (deadL h []) v0))) (g_TRegulateWord (aL (roD (deadL h []) v1))) (iA (roD (deadL h []) v2)) (iA (roD (deadL h []) v3)))).1).Moving), .int .i64 (((gt (F37 (g_TRegulate (aL (roD (deadL h []) v0))) (g_TRegulateWord (aL (roD (deadL h []) v1))) (iA (roD (deadL h []) v2)) (iA (roD (deadL h []) v3)))).1).To), .int .i64 (((gt (F37 (g_TRegulate (aL (roD (deadL h []) v0))) (g_TRegulateWord (aL (roD (deadL h []) v1))) (iA (roD (deadL h []) v2)) (iA (roD (deadL h []) v3)))).1).At), .sl 1 2 0 ((((gt (F37 (g_TRegulate (aL (roD (deadL h []) v0))) (g_TRegulateWord (aL (roD (deadL h []) v1))) (iA (roD (deadL h []) v2)) (iA (roD (deadL h []) v3)))).1).Blocked).length) false, .sl 2 1 0 ((((gt (F37 (g_TRegulate (aL (roD (deadL h []) v0))) (g_TRegulateWord (aL (roD (deadL h []) v1))) (iA (roD (deadL h []) v2)) (iA (roD (deadL h []) v3)))).1).Clear).length) false], .sl 3 4 0 (((gt (F37 (g_TRegulate (aL (roD (deadL h []) v0))) (g_TRegulateWord (aL (roD (deadL h []) v1))) (iA (roD (deadL h []) v2)) (iA (roD (deadL h []) v3)))).2.1).length) false, .int .i64 ((gt (F37 (g_TRegulate (aL (roD (deadL h []) v0))) (g_TRegulateWord (aL (roD (deadL h []) v1))) (iA (roD (deadL h []) v2)) (iA (roD (deadL h []) v3)))).2.2)]) [.row 45 3 ((((gt (F37 (g_TRegulate (aL (roD (deadL h []) v0))) (g_TRegulateWord (aL (roD (deadL h []) v1))) (iA (roD (deadL h []) v2)) (iA (roD (deadL h []) v3)))).1).Table).length) (enR c_TRegulateChannel (((gt (F37 (g_TRegulate (aL (roD (deadL h []) v0))) (g_TRegulateWord (aL (roD (deadL h []) v1))) (iA (roD (deadL h []) v2)) (iA (roD (deadL h []) v3)))).1).Table)), .row 79 2 ((((gt (F37 (g_TRegulate (aL (roD (deadL h []) v0))) (g_TRegulateWord (aL (roD (deadL h []) v1))) (iA (roD (deadL h []) v2)) (iA (roD (deadL h []) v3)))).1).Blocked).length) (enR c_TRegulateBlock (((gt (F37 (g_TRegulate (aL (roD (deadL h []) v0))) (g_TRegulateWord (aL (roD (deadL h []) v1))) (iA (roD (deadL h []) v2)) (iA (roD (deadL h []) v3)))).1).Blocked)), .row 3 1 ((((gt (F37 (g_TRegulate (aL (roD (deadL h []) v0))) (g_TRegulateWord (aL (roD (deadL h []) v1))) (iA (roD (deadL h []) v2)) (iA (roD (deadL h []) v3)))).1).Clear).length) (enR c_i64 (((gt (F37 (g_TRegulate (aL (roD (deadL h []) v0))) (g_TRegulateWord (aL (roD (deadL h []) v1))) (iA (roD (deadL h []) v2)) (iA (roD (deadL h []) v3)))).1).Clear)), .row 23 4 (((gt (F37 (g_TRegulate (aL (roD (deadL h []) v0))) (g_TRegulateWord (aL (roD (deadL h []) v1))) (iA (roD (deadL h []) v2)) (iA (roD (deadL h []) v3)))).2.1).length) (enR c_TRegulateWord ((gt (F37 (g_TRegulate (aL (roD (deadL h []) v0))) (g_TRegulateWord (aL (roD (deadL h []) v1))) (iA (roD (deadL h []) v2)) (iA (roD (deadL h []) v3)))).2.1))]
  | _, _ => .fail
set_option maxHeartbeats 4000000 in
set_option maxRecDepth 20000 in
theorem ok37 : FnOk Try.prog 37 (edC body37) := by
  refine edit_fnV body37 (rs := [.cell 8 39, .tmp 9, .tmp 10]) Try.func37 (by kernel_rfl) rfl rfl ?_
  intro l h bs ob q0 g0 hb hob
  unfold body37 at hb
  split at hb
  · rename_i v0 v1 v2 v3
    injection hb with q1 q2 q3 q4; subst q1 q2 q3 q4
    obtain ⟨hk0_0, hk0_1, hk1_0, hk1_1, hk2_0, hk2_1, hk3_0, hk3_1, hob⟩ := hob
    obtain ⟨r, H⟩ := Option.isSome_iff_exists.1 hob
    rw [H, gt_some]
    have hw0 := wA_TRegulate hk0_0
    obtain ⟨p0, hp_p0⟩ : ∃ p0, p0 = g_TRegulate (aL (roD (deadL h []) v0)) := ⟨_, rfl⟩
    rw [← hp_p0] at H hw0
    have hw1 := wA_TRegulateWord hk1_0
    obtain ⟨p1, hp_p1⟩ : ∃ p1, p1 = g_TRegulateWord (aL (roD (deadL h []) v1)) := ⟨_, rfl⟩
    rw [← hp_p1] at H hw1
    have hw2 := iK_wk hk2_0
    obtain ⟨p2, hp_p2⟩ : ∃ p2, p2 = iA (roD (deadL h []) v2) := ⟨_, rfl⟩
    rw [← hp_p2] at H hw2
    have hw3 := iK_wk hk3_0
    obtain ⟨p3, hp_p3⟩ : ∃ p3, p3 = iA (roD (deadL h []) v3) := ⟨_, rfl⟩
    rw [← hp_p3] at H hw3
    refine ⟨[.agg [.ro 3 p0.Table.length false (enR c_TRegulateChannel p0.Table), .int .i64 p0.Channel, .bool p0.Lead, .int .i64 p0.Heard, .bool p0.Stopped, .bool p0.Moving, .int .i64 p0.To, .int .i64 p0.At, .ro 2 p0.Blocked.length false (enR c_TRegulateBlock p0.Blocked), .ro 1 p0.Clear.length false (enR c_i64 p0.Clear)], .agg [.int .u8 p1.Kind, .int .i64 p1.Channel, .int .i64 p1.To, .int .i64 p1.At], .int .i64 p2, .int .i64 p3], [], rfl, ⟨(EW_view hk0_1 hw0), ⟨(EW_view hk1_1 hw1), ⟨(EW_view hk2_1 hw2), ⟨(EW_view hk3_1 hw3), trivial⟩⟩⟩⟩, trivial, trivial, ⟨(nfB_en nr_TRegulateChannel), ⟨(nfB_en nr_TRegulateBlock), ⟨(nfB_en nr_i64), ⟨(nfB_en nr_TRegulateWord), trivial⟩⟩⟩⟩, ⟨noroB_en, ⟨noroB_en, ⟨noroB_en, ⟨noroB_en, trivial⟩⟩⟩⟩, (by first | (simp only [noro, noroL, and_self]; done) | (simp only [noro, noroL]; and_intros <;> first | trivial | exact noro_bif (by simp only [noro]) (by simp only [noro]) | (simp only [noro, noroL, and_self]))), ?_⟩
    rw [Try.ntmps37]
    simp only [List.length_cons, List.length_nil, Nat.reduceAdd, Nat.reduceSub, List.replicate_succ, List.replicate_zero, List.cons_append, List.nil_append]
    unfold F37 at H
    refine sq ctNo_ok ?_
    simp only [go_sem, Nat.reduceAdd]
    refine seqM ?_
    obtain ⟨r1, e2, H⟩ := bsi H
    refine rg ct37t0_ok ?_
    simp only [go_sem, Nat.reduceLT, Nat.reduceAdd, ct37t0_64, body64, e2]
    refine seqM ?_
    refine seqM ?_
    obtain ⟨f3, H⟩ := need_some.1 H
    replace f3 := g_iff.1 f3
    refine rg ct37t1_ok ?_
    simp only [go_sem, Nat.reduceLT, Nat.reduceAdd, ct37t1_46, body46]
    repeat ((with_reducible refine And.intro ?_ ?_); focus (first | (with_reducible trivial) | omega | exact f3 | (intro g; have q := f3 (by first | exact g | (rw [g]; rfl) | simpa using g); first | exact q | exact ⟨q.1, q.2.1⟩ | exact q.2.2 | omega | exact ⟨g, q⟩ | exact ⟨trivial, q⟩ | exact ⟨g, q.1, q.2.1⟩ | exact ⟨g, q.2.2⟩) | (intro g; (try have q0 := f3 (by first | exact g | (rw [g]; rfl) | simpa using g)); and_intros <;> first | (with_reducible trivial) | assumption | exact nfc | (intro g2; rw [g, g2]; rfl) | (intro g2; assumption) | (simp only [g, Bool.true_and, Bool.and_true, Bool.not_false, Bool.not_true]; assumption) | grind) | (and_intros <;> first | (with_reducible trivial) | omega | assumption | exact nfc | first | exact rfl | exact trivial | exact fitI | exact .inr rfl | exact .inl rfl | exact fun x hx => absurd hx (by omega)) | grind))
    refine condM rfl trivial (fun hc => ?_) (fun hc => ?_)
    · replace H := cond_t hc H
      refine rg ctNo_ok ?_
      simp only [go_sem]
      refine seqM ?_
      refine sq ctNo_ok ?_
      simp only [go_sem, (by decide : bEq (8) (0) = false)]
      refine condM rfl trivial (fun hc => ?_) (fun hc => ?_)
      rotate_left
      · cases hc
      refine sq ctNo_ok ?_
      simp only [go_sem, Nat.reduceAdd]
      refine rg ctNo_ok ?_
      simp only [go_sem, Nat.reduceLT, Nat.reduceAdd]
      obtain rfl := Option.some.inj H
      refine RetE_mk [] [none, none, none, none] ?_ ?_ ?_ ?_ (by rfl) (by rfl)
      · simp only [go_sem]
      · simp only [go_sem]
      · simp only [go_sem]
        exact Cv_tup (CvL_cons (by first | (simp [Cv, CvL]; done) | (simp [Cv, CvL, getM, gt_some]; omega)) (CvL_cons (by first | (simp [Cv]; done) | (simp [Cv, CvL, getM, gt_some]; omega)) (CvL_cons (by simp [Cv]) CvL_nil)))
      · simp only [go_sem, CvH]
        first | exact ⟨CvB_none, CvB_none, CvB_none, CvB_none⟩ | trivial
    replace H := cond_f hc H
    refine rg ctNo_ok ?_
    simp only [go_sem]
    refine seqM ?_
    refine sq ctNo_ok ?_
    simp only [go_sem]
    refine condM rfl trivial (fun hc => ?_) (fun hc => ?_)
    · replace H := cond_t hc H
      refine sq ctNo_ok ?_
      simp only [go_sem, Nat.reduceAdd]
      refine rg ctNo_ok ?_
      simp only [go_sem, Nat.reduceLT, Nat.reduceAdd]
      obtain rfl := Option.some.inj H
      refine RetE_mk [] [none, none, none, none] ?_ ?_ ?_ ?_ (by rfl) (by rfl)
      · simp only [go_sem]
      · simp only [go_sem]
      · simp only [go_sem]
        exact Cv_tup (CvL_cons (by first | (simp [Cv, CvL]; done) | (simp [Cv, CvL, getM, gt_some]; omega)) (CvL_cons (by first | (simp [Cv]; done) | (simp [Cv, CvL, getM, gt_some]; omega)) (CvL_cons (by simp [Cv]) CvL_nil)))
      · simp only [go_sem, CvH]
        first | exact ⟨CvB_none, CvB_none, CvB_none, CvB_none⟩ | trivial
    replace H := cond_f hc H
    refine rg ctNo_ok ?_
    simp only [go_sem]
    refine sq ctNo_ok ?_
    simp only [go_sem, Nat.reduceLeDiff, Nat.reduceLT, Nat.reduceAdd]
    refine seqM ?_
    refine sq ctNo_ok ?_
    simp only [go_sem, Nat.reduceLeDiff, Nat.reduceLT, Nat.reduceAdd]
    refine blkM ?_
    refine sq ctNo_ok ?_
    simp only [go_sem]
    refine condM rfl trivial (fun hc => ?_) (fun hc => ?_)
    · replace H := cond_t hc H
      refine rg ctNo_ok ?_
      simp only [go_sem, Nat.reduceLeDiff, Nat.reduceLT, Nat.reduceAdd]
      refine seqM ?_
      refine sq ctNo_ok ?_
      simp only [go_sem]
      refine condM rfl trivial (fun hc => ?_) (fun hc => ?_)
      · replace H := cond_t hc H
        refine sq ctNo_ok ?_
        simp only [go_sem, Nat.reduceAdd]
        refine rg ctNo_ok ?_
        simp only [go_sem, Nat.reduceLT, Nat.reduceAdd]
        obtain rfl := Option.some.inj H
        refine RetE_mk [] [none, none, none, none] ?_ ?_ ?_ ?_ (by rfl) (by rfl)
        · simp only [go_sem]
        · simp only [go_sem]
        · simp only [go_sem]
          exact Cv_tup (CvL_cons (by first | (simp [Cv, CvL]; done) | (simp [Cv, CvL, getM, gt_some]; omega)) (CvL_cons (by first | (simp [Cv]; done) | (simp [Cv, CvL, getM, gt_some]; omega)) (CvL_cons (by simp [Cv]) CvL_nil)))
        · simp only [go_sem, CvH]
          first | exact ⟨CvB_none, CvB_none, CvB_none, CvB_none⟩ | trivial
      replace H := cond_f hc H
      refine rg ctNo_ok ?_
      simp only [go_sem]
      refine seqM ?_
      refine sq ctNo_ok ?_
      simp only [go_sem, Nat.reduceLeDiff, Nat.reduceLT, Nat.reduceAdd]
      refine blkM ?_
      refine sq ctNo_ok ?_
      simp only [go_sem]
      refine condM' rfl trivial (fun hc => ?_) (fun hc => ?_)
      · replace H := cond_f hc H
        refine sq ctNo_ok ?_
        simp only [go_sem]
        refine condM rfl trivial (fun hc => ?_) (fun hc => ?_)
        · replace H := cond_t hc H
          refine seqM ?_
          obtain ⟨r8, e9, H⟩ := bsi H
          refine rg ct37t4_ok ?_
          simp only [go_sem, Nat.reduceLT, Nat.reduceAdd, ct37t4_78, body78, e9]
          refine sq ctNo_ok ?_
          simp only [go_sem, Nat.reduceLT, Nat.reduceAdd]
          refine rg ctNo_ok ?_
          simp only [go_sem, Nat.reduceLT, Nat.reduceAdd]
          obtain rfl := Option.some.inj H
          refine RetE_mk [] [some 3, some 4, some 5, some 6] ?_ ?_ ?_ ?_ (by rfl) (by rfl)
          · simp only [go_sem]
          · simp only [go_sem]
          · simp only [go_sem]
            exact Cv_tup (CvL_cons (by first | (simp [Cv, CvL, getM]; done) | (simp [Cv, CvL, getM, gt_some]; omega)) (CvL_cons (by first | (simp [Cv, getM]; done) | (simp [Cv, CvL, getM, gt_some]; omega)) (CvL_cons (by simp [Cv]) CvL_nil)))
          · simp only [go_sem, CvH]
            first | exact ⟨CvB_row nr_TRegulateChannel (by first | rfl | (simp; done) | (simp; omega)) (fun _ _ _ _ => rfl), CvB_row nr_TRegulateBlock (by first | rfl | (simp; done) | (simp; omega)) (fun _ _ _ _ => rfl), CvB_row nr_i64 (by first | rfl | (simp; done) | (simp; omega)) (fun _ _ _ _ => rfl), CvB_row nr_TRegulateWord (by first | rfl | (simp; done) | (simp; omega)) (fun _ _ _ _ => rfl)⟩ | trivial
        replace H := cond_f hc H
        refine rg ctNo_ok ?_
        simp only [go_sem]
        refine seqM ?_
        obtain ⟨r10, e11, H⟩ := bsi H
        refine rg ct37t5_ok ?_
        simp only [go_sem, Nat.reduceLT, Nat.reduceAdd, ct37t5_24, body24, e11]
        refine sq ctNo_ok ?_
        simp only [go_sem, Nat.reduceLeDiff, Nat.reduceLT, Nat.reduceAdd]
        refine sq ctNo_ok ?_
        simp only [go_sem, Nat.reduceLT, Nat.reduceAdd]
        refine rg ctNo_ok ?_
        simp only [go_sem, Nat.reduceLT, Nat.reduceAdd]
        obtain rfl := Option.some.inj H
        refine RetE_mk [] [some 3, some 4, some 5, none] ?_ ?_ ?_ ?_ (by rfl) (by rfl)
        · simp only [go_sem]
        · simp only [go_sem]
        · simp only [go_sem]
          exact Cv_tup (CvL_cons (by first | (simp [Cv, CvL, getM]; done) | (simp [Cv, CvL, getM, gt_some]; omega)) (CvL_cons (by first | (simp [Cv]; done) | (simp [Cv, CvL, getM, gt_some]; omega)) (CvL_cons (by simp [Cv]) CvL_nil)))
        · simp only [go_sem, CvH]
          first | exact ⟨CvB_row nr_TRegulateChannel (by first | rfl | (simp; done) | (simp; omega)) (fun _ _ _ _ => rfl), CvB_row nr_TRegulateBlock (by first | rfl | (simp; done) | (simp; omega)) (fun _ _ _ _ => rfl), CvB_row nr_i64 (by first | rfl | (simp; done) | (simp; omega)) (fun _ _ _ _ => rfl), CvB_none⟩ | trivial
      replace H := cond_t hc H
      refine seqM ?_
      obtain ⟨r4, e5, H⟩ := bsi H
      refine rg ct37t2_ok ?_
      simp only [go_sem, Nat.reduceLeDiff, Nat.reduceLT, Nat.reduceAdd, ct37t2_18, body18, e5]
      refine seqM ?_
      refine sq ctNo_ok ?_
      simp only [go_sem]
      refine condM rfl trivial (fun hc => ?_) (fun hc => ?_)
      · replace H := cond_t hc H
        refine sq ctNo_ok ?_
        simp only [go_sem, Nat.reduceAdd]
        refine rg ctNo_ok ?_
        simp only [go_sem, Nat.reduceLT, Nat.reduceAdd]
        obtain rfl := Option.some.inj H
        refine RetE_mk [] [none, none, none, none] ?_ ?_ ?_ ?_ (by rfl) (by rfl)
        · simp only [go_sem]
        · simp only [go_sem]
        · simp only [go_sem]
          exact Cv_tup (CvL_cons (by first | (simp [Cv, CvL]; done) | (simp [Cv, CvL, getM, gt_some]; omega)) (CvL_cons (by first | (simp [Cv]; done) | (simp [Cv, CvL, getM, gt_some]; omega)) (CvL_cons (by simp [Cv]) CvL_nil)))
        · simp only [go_sem, CvH]
          first | exact ⟨CvB_none, CvB_none, CvB_none, CvB_none⟩ | trivial
      replace H := cond_f hc H
      refine rg ctNo_ok ?_
      simp only [go_sem]
      refine seqM ?_
      obtain ⟨r6, e7, H⟩ := bsi H
      refine rg ct37t3_ok ?_
      simp only [go_sem, Nat.reduceLT, Nat.reduceAdd, ct37t3_80, body80, e7]
      refine sq ctNo_ok ?_
      simp only [go_sem, Nat.reduceLeDiff, Nat.reduceAdd]
      refine sq ctNo_ok ?_
      simp only [go_sem, Nat.reduceLeDiff, Nat.reduceLT, Nat.reduceAdd]
      refine sq ctNo_ok ?_
      simp only [go_sem, Nat.reduceLeDiff, Nat.reduceLT, Nat.reduceAdd]
      refine sq ctNo_ok ?_
      simp only [go_sem, Nat.reduceLT, Nat.reduceAdd]
      refine rg ctNo_ok ?_
      simp only [go_sem, Nat.reduceLT, Nat.reduceAdd]
      obtain rfl := Option.some.inj H
      refine RetE_mk [] [some 4, some 5, some 6, none] ?_ ?_ ?_ ?_ (by rfl) (by rfl)
      · simp only [go_sem]
      · simp only [go_sem]
      · simp only [go_sem]
        exact Cv_tup (CvL_cons (by first | (simp [Cv, CvL, getM]; done) | (simp [Cv, CvL, getM, gt_some]; omega)) (CvL_cons (by first | (simp [Cv]; done) | (simp [Cv, CvL, getM, gt_some]; omega)) (CvL_cons (by simp [Cv]) CvL_nil)))
      · simp only [go_sem, CvH]
        first | exact ⟨CvB_row nr_TRegulateChannel (by first | rfl | (simp; done) | (simp; omega)) (fun _ _ _ _ => rfl), CvB_row nr_TRegulateBlock (by first | rfl | (simp; done) | (simp; omega)) (fun _ _ _ _ => rfl), CvB_row nr_i64 (by first | rfl | (simp; done) | (simp; omega)) (fun _ _ _ _ => rfl), CvB_none⟩ | trivial
    replace H := cond_f hc H
    refine sq ctNo_ok ?_
    simp only [go_sem]
    refine condM rfl trivial (fun hc => ?_) (fun hc => ?_)
    · replace H := cond_t hc H
      refine rg ctNo_ok ?_
      simp only [go_sem, Nat.reduceLeDiff, Nat.reduceLT, Nat.reduceAdd]
      refine seqM ?_
      refine sq ctNo_ok ?_
      simp only [go_sem]
      refine condM rfl trivial (fun hc => ?_) (fun hc => ?_)
      · replace H := cond_t hc H
        refine sq ctNo_ok ?_
        simp only [go_sem, Nat.reduceAdd]
        refine rg ctNo_ok ?_
        simp only [go_sem, Nat.reduceLT, Nat.reduceAdd]
        obtain rfl := Option.some.inj H
        refine RetE_mk [] [none, none, none, none] ?_ ?_ ?_ ?_ (by rfl) (by rfl)
        · simp only [go_sem]
        · simp only [go_sem]
        · simp only [go_sem]
          exact Cv_tup (CvL_cons (by first | (simp [Cv, CvL]; done) | (simp [Cv, CvL, getM, gt_some]; omega)) (CvL_cons (by first | (simp [Cv]; done) | (simp [Cv, CvL, getM, gt_some]; omega)) (CvL_cons (by simp [Cv]) CvL_nil)))
        · simp only [go_sem, CvH]
          first | exact ⟨CvB_none, CvB_none, CvB_none, CvB_none⟩ | trivial
      replace H := cond_f hc H
      refine rg ctNo_ok ?_
      simp only [go_sem]
      refine seqM ?_
      refine sq ctNo_ok ?_
      simp only [go_sem, Nat.reduceLeDiff, Nat.reduceLT, Nat.reduceAdd]
      refine blkM ?_
      refine sq ctNo_ok ?_
      simp only [go_sem]
      refine condM' rfl trivial (fun hc => ?_) (fun hc => ?_)
      · replace H := cond_f hc H
        refine sq ctNo_ok ?_
        simp only [go_sem]
        refine condM rfl trivial (fun hc => ?_) (fun hc => ?_)
        · replace H := cond_t hc H
          refine seqM ?_
          obtain ⟨r16, e17, H⟩ := bsi H
          refine rg ct37t4_ok ?_
          simp only [go_sem, Nat.reduceLT, Nat.reduceAdd, ct37t4_78, body78, e17]
          refine sq ctNo_ok ?_
          simp only [go_sem, Nat.reduceLT, Nat.reduceAdd]
          refine rg ctNo_ok ?_
          simp only [go_sem, Nat.reduceLT, Nat.reduceAdd]
          obtain rfl := Option.some.inj H
          refine RetE_mk [] [some 3, some 4, some 5, some 6] ?_ ?_ ?_ ?_ (by rfl) (by rfl)
          · simp only [go_sem]
          · simp only [go_sem]
          · simp only [go_sem]
            exact Cv_tup (CvL_cons (by first | (simp [Cv, CvL, getM]; done) | (simp [Cv, CvL, getM, gt_some]; omega)) (CvL_cons (by first | (simp [Cv, getM]; done) | (simp [Cv, CvL, getM, gt_some]; omega)) (CvL_cons (by simp [Cv]) CvL_nil)))
          · simp only [go_sem, CvH]
            first | exact ⟨CvB_row nr_TRegulateChannel (by first | rfl | (simp; done) | (simp; omega)) (fun _ _ _ _ => rfl), CvB_row nr_TRegulateBlock (by first | rfl | (simp; done) | (simp; omega)) (fun _ _ _ _ => rfl), CvB_row nr_i64 (by first | rfl | (simp; done) | (simp; omega)) (fun _ _ _ _ => rfl), CvB_row nr_TRegulateWord (by first | rfl | (simp; done) | (simp; omega)) (fun _ _ _ _ => rfl)⟩ | trivial
        replace H := cond_f hc H
        refine rg ctNo_ok ?_
        simp only [go_sem]
        refine seqM ?_
        obtain ⟨r18, e19, H⟩ := bsi H
        refine rg ct37t5_ok ?_
        simp only [go_sem, Nat.reduceLT, Nat.reduceAdd, ct37t5_24, body24, e19]
        refine sq ctNo_ok ?_
        simp only [go_sem, Nat.reduceLeDiff, Nat.reduceLT, Nat.reduceAdd]
        refine sq ctNo_ok ?_
        simp only [go_sem, Nat.reduceLT, Nat.reduceAdd]
        refine rg ctNo_ok ?_
        simp only [go_sem, Nat.reduceLT, Nat.reduceAdd]
        obtain rfl := Option.some.inj H
        refine RetE_mk [] [some 3, some 4, some 5, none] ?_ ?_ ?_ ?_ (by rfl) (by rfl)
        · simp only [go_sem]
        · simp only [go_sem]
        · simp only [go_sem]
          exact Cv_tup (CvL_cons (by first | (simp [Cv, CvL, getM]; done) | (simp [Cv, CvL, getM, gt_some]; omega)) (CvL_cons (by first | (simp [Cv]; done) | (simp [Cv, CvL, getM, gt_some]; omega)) (CvL_cons (by simp [Cv]) CvL_nil)))
        · simp only [go_sem, CvH]
          first | exact ⟨CvB_row nr_TRegulateChannel (by first | rfl | (simp; done) | (simp; omega)) (fun _ _ _ _ => rfl), CvB_row nr_TRegulateBlock (by first | rfl | (simp; done) | (simp; omega)) (fun _ _ _ _ => rfl), CvB_row nr_i64 (by first | rfl | (simp; done) | (simp; omega)) (fun _ _ _ _ => rfl), CvB_none⟩ | trivial
      replace H := cond_t hc H
      refine seqM ?_
      obtain ⟨r12, e13, H⟩ := bsi H
      refine rg ct37t2_ok ?_
      simp only [go_sem, Nat.reduceLeDiff, Nat.reduceLT, Nat.reduceAdd, ct37t2_18, body18, e13]
      refine seqM ?_
      refine sq ctNo_ok ?_
      simp only [go_sem]
      refine condM rfl trivial (fun hc => ?_) (fun hc => ?_)
      · replace H := cond_t hc H
        refine sq ctNo_ok ?_
        simp only [go_sem, Nat.reduceAdd]
        refine rg ctNo_ok ?_
        simp only [go_sem, Nat.reduceLT, Nat.reduceAdd]
        obtain rfl := Option.some.inj H
        refine RetE_mk [] [none, none, none, none] ?_ ?_ ?_ ?_ (by rfl) (by rfl)
        · simp only [go_sem]
        · simp only [go_sem]
        · simp only [go_sem]
          exact Cv_tup (CvL_cons (by first | (simp [Cv, CvL]; done) | (simp [Cv, CvL, getM, gt_some]; omega)) (CvL_cons (by first | (simp [Cv]; done) | (simp [Cv, CvL, getM, gt_some]; omega)) (CvL_cons (by simp [Cv]) CvL_nil)))
        · simp only [go_sem, CvH]
          first | exact ⟨CvB_none, CvB_none, CvB_none, CvB_none⟩ | trivial
      replace H := cond_f hc H
      refine rg ctNo_ok ?_
      simp only [go_sem]
      refine seqM ?_
      obtain ⟨r14, e15, H⟩ := bsi H
      refine rg ct37t3_ok ?_
      simp only [go_sem, Nat.reduceLT, Nat.reduceAdd, ct37t3_80, body80, e15]
      refine sq ctNo_ok ?_
      simp only [go_sem, Nat.reduceLeDiff, Nat.reduceAdd]
      refine sq ctNo_ok ?_
      simp only [go_sem, Nat.reduceLeDiff, Nat.reduceLT, Nat.reduceAdd]
      refine sq ctNo_ok ?_
      simp only [go_sem, Nat.reduceLeDiff, Nat.reduceLT, Nat.reduceAdd]
      refine sq ctNo_ok ?_
      simp only [go_sem, Nat.reduceLT, Nat.reduceAdd]
      refine rg ctNo_ok ?_
      simp only [go_sem, Nat.reduceLT, Nat.reduceAdd]
      obtain rfl := Option.some.inj H
      refine RetE_mk [] [some 4, some 5, some 6, none] ?_ ?_ ?_ ?_ (by rfl) (by rfl)
      · simp only [go_sem]
      · simp only [go_sem]
      · simp only [go_sem]
        exact Cv_tup (CvL_cons (by first | (simp [Cv, CvL, getM]; done) | (simp [Cv, CvL, getM, gt_some]; omega)) (CvL_cons (by first | (simp [Cv]; done) | (simp [Cv, CvL, getM, gt_some]; omega)) (CvL_cons (by simp [Cv]) CvL_nil)))
      · simp only [go_sem, CvH]
        first | exact ⟨CvB_row nr_TRegulateChannel (by first | rfl | (simp; done) | (simp; omega)) (fun _ _ _ _ => rfl), CvB_row nr_TRegulateBlock (by first | rfl | (simp; done) | (simp; omega)) (fun _ _ _ _ => rfl), CvB_row nr_i64 (by first | rfl | (simp; done) | (simp; omega)) (fun _ _ _ _ => rfl), CvB_none⟩ | trivial
    replace H := cond_f hc H
    refine rg ctNo_ok ?_
    simp only [go_sem, Nat.reduceLeDiff, Nat.reduceLT, Nat.reduceAdd]
    refine seqM ?_
    refine sq ctNo_ok ?_
    simp only [go_sem]
    refine condM rfl trivial (fun hc => ?_) (fun hc => ?_)
    · replace H := cond_t hc H
      refine sq ctNo_ok ?_
      simp only [go_sem, Nat.reduceAdd]
      refine rg ctNo_ok ?_
      simp only [go_sem, Nat.reduceLT, Nat.reduceAdd]
      obtain rfl := Option.some.inj H
      refine RetE_mk [] [none, none, none, none] ?_ ?_ ?_ ?_ (by rfl) (by rfl)
      · simp only [go_sem]
      · simp only [go_sem]
      · simp only [go_sem]
        exact Cv_tup (CvL_cons (by first | (simp [Cv, CvL]; done) | (simp [Cv, CvL, getM, gt_some]; omega)) (CvL_cons (by first | (simp [Cv]; done) | (simp [Cv, CvL, getM, gt_some]; omega)) (CvL_cons (by simp [Cv]) CvL_nil)))
      · simp only [go_sem, CvH]
        first | exact ⟨CvB_none, CvB_none, CvB_none, CvB_none⟩ | trivial
    replace H := cond_f hc H
    refine rg ctNo_ok ?_
    simp only [go_sem]
    refine seqM ?_
    refine sq ctNo_ok ?_
    simp only [go_sem, Nat.reduceLeDiff, Nat.reduceLT, Nat.reduceAdd]
    refine blkM ?_
    refine sq ctNo_ok ?_
    simp only [go_sem]
    refine condM' rfl trivial (fun hc => ?_) (fun hc => ?_)
    · replace H := cond_f hc H
      refine sq ctNo_ok ?_
      simp only [go_sem]
      refine condM rfl trivial (fun hc => ?_) (fun hc => ?_)
      · replace H := cond_t hc H
        refine seqM ?_
        obtain ⟨r24, e25, H⟩ := bsi H
        refine rg ct37t4_ok ?_
        simp only [go_sem, Nat.reduceLT, Nat.reduceAdd, ct37t4_78, body78, e25]
        refine sq ctNo_ok ?_
        simp only [go_sem, Nat.reduceLT, Nat.reduceAdd]
        repeat ((with_reducible refine And.intro ?_ ?_); focus (first | (with_reducible trivial) | omega | grind))
        refine rg ctNo_ok ?_
        simp only [go_sem, Nat.reduceLT, Nat.reduceAdd]
        obtain rfl := Option.some.inj H
        refine RetE_mk [] [some 3, some 4, some 5, some 6] ?_ ?_ ?_ ?_ (by rfl) (by rfl)
        · simp only [go_sem]
        · simp only [go_sem]
        · simp only [go_sem]
          exact Cv_tup (CvL_cons (by first | (simp [Cv, CvL, getM]; done) | (simp [Cv, CvL, getM, gt_some]; omega)) (CvL_cons (by first | (simp [Cv, getM]; done) | (simp [Cv, CvL, getM, gt_some]; omega)) (CvL_cons (by simp [Cv]) CvL_nil)))
        · simp only [go_sem, CvH]
          first | exact ⟨CvB_row nr_TRegulateChannel (by first | rfl | (simp; done) | (simp; omega)) (fun _ _ _ _ => rfl), CvB_row nr_TRegulateBlock (by first | rfl | (simp; done) | (simp; omega)) (fun _ _ _ _ => rfl), CvB_row nr_i64 (by first | rfl | (simp; done) | (simp; omega)) (fun _ _ _ _ => rfl), CvB_row nr_TRegulateWord (by first | rfl | (simp; done) | (simp; omega)) (fun _ _ _ _ => rfl)⟩ | trivial
      replace H := cond_f hc H
      refine rg ctNo_ok ?_
      simp only [go_sem]
      refine seqM ?_
      obtain ⟨r26, e27, H⟩ := bsi H
      refine rg ct37t5_ok ?_
      simp only [go_sem, Nat.reduceLT, Nat.reduceAdd, ct37t5_24, body24, e27]
      refine sq ctNo_ok ?_
      simp only [go_sem, Nat.reduceLeDiff, Nat.reduceLT, Nat.reduceAdd]
      refine sq ctNo_ok ?_
      simp only [go_sem, Nat.reduceLT, Nat.reduceAdd]
      refine rg ctNo_ok ?_
      simp only [go_sem, Nat.reduceLT, Nat.reduceAdd]
      obtain rfl := Option.some.inj H
      refine RetE_mk [] [some 3, some 4, some 5, none] ?_ ?_ ?_ ?_ (by rfl) (by rfl)
      · simp only [go_sem]
      · simp only [go_sem]
      · simp only [go_sem]
        exact Cv_tup (CvL_cons (by first | (simp [Cv, CvL, getM]; done) | (simp [Cv, CvL, getM, gt_some]; omega)) (CvL_cons (by first | (simp [Cv]; done) | (simp [Cv, CvL, getM, gt_some]; omega)) (CvL_cons (by simp [Cv]) CvL_nil)))
      · simp only [go_sem, CvH]
        first | exact ⟨CvB_row nr_TRegulateChannel (by first | rfl | (simp; done) | (simp; omega)) (fun _ _ _ _ => rfl), CvB_row nr_TRegulateBlock (by first | rfl | (simp; done) | (simp; omega)) (fun _ _ _ _ => rfl), CvB_row nr_i64 (by first | rfl | (simp; done) | (simp; omega)) (fun _ _ _ _ => rfl), CvB_none⟩ | trivial
    replace H := cond_t hc H
    refine seqM ?_
    obtain ⟨r20, e21, H⟩ := bsi H
    refine rg ct37t2_ok ?_
    simp only [go_sem, Nat.reduceLeDiff, Nat.reduceLT, Nat.reduceAdd, ct37t2_18, body18, e21]
    refine seqM ?_
    refine sq ctNo_ok ?_
    simp only [go_sem]
    refine condM rfl trivial (fun hc => ?_) (fun hc => ?_)
    · replace H := cond_t hc H
      refine sq ctNo_ok ?_
      simp only [go_sem, Nat.reduceAdd]
      refine rg ctNo_ok ?_
      simp only [go_sem, Nat.reduceLT, Nat.reduceAdd]
      obtain rfl := Option.some.inj H
      refine RetE_mk [] [none, none, none, none] ?_ ?_ ?_ ?_ (by rfl) (by rfl)
      · simp only [go_sem]
      · simp only [go_sem]
      · simp only [go_sem]
        exact Cv_tup (CvL_cons (by first | (simp [Cv, CvL]; done) | (simp [Cv, CvL, getM, gt_some]; omega)) (CvL_cons (by first | (simp [Cv]; done) | (simp [Cv, CvL, getM, gt_some]; omega)) (CvL_cons (by simp [Cv]) CvL_nil)))
      · simp only [go_sem, CvH]
        first | exact ⟨CvB_none, CvB_none, CvB_none, CvB_none⟩ | trivial
    replace H := cond_f hc H
    refine rg ctNo_ok ?_
    simp only [go_sem]
    refine seqM ?_
    obtain ⟨r22, e23, H⟩ := bsi H
    refine rg ct37t3_ok ?_
    simp only [go_sem, Nat.reduceLT, Nat.reduceAdd, ct37t3_80, body80, e23]
    refine sq ctNo_ok ?_
    simp only [go_sem, Nat.reduceLeDiff, Nat.reduceAdd]
    refine sq ctNo_ok ?_
    simp only [go_sem, Nat.reduceLeDiff, Nat.reduceLT, Nat.reduceAdd]
    refine sq ctNo_ok ?_
    simp only [go_sem, Nat.reduceLeDiff, Nat.reduceLT, Nat.reduceAdd]
    refine sq ctNo_ok ?_
    simp only [go_sem, Nat.reduceLT, Nat.reduceAdd]
    refine rg ctNo_ok ?_
    simp only [go_sem, Nat.reduceLT, Nat.reduceAdd]
    obtain rfl := Option.some.inj H
    refine RetE_mk [] [some 4, some 5, some 6, none] ?_ ?_ ?_ ?_ (by rfl) (by rfl)
    · simp only [go_sem]
    · simp only [go_sem]
    · simp only [go_sem]
      exact Cv_tup (CvL_cons (by first | (simp [Cv, CvL, getM]; done) | (simp [Cv, CvL, getM, gt_some]; omega)) (CvL_cons (by first | (simp [Cv]; done) | (simp [Cv, CvL, getM, gt_some]; omega)) (CvL_cons (by simp [Cv]) CvL_nil)))
    · simp only [go_sem, CvH]
      first | exact ⟨CvB_row nr_TRegulateChannel (by first | rfl | (simp; done) | (simp; omega)) (fun _ _ _ _ => rfl), CvB_row nr_TRegulateBlock (by first | rfl | (simp; done) | (simp; omega)) (fun _ _ _ _ => rfl), CvB_row nr_i64 (by first | rfl | (simp; done) | (simp; omega)) (fun _ _ _ _ => rfl), CvB_none⟩ | trivial
  · cases hb
/-! hotspot/regulate.Tick$1 -/
noncomputable def F56_0 (p0 : TRegulateBlock) (p1 : Int) : Option (Bool) :=
  some (bLe p0.Until p1)
noncomputable def body56_0 : List AV -> AR
  | [v0, v1] => .pure (aK 2 k_TRegulateBlock v0 /\ rK 1 k_i64 v1 /\ (F56_0 (g_TRegulateBlock (aL v0)) (g_i64 (rG v1))).isSome = true) (.bool (gt (F56_0 (g_TRegulateBlock (aL v0)) (g_i64 (rG v1)))))
  | _ => .fail
set_option maxHeartbeats 4000000 in
set_option maxRecDepth 20000 in
theorem ok56_0 : FnOk Try.prog 56 (pureC body56_0) := by
  refine pure_fnM body56_0 (rs := [.tmp 3]) Try.func56 (by kernel_rfl) rfl rfl ?_
  intro l ob v hb hob
  unfold body56_0 at hb
  split at hb
  · rename_i v0 v1
    injection hb with q1 q2; subst q1 q2
    obtain ⟨hk0_0, hk1_0, hob⟩ := hob
    obtain ⟨r, H⟩ := Option.isSome_iff_exists.1 hob
    rw [H, gt_some]
    have hw0 := wA_TRegulateBlock hk0_0
    have hw1 := rK_wk (f := c_i64) (g := g_i64) (fun r h => w_i64 h) hk1_0
    generalize g_TRegulateBlock (aL v0) = p0 at H hw0
    generalize g_i64 (rG v1) = p1 at H hw1
    refine ⟨[.agg [.int .i64 p0.Channel, .int .i64 p0.Until], .rptr 1 1 0 0 (enR c_i64 [p1])], _, (fun E vs F => FR_wk1 hw0.1 F (fun vs F => FR_wk1 hw1.1 F (fun vs F => F))), rfl, rfl, ?_⟩
    rw [Try.ntmps56]
    simp only [List.length_cons, List.length_nil, Nat.reduceAdd, Nat.reduceSub, List.replicate_succ, List.replicate_zero, List.cons_append, List.nil_append]
    unfold F56_0 at H
    refine sq ctNo_ok ?_
    simp only [go_sem]
    refine sq ctNo_ok ?_
    simp only [go_sem, Nat.reduceLT, Nat.reduceAdd]
    refine rg ctNo_ok ?_
    simp only [go_sem]
    obtain rfl := Option.some.inj H
    first | rfl | simp only [Bool.and_false, Bool.false_and, Bool.and_true, Bool.true_and]
  · cases hb
/-! slices.IndexFunc[[]hotspot/api.RegulateBlock,hotspot/api.RegulateBlock] -/
noncomputable def ct93_0t0 : Ct := tab [(56, pureC body56_0)]
theorem ct93_0t0_ok : CtOk Try.prog ct93_0t0 := tab_cons ok56_0 <| tab_nil
theorem ct93_0t0_56 (l : List AV) (h : List ABlk) : ct93_0t0 56 l h = pureC body56_0 l h := rfl
noncomputable def F93_0_L1 (p0 : List TRegulateBlock) (p1 : Int) (v1_1 : Int) : Option (Lp (Int) ((Unit) ⊕ (Int))) :=
  bif (bLt v1_1 (p0.length : Nat)) then (need (inb v1_1 p0.length) <| (F56_0 (gd p0 v1_1.toNat) p1).bind fun r2 => bif r2 then (some (.done (.inr v1_1))) else (some (.next (wr .i64 (v1_1 + 1))))) else (some (.done (.inl ())))
noncomputable def F93_0 (p0 : List TRegulateBlock) (p1 : Int) : Option (Int) :=
  lp (loopD (fun s => F93_0_L1 p0 p1 s) 0) (fun e => some (-1)) some
noncomputable def body93_0 : List AV -> AR
  | [v0, .fn 56 [v1]] => .pure (lK k_TRegulateBlock 2 v0 /\ rK 1 k_i64 v1 /\ (F93_0 (lA g_TRegulateBlock v0) (g_i64 (rG v1))).isSome = true) (.int .i64 (gt (F93_0 (lA g_TRegulateBlock v0) (g_i64 (rG v1)))))
  | _ => .fail
set_option maxHeartbeats 4000000 in
set_option maxRecDepth 20000 in
theorem ok93_0 : FnOk Try.prog 93 (pureC body93_0) := by
  refine pure_fnM body93_0 (rs := [.tmp 4]) Try.func93 (by kernel_rfl) rfl rfl ?_
  intro l ob v hb hob
  unfold body93_0 at hb
  split at hb
  · rename_i v0 v1
    injection hb with q1 q2; subst q1 q2
    obtain ⟨hk0_0, hk1_0, hob⟩ := hob
    obtain ⟨r, H⟩ := Option.isSome_iff_exists.1 hob
    rw [H, gt_some]
    have hw0 := lK_wk (fun r h => w_TRegulateBlock h) hk0_0
    have hw1 := rK_wk (f := c_i64) (g := g_i64) (fun r h => w_i64 h) hk1_0
    generalize lA g_TRegulateBlock v0 = p0 at H hw0
    generalize g_i64 (rG v1) = p1 at H hw1
    refine ⟨[.ro 2 p0.length false (enR c_TRegulateBlock p0), .fn 56 [.rptr 1 1 0 0 (enR c_i64 [p1])]], _, (fun E vs F => FR_wk1 hw0.1 F (fun vs F => FR_wk1 (fn_wk (LW_cons hw1.1 LW_nil)) F (fun vs F => F))), rfl, rfl, ?_⟩
    rw [Try.ntmps93]
    simp only [List.length_cons, List.length_nil, Nat.reduceAdd, Nat.reduceSub, List.replicate_succ, List.replicate_zero, List.cons_append, List.nil_append]
    unfold F93_0 at H
    refine sq ctNo_ok ?_
    simp only [go_sem]
    refine seqM ?_
    refine sq ctNo_ok ?_
    simp only [go_sem]
    refine blkM ?_
    refine loop_den (fun s : Int => (.ro 2 p0.length false (enR c_TRegulateBlock p0) :: .fn 56 [.rptr 1 1 0 0 (enR c_i64 [p1])] :: tp 5 (.int .i64 (p0.length : Nat) :: .int .i64 s :: tp 10 []))) (fun s => []) (fun e : Unit => (tp 19 [])) (fun e => []) H ?_ (fun v1_1 o H hn1_1 hn2_1 => ?_) (fun e H => ?_)
    · refine SubF_of ⟨[], ?_, ?_, by rfl, by rfl⟩
      · simp [CvL, Cv, tp]
      · trivial
    · unfold F93_0_L1 at H
      try simp only [tp]
      refine sq ctNo_ok ?_
      simp only [go_sem]
      refine seqM ?_
      refine condM' rfl trivial (fun hc => ?_) (fun hc => ?_)
      · replace H := cond_f hc H
        refine rg ctNo_ok ?_
        simp only [go_sem]
        refine ⟨_, (Option.some.inj H).symm, ?_⟩
        refine SubF_of ⟨[], ?_, ?_, by rfl, by rfl⟩
        · simp [CvL, Cv]
        · trivial
      replace H := cond_t hc H
      refine rg ctNo_ok ?_
      simp only [go_sem]
      refine seqM ?_
      refine blkM ?_
      refine sq ctNo_ok ?_
      simp only [go_sem]
      refine seqM ?_
      obtain ⟨f1, H⟩ := need_some.1 H
      replace f1 := inb_iff.1 f1
      obtain ⟨r2, e3, H⟩ := bsi H
      refine rg ct93_0t0_ok ?_
      simp only [go_sem, Nat.reduceLT, Nat.reduceAdd, ct93_0t0_56, body56_0, f1, e3]
      refine condM rfl trivial (fun hc => ?_) (fun hc => ?_)
      · replace H := cond_t hc H
        refine sq ctNo_ok ?_
        simp only [go_sem]
        refine rg ctNo_ok ?_
        simp only [go_sem]
        have H := hn2_1 _ (Option.some.inj H).symm
        obtain rfl := Option.some.inj H
        first | rfl | simp only [Bool.and_false, Bool.false_and, Bool.and_true, Bool.true_and]
      replace H := cond_f hc H
      refine rg ctNo_ok ?_
      simp only [go_sem]
      refine rg ctNo_ok ?_
      simp only [go_sem]
      refine ⟨_, (Option.some.inj H).symm, ?_⟩
      refine SubF_of ⟨[], ?_, ?_, by rfl, by rfl⟩
      · simp [CvL, Cv]
      · trivial
    · try dsimp only at H ⊢
      try simp only [tp]
      try simp only [m_normal]
      refine sq ctNo_ok ?_
      simp only [go_sem]
      refine rg ctNo_ok ?_
      simp only [go_sem]
      obtain rfl := Option.some.inj H
      first | rfl | simp only [Bool.and_false, Bool.false_and, Bool.and_true, Bool.true_and]
  · cases hb
/-! slices.DeleteFunc[[]hotspot/api.RegulateBlock,hotspot/api.RegulateBlock] -/
noncomputable def ct55_0t0 : Ct := tab [(93, pureC body93_0)]
theorem ct55_0t0_ok : CtOk Try.prog ct55_0t0 := tab_cons ok93_0 <| tab_nil
theorem ct55_0t0_93 (l : List AV) (h : List ABlk) : ct55_0t0 93 l h = pureC body93_0 l h := rfl
noncomputable def ct55_0t1 : Ct := tab [(56, pureC body56_0)]
theorem ct55_0t1_ok : CtOk Try.prog ct55_0t1 := tab_cons ok56_0 <| tab_nil
theorem ct55_0t1_56 (l : List AV) (h : List ABlk) : ct55_0t1 56 l h = pureC body56_0 l h := rfl
noncomputable def F55_0_L1 (p1 : Int) (v1_1 : List TRegulateBlock) (v1_2 : Int) (v1_3 : Int) : Option (Lp ((List TRegulateBlock) × Int × Int) (((List TRegulateBlock) × Int) ⊕ (List TRegulateBlock))) :=
  bif (bLt v1_3 (v1_1.length : Nat)) then (need (inb v1_3 v1_1.length) <| (F56_0 (gd v1_1 v1_3.toNat) p1).bind fun r4 => bif (!r4) then (need (inb v1_2 v1_1.length) <| some (.next ((v1_1.set v1_2.toNat (gd v1_1 v1_3.toNat)), wr .i64 (v1_2 + 1), wr .i64 (v1_3 + 1)))) else (some (.next (v1_1, v1_2, wr .i64 (v1_3 + 1))))) else (some (.done (.inl (v1_1, v1_2))))
noncomputable def F55_0 (p0 : List TRegulateBlock) (p1 : Int) : Option (List TRegulateBlock) :=
  (F93_0 p0 p1).bind fun r1 => bif (bEq r1 (-1)) then (some p0) else (lp (loopD (fun s => F55_0_L1 p1 s.1 s.2.1 s.2.2) (p0, r1, wr .i64 (r1 + 1))) (fun e => need (slb e.2 (e.1.length : Nat) e.1.length) <| need (slb 0 e.2 e.1.length) <| some (List.take e.2.toNat e.1)) some)
noncomputable def body55_0 : List AV -> List ABlk -> ED
  | [v0, .fn 56 [v1]], h => .ed [slN v0] (oS 79 2 h v0 /\ lK k_TRegulateBlock 2 (roW h v0) /\ rK 1 k_i64 (roD (deadL h [slN v0]) v1) /\ roDOb (deadL h [slN v0]) v1 /\ (F55_0 (lA g_TRegulateBlock (roW h v0)) (g_i64 (rG (roD (deadL h [slN v0]) v1)))).isSome = true) (.sl 1 2 0 ((gt (F55_0 (lA g_TRegulateBlock (roW h v0)) (g_i64 (rG (roD (deadL h [slN v0]) v1))))).length) false) [.dead, .row 79 2 ((gt (F55_0 (lA g_TRegulateBlock (roW h v0)) (g_i64 (rG (roD (deadL h [slN v0]) v1))))).length) (enR c_TRegulateBlock (gt (F55_0 (lA g_TRegulateBlock (roW h v0)) (g_i64 (rG (roD (deadL h [slN v0]) v1))))))]
  | _, _ => .fail
set_option maxHeartbeats 4000000 in
set_option maxRecDepth 20000 in
theorem ok55_0 : FnOk Try.prog 55 (edC body55_0) := by
  refine edit_fnV body55_0 (rs := [.tmp 4]) Try.func55 (by kernel_rfl) rfl rfl ?_
  intro l h bs ob q0 g0 hb hob
  unfold body55_0 at hb
  split at hb
  · rename_i v0 v1
    injection hb with q1 q2 q3 q4; subst q1 q2 q3 q4
    obtain ⟨hk0_0, hk0_1, hk1_0, hk1_1, hob⟩ := hob
    obtain ⟨r, H⟩ := Option.isSome_iff_exists.1 hob
    rw [H, gt_some]
    obtain ⟨p0, hp0⟩ : ∃ p0, p0 = lA g_TRegulateBlock (roW h v0) := ⟨_, rfl⟩
    rw [← hp0] at H
    obtain ⟨ev0, eb0⟩ := own_row2 (f := c_TRegulateBlock) (g := g_TRegulateBlock) (bs := [slN v0]) (i := 0) (fun hr => w_TRegulateBlock hr) hk0_0 hk0_1 (L := p0) (by rw [hp0]) rfl
    have hw1 := rK_wk (f := c_i64) (g := g_i64) (fun r h => w_i64 h) hk1_0
    obtain ⟨p1, hp_p1⟩ : ∃ p1, p1 = g_i64 (rG (roD (deadL h [slN v0]) v1)) := ⟨_, rfl⟩
    rw [← hp_p1] at H hw1
    refine ⟨[.sl 0 2 0 p0.length false, .fn 56 [.rptr 1 1 0 0 (enR c_i64 [p1])]], [.row 79 2 p0.length (enR c_TRegulateBlock p0)], rfl, ⟨(EW_own ev0 (by simp only [noro])), ⟨(EW_fn ⟨(EW_view hk1_1 hw1), trivial⟩), trivial⟩⟩, ⟨eb0, trivial⟩, ⟨noroB_en, trivial⟩, ⟨trivial, ⟨(nfB_en nr_TRegulateBlock), trivial⟩⟩, ⟨trivial, ⟨noroB_en, trivial⟩⟩, (by first | (simp only [noro]; done) | (simp only [noro, noroL]; and_intros <;> first | trivial | exact noro_bif (by simp only [noro]) (by simp only [noro]) | (simp only [noro, noroL, and_self]))), ?_⟩
    rw [Try.ntmps55]
    simp only [List.length_cons, List.length_nil, Nat.reduceAdd, Nat.reduceSub, List.replicate_succ, List.replicate_zero, List.cons_append, List.nil_append]
    unfold F55_0 at H
    try dsimp only at H
    refine sq ctNo_ok ?_
    simp only [go_sem]
    refine seqM ?_
    obtain ⟨r1, e2, H⟩ := bsi H
    refine rg ct55_0t0_ok ?_
    simp only [go_sem, Nat.reduceLT, ct55_0t0_93, body93_0, e2]
    repeat ((with_reducible refine And.intro ?_ ?_); focus (first | (and_intros <;> first | (with_reducible trivial) | omega | assumption | exact nfc | first | exact rfl | exact trivial | exact fitI | exact .inr rfl | exact .inl rfl | exact fun x hx => absurd hx (by omega)) | grind))
    refine seqM ?_
    refine sq ctNo_ok ?_
    simp only [go_sem]
    refine condM rfl trivial (fun hc => ?_) (fun hc => ?_)
    · replace H := cond_t hc H
      refine sq ctNo_ok ?_
      simp only [go_sem]
      refine rg ctNo_ok ?_
      simp only [go_sem]
      obtain rfl := Option.some.inj H
      refine RetE_mk [] [some 0, some 0] ?_ ?_ ?_ ?_ (by rfl) (by rfl)
      · simp only [go_sem]
      · simp only [go_sem]
      · simp only [go_sem]
        exact (by first | (simp [Cv, getM]; done) | (simp [Cv, CvL, getM, gt_some]; omega))
      · simp only [go_sem, CvH]
        first | exact ⟨CvB_dead, CvB_row nr_TRegulateBlock (by first | rfl | (simp; done) | (simp; omega)) (fun _ _ _ _ => rfl)⟩ | trivial
    replace H := cond_f hc H
    refine rg ctNo_ok ?_
    simp only [go_sem]
    refine seqM ?_
    refine sq ctNo_ok ?_
    simp only [go_sem]
    refine blkM ?_
    refine loop_den (fun s : (List TRegulateBlock) × Int × Int => (.sl 1 2 0 s.1.length false :: .fn 56 [.rptr 1 1 0 0 (enR c_i64 [p1])] :: .top :: .top :: .top :: .int .i64 s.2.1 :: .int .i64 s.2.2 :: tp 35 [])) (fun s => [.dead, .row 79 2 s.1.length (enR c_TRegulateBlock s.1)]) (fun e : (List TRegulateBlock) × Int => (.sl 1 2 0 e.1.length false :: tp 4 (.int .i64 e.2 :: tp 36 []))) (fun e => [.dead, .row 79 2 e.1.length (enR c_TRegulateBlock e.1)]) H ?_ (fun s o H hn1_1 hn2_1 => ?_) (fun e H => ?_)
    · refine SubF_of ⟨[some 0, some 0], ?_, ?_, by rfl, by rfl⟩
      · simp [CvL, Cv, getM, tp]
      · exact ⟨CvB_dead, CvB_row nr_TRegulateBlock (by first | rfl | (simp; done) | (simp; omega)) (fun _ _ _ _ => rfl), trivial⟩
    · obtain ⟨v1_1, v1_2, v1_3⟩ := s
      unfold F55_0_L1 at H
      try dsimp only at H ⊢
      try simp only [tp]
      refine seqM ?_
      refine sq ctNo_ok ?_
      simp only [go_sem]
      repeat ((with_reducible refine And.intro ?_ ?_); focus (first | (and_intros <;> first | (with_reducible trivial) | omega | assumption | exact nfc | first | exact rfl | exact trivial | exact fitI | exact .inr rfl | exact .inl rfl | exact fun x hx => absurd hx (by omega)) | grind))
      refine condM' rfl trivial (fun hc => ?_) (fun hc => ?_)
      · replace H := cond_f hc H
        refine rg ctNo_ok ?_
        simp only [go_sem]
        refine ⟨_, (Option.some.inj H).symm, ?_⟩
        refine SubF_of ⟨[some 0, some 1], ?_, ?_, by rfl, by rfl⟩
        · simp [CvL, Cv, getM]
        · exact ⟨CvB_dead, CvB_row nr_TRegulateBlock (by first | rfl | (simp; done) | (simp; omega)) (fun _ _ _ _ => rfl), trivial⟩
      replace H := cond_t hc H
      refine rg ctNo_ok ?_
      simp only [go_sem]
      refine seqM ?_
      refine blkM ?_
      refine seqM ?_
      obtain ⟨f3, H⟩ := need_some.1 H
      replace f3 := inb_iff.1 f3
      refine rg ctNo_ok ?_
      simp only [go_sem, Nat.reduceLT, Nat.reduceAdd, f3]
      repeat ((with_reducible refine And.intro ?_ ?_); focus (first | (with_reducible trivial) | omega | grind))
      refine seqM ?_
      obtain ⟨r4, e5, H⟩ := bsi H
      refine rg ct55_0t1_ok ?_
      simp only [go_sem, Nat.reduceLT, Nat.reduceAdd, ct55_0t1_56, body56_0, e5]
      refine condM' rfl trivial (fun hc => ?_) (fun hc => ?_)
      · replace H := cond_f hc H
        refine rg ctNo_ok ?_
        simp only [go_sem]
        refine rg ctNo_ok ?_
        simp only [go_sem]
        refine ⟨_, (Option.some.inj H).symm, ?_⟩
        refine SubF_of ⟨[some 0, some 1], ?_, ?_, by rfl, by rfl⟩
        · simp [CvL, Cv, getM]
        · exact ⟨CvB_dead, CvB_row nr_TRegulateBlock (by first | rfl | (simp; done) | (simp; omega)) (fun _ _ _ _ => rfl), trivial⟩
      replace H := cond_t hc H
      refine seqM ?_
      obtain ⟨f6, H⟩ := need_some.1 H
      replace f6 := inb_iff.1 f6
      refine rg ctNo_ok ?_
      simp only [go_sem, Nat.reduceLT, Nat.reduceAdd, f6]
      refine rg ctNo_ok ?_
      simp only [go_sem]
      refine rg ctNo_ok ?_
      simp only [go_sem]
      refine ⟨_, (Option.some.inj H).symm, ?_⟩
      refine SubF_of ⟨[some 0, some 1], ?_, ?_, by rfl, by rfl⟩
      · simp [CvL, Cv, getM]
      · exact ⟨CvB_dead, CvB_row nr_TRegulateBlock (by first | rfl | (simp; done) | (simp; omega)) (upc_row (f := c_TRegulateBlock) v1_1 v1_2.toNat 0 (gd v1_1 v1_3.toNat) (fun _ _ _ _ => rfl) (fun y hy => match y, hy with | 0, _ => rfl | 1, _ => rfl | (y+2), h => absurd h (by omega))), trivial⟩
    · obtain ⟨w1_4, w1_5⟩ := e
      try dsimp only at H ⊢
      try simp only [tp]
      try simp only [m_normal]
      refine seqM ?_
      obtain ⟨f7, H⟩ := need_some.1 H
      replace f7 := slb_iff.1 f7
      refine rg ctNo_ok ?_
      simp only [go_sem, Nat.reduceLeDiff, Nat.reduceAdd, f7]
      repeat ((with_reducible refine And.intro ?_ ?_); focus (first | (and_intros <;> first | (with_reducible trivial) | omega | assumption | exact nfc | first | exact rfl | exact trivial | exact fitI | exact .inr rfl | exact .inl rfl | exact fun x hx => absurd hx (by omega) | (intro x hx; (repeat (first | (and_intros <;> (first | exact rfl | exact trivial | exact fitI | exact .inr rfl | exact .inl rfl | exact fun x hx => absurd hx (by omega))) | (exfalso; omega) | (rcases x with _ | x))); done)) | grind))
      refine seqM ?_
      obtain ⟨f8, H⟩ := need_some.1 H
      replace f8 := slb_iff.1 f8
      refine rg ctNo_ok ?_
      simp only [go_sem, f8]
      repeat ((with_reducible refine And.intro ?_ ?_); focus (first | (with_reducible trivial) | omega | grind))
      refine rg ctNo_ok ?_
      simp only [go_sem]
      obtain rfl := Option.some.inj H
      refine RetE_mk [] [some 0, some 1] ?_ ?_ ?_ ?_ (by rfl) (by rfl)
      · simp only [go_sem]
      · simp only [go_sem]
      · simp only [go_sem]
        exact (by first | (simp [Cv, getM, (show (List.take w1_5.toNat w1_4).length = w1_5.toNat from take_len (n := w1_4.length) (by first | rfl | (simp; done) | (simp; omega)) (by omega))]; done) | (simp [Cv, CvL, getM, gt_some, (show (List.take w1_5.toNat w1_4).length = w1_5.toNat from take_len (n := w1_4.length) (by first | rfl | (simp; done) | (simp; omega)) (by omega))]; omega))
      · simp only [go_sem, CvH]
        first | exact ⟨CvB_dead, (CvB_pre nr_TRegulateBlock (by rw [show (List.take w1_5.toNat w1_4).length = w1_5.toNat from take_len (n := w1_4.length) (by first | rfl | (simp; done) | (simp; omega)) (by omega)]; omega) (clr_row (fun _ _ _ _ => rfl)))⟩ | trivial
  · cases hb
/-! hotspot/regulate.Tick -/
noncomputable def ct23t0 : Ct := tab [(50, edC body50)]
theorem ct23t0_ok : CtOk Try.prog ct23t0 := tab_cons ok50 <| tab_nil
theorem ct23t0_50 (l : List AV) (h : List ABlk) : ct23t0 50 l h = edC body50 l h := rfl
noncomputable def ct23t1 : Ct := tab [(55, edC body55_0)]
theorem ct23t1_ok : CtOk Try.prog ct23t1 := tab_cons ok55_0 <| tab_nil
theorem ct23t1_55 (l : List AV) (h : List ABlk) : ct23t1 55 l h = edC body55_0 l h := rfl
noncomputable def ct23t2 : Ct := tab [(57, edC body57_0)]
theorem ct23t2_ok : CtOk Try.prog ct23t2 := tab_cons ok57_0 <| tab_nil
theorem ct23t2_57 (l : List AV) (h : List ABlk) : ct23t2 57 l h = edC body57_0 l h := rfl
noncomputable def F23 (p0 : TRegulate) (p1 : Int) : Option (TRegulate × (List TRegulateWord) × Int) :=
  (F50 p0 p1 0).bind fun r1 => bif r1.1.isSome then (bif (!bEq r1.2 0) then (some ((TRegulate.mk [] 0 false 0 false false 0 0 [] []), [], r1.2)) else ((F55_0 ((gt r1.1).Blocked) p1).bind fun r4 => bif ((gt r1.1).Moving && (bLe ((gt r1.1).At) p1)) then (bif (!((gt r1.1).Lead)) then (some ((TRegulate.mk ((gt r1.1).Table) ((gt r1.1).To) ((gt r1.1).Lead) ((gt r1.1).At) false false 0 0 r4 ((gt r1.1).Clear)), [], 0)) else (some ((TRegulate.mk ((gt r1.1).Table) ((gt r1.1).To) ((gt r1.1).Lead) ((gt r1.1).Heard) false false 0 0 r4 ((gt r1.1).Clear)), [], 0))) else (bif ((gt r1.1).Moving && (gt r1.1).Lead) then ((F57_0 ((gt r1.1).Channel) ((gt r1.1).To) ((gt r1.1).At)).bind fun r6 => some ((TRegulate.mk ((gt r1.1).Table) ((gt r1.1).Channel) ((gt r1.1).Lead) ((gt r1.1).Heard) ((gt r1.1).Stopped) ((gt r1.1).Moving) ((gt r1.1).To) ((gt r1.1).At) r4 ((gt r1.1).Clear)), r6, 0)) else (some ((TRegulate.mk ((gt r1.1).Table) ((gt r1.1).Channel) ((gt r1.1).Lead) ((gt r1.1).Heard) ((gt r1.1).Stopped) ((gt r1.1).Moving) ((gt r1.1).To) ((gt r1.1).At) r4 ((gt r1.1).Clear)), [], 0))))) else (bif (!bEq r1.2 0) then (some ((TRegulate.mk [] 0 false 0 false false 0 0 [] []), [], r1.2)) else (none))
noncomputable def body23 : List AV -> List ABlk -> ED
  | [v0, v1], h => .ed [] (aK 10 k_TRegulate (roD (deadL h []) v0) /\ roDOb (deadL h []) v0 /\ iK .i64 (roD (deadL h []) v1) /\ roDOb (deadL h []) v1 /\ (F23 (g_TRegulate (aL (roD (deadL h []) v0))) (iA (roD (deadL h []) v1))).isSome = true) (.tup [.agg [.sl 0 3 0 ((((gt (F23 (g_TRegulate (aL (roD (deadL h []) v0))) (iA (roD (deadL h []) v1)))).1).Table).length) false, .int .i64 (((gt (F23 (g_TRegulate (aL (roD (deadL h []) v0))) (iA (roD (deadL h []) v1)))).1).Channel), .bool (((gt (F23 (g_TRegulate (aL (roD (deadL h []) v0))) (iA (roD (deadL h []) v1)))).1).Lead), .int .i64 (((gt (F23 (g_TRegulate (aL (roD (deadL h []) v0))) (iA (roD (deadL h []) v1)))).1).Heard), .bool (((gt (F23 (g_TRegulate (aL (roD (deadL h []) v0))) (iA (roD (deadL h []) v1)))).1).Stopped), .bool (((gt (F23 (g_TRegulate (aL (roD (deadL h []) v0))) (iA (roD (deadL h []) v1)))).1).Moving), .int .i64 (((gt (F23 (g_TRegulate (aL (roD (deadL h []) v0))) (iA (roD (deadL h []) v1)))).1).To), .int .i64 (((gt (F23 (g_TRegulate (aL (roD (deadL h []) v0))) (iA (roD (deadL h []) v1)))).1).At), .sl 1 2 0 ((((gt (F23 (g_TRegulate (aL (roD (deadL h []) v0))) (iA (roD (deadL h []) v1)))).1).Blocked).length) false, .sl 2 1 0 ((((gt (F23 (g_TRegulate (aL (roD (deadL h []) v0))) (iA (roD (deadL h []) v1)))).1).Clear).length) false], .sl 3 4 0 (((gt (F23 (g_TRegulate (aL (roD (deadL h []) v0))) (iA (roD (deadL h []) v1)))).2.1).length) false, .int .i64 ((gt (F23 (g_TRegulate (aL (roD (deadL h []) v0))) (iA (roD (deadL h []) v1)))).2.2)]) [.row 45 3 ((((gt (F23 (g_TRegulate (aL (roD (deadL h []) v0))) (iA (roD (deadL h []) v1)))).1).Table).length) (enR c_TRegulateChannel (((gt (F23 (g_TRegulate (aL (roD (deadL h []) v0))) (iA (roD (deadL h []) v1)))).1).Table)), .row 79 2 ((((gt (F23 (g_TRegulate (aL (roD (deadL h []) v0))) (iA (roD (deadL h []) v1)))).1).Blocked).length) (enR c_TRegulateBlock (((gt (F23 (g_TRegulate (aL (roD (deadL h []) v0))) (iA (roD (deadL h []) v1)))).1).Blocked)), .row 3 1 ((((gt (F23 (g_TRegulate (aL (roD (deadL h []) v0))) (iA (roD (deadL h []) v1)))).1).Clear).length) (enR c_i64 (((gt (F23 (g_TRegulate (aL (roD (deadL h []) v0))) (iA (roD (deadL h []) v1)))).1).Clear)), .row 23 4 (((gt (F23 (g_TRegulate (aL (roD (deadL h []) v0))) (iA (roD (deadL h []) v1)))).2.1).length) (enR c_TRegulateWord ((gt (F23 (g_TRegulate (aL (roD (deadL h []) v0))) (iA (roD (deadL h []) v1)))).2.1))]
  | _, _ => .fail
set_option maxHeartbeats 4000000 in
set_option maxRecDepth 20000 in
theorem ok23 : FnOk Try.prog 23 (edC body23) := by
  refine edit_fnV body23 (rs := [.cell 4 39, .tmp 5, .tmp 6]) Try.func23 (by kernel_rfl) rfl rfl ?_
  intro l h bs ob q0 g0 hb hob
  unfold body23 at hb
  split at hb
  · rename_i v0 v1
    injection hb with q1 q2 q3 q4; subst q1 q2 q3 q4
    obtain ⟨hk0_0, hk0_1, hk1_0, hk1_1, hob⟩ := hob
    obtain ⟨r, H⟩ := Option.isSome_iff_exists.1 hob
    rw [H, gt_some]
    have hw0 := wA_TRegulate hk0_0
    obtain ⟨p0, hp_p0⟩ : ∃ p0, p0 = g_TRegulate (aL (roD (deadL h []) v0)) := ⟨_, rfl⟩
    rw [← hp_p0] at H hw0
    have hw1 := iK_wk hk1_0
    obtain ⟨p1, hp_p1⟩ : ∃ p1, p1 = iA (roD (deadL h []) v1) := ⟨_, rfl⟩
    rw [← hp_p1] at H hw1
    refine ⟨[.agg [.ro 3 p0.Table.length false (enR c_TRegulateChannel p0.Table), .int .i64 p0.Channel, .bool p0.Lead, .int .i64 p0.Heard, .bool p0.Stopped, .bool p0.Moving, .int .i64 p0.To, .int .i64 p0.At, .ro 2 p0.Blocked.length false (enR c_TRegulateBlock p0.Blocked), .ro 1 p0.Clear.length false (enR c_i64 p0.Clear)], .int .i64 p1], [], rfl, ⟨(EW_view hk0_1 hw0), ⟨(EW_view hk1_1 hw1), trivial⟩⟩, trivial, trivial, ⟨(nfB_en nr_TRegulateChannel), ⟨(nfB_en nr_TRegulateBlock), ⟨(nfB_en nr_i64), ⟨(nfB_en nr_TRegulateWord), trivial⟩⟩⟩⟩, ⟨noroB_en, ⟨noroB_en, ⟨noroB_en, ⟨noroB_en, trivial⟩⟩⟩⟩, (by first | (simp only [noro, noroL, and_self]; done) | (simp only [noro, noroL]; and_intros <;> first | trivial | exact noro_bif (by simp only [noro]) (by simp only [noro]) | (simp only [noro, noroL, and_self]))), ?_⟩
    rw [Try.ntmps23]
    simp only [List.length_cons, List.length_nil, Nat.reduceAdd, Nat.reduceSub, List.replicate_succ, List.replicate_zero, List.cons_append, List.nil_append]
    unfold F23 at H
    refine sq ctNo_ok ?_
    simp only [go_sem, Nat.reduceAdd]
    refine seqM ?_
    obtain ⟨r1, e2, H⟩ := bsi H
    refine rg ct23t0_ok ?_
    simp only [go_sem, Nat.reduceLT, Nat.reduceAdd, ct23t0_50, body50, e2]
    refine bif_split (c := r1.1.isSome) (fun hq3 => ?_) (fun hq3 => ?_)
    · replace H := cond_t hq3 H
      simp only [go_sem, Nat.reduceAdd, hq3, cond_true, rnm, rnmL, rhoN]
      refine seqM ?_
      refine sq ctNo_ok ?_
      simp only [go_sem]
      refine condM rfl trivial (fun hc => ?_) (fun hc => ?_)
      · replace H := cond_t hc H
        refine sq ctNo_ok ?_
        simp only [go_sem, Nat.reduceLT, Nat.reduceAdd]
        refine rg ctNo_ok ?_
        simp only [go_sem, Nat.reduceLT, Nat.reduceAdd]
        obtain rfl := Option.some.inj H
        refine RetE_mk [] [none, none, none, none] ?_ ?_ ?_ ?_ (by rfl) (by rfl)
        · simp only [go_sem]
        · simp only [go_sem]
        · simp only [go_sem]
          exact Cv_tup (CvL_cons (by first | (simp [Cv, CvL]; done) | (simp [Cv, CvL, getM, gt_some]; omega)) (CvL_cons (by first | (simp [Cv]; done) | (simp [Cv, CvL, getM, gt_some]; omega)) (CvL_cons (by simp [Cv]) CvL_nil)))
        · simp only [go_sem, CvH]
          first | exact ⟨CvB_none, CvB_none, CvB_none, CvB_none⟩ | trivial
      replace H := cond_f hc H
      refine rg ctNo_ok ?_
      simp only [go_sem]
      refine seqM ?_
      obtain ⟨r4, e5, H⟩ := bsi H
      refine rg ct23t1_ok ?_
      simp only [go_sem, Nat.reduceLeDiff, Nat.reduceLT, Nat.reduceAdd, ct23t1_55, body55_0, e5]
      refine seqM ?_
      refine blkM ?_
      refine seqM ?_
      refine draw_quiet shT_ok ctNo_ok (by kernel_rfl) (by kernel_rfl) ?_
      simp only [go_sem, Nat.reduceLeDiff, Nat.reduceLT, Nat.reduceAdd]
      refine condM' rfl trivial (fun hc => ?_) (fun hc => ?_)
      · replace H := cond_f hc H
        refine sq ctNo_ok ?_
        simp only [go_sem, Nat.reduceLeDiff, Nat.reduceLT, Nat.reduceAdd]
        refine condM' rfl trivial (fun hc => ?_) (fun hc => ?_)
        · replace H := cond_f hc H
          refine rg ctNo_ok ?_
          simp only [go_sem]
          refine sq ctNo_ok ?_
          simp only [go_sem, Nat.reduceLT, Nat.reduceAdd]
          refine rg ctNo_ok ?_
          simp only [go_sem, Nat.reduceLT, Nat.reduceAdd]
          obtain rfl := Option.some.inj H
          refine RetE_mk [] [some 4, some 7, some 6, none] ?_ ?_ ?_ ?_ (by rfl) (by rfl)
          · simp only [go_sem]
          · simp only [go_sem]
          · simp only [go_sem]
            exact Cv_tup (CvL_cons (by first | (simp [Cv, CvL, getM]; done) | (simp [Cv, CvL, getM, gt_some]; omega)) (CvL_cons (by first | (simp [Cv]; done) | (simp [Cv, CvL, getM, gt_some]; omega)) (CvL_cons (by simp [Cv]) CvL_nil)))
          · simp only [go_sem, CvH]
            first | exact ⟨CvB_row nr_TRegulateChannel (by first | rfl | (simp; done) | (simp; omega)) (fun _ _ _ _ => rfl), CvB_row nr_TRegulateBlock (by first | rfl | (simp; done) | (simp; omega)) (fun _ _ _ _ => rfl), CvB_row nr_i64 (by first | rfl | (simp; done) | (simp; omega)) (fun _ _ _ _ => rfl), CvB_none⟩ | trivial
        replace H := cond_t hc H
        obtain ⟨r6, e7, H⟩ := bsi H
        refine rg ct23t2_ok ?_
        simp only [go_sem, Nat.reduceLT, Nat.reduceAdd, ct23t2_57, body57_0, e7]
        repeat ((with_reducible refine And.intro ?_ ?_); focus (first | (and_intros <;> first | (with_reducible trivial) | omega | assumption | exact nfc | first | exact rfl | exact trivial | exact fitI | exact .inr rfl | exact .inl rfl | exact fun x hx => absurd hx (by omega)) | grind))
        refine sq ctNo_ok ?_
        simp only [go_sem, Nat.reduceLT, Nat.reduceAdd]
        refine rg ctNo_ok ?_
        simp only [go_sem, Nat.reduceLT, Nat.reduceAdd]
        obtain rfl := Option.some.inj H
        refine RetE_mk [] [some 4, some 7, some 6, some 8] ?_ ?_ ?_ ?_ (by rfl) (by rfl)
        · simp only [go_sem]
        · simp only [go_sem]
        · simp only [go_sem]
          exact Cv_tup (CvL_cons (by first | (simp [Cv, CvL, getM]; done) | (simp [Cv, CvL, getM, gt_some]; omega)) (CvL_cons (by first | (simp [Cv, getM]; done) | (simp [Cv, CvL, getM, gt_some]; omega)) (CvL_cons (by simp [Cv]) CvL_nil)))
        · simp only [go_sem, CvH]
          first | exact ⟨CvB_row nr_TRegulateChannel (by first | rfl | (simp; done) | (simp; omega)) (fun _ _ _ _ => rfl), CvB_row nr_TRegulateBlock (by first | rfl | (simp; done) | (simp; omega)) (fun _ _ _ _ => rfl), CvB_row nr_i64 (by first | rfl | (simp; done) | (simp; omega)) (fun _ _ _ _ => rfl), CvB_row nr_TRegulateWord (by first | rfl | (simp; done) | (simp; omega)) (fun _ _ _ _ => rfl)⟩ | trivial
      replace H := cond_t hc H
      refine sq ctNo_ok ?_
      simp only [go_sem, Nat.reduceLeDiff, Nat.reduceLT, Nat.reduceAdd]
      refine seqM ?_
      refine sq ctNo_ok ?_
      simp only [go_sem, Nat.reduceLeDiff, Nat.reduceLT, Nat.reduceAdd]
      refine condM' rfl trivial (fun hc => ?_) (fun hc => ?_)
      · replace H := cond_f hc H
        refine rg ctNo_ok ?_
        simp only [go_sem]
        refine rg ctNo_ok ?_
        simp only [go_sem, Nat.reduceLeDiff, Nat.reduceAdd]
        refine sq ctNo_ok ?_
        simp only [go_sem, Nat.reduceLT, Nat.reduceAdd]
        refine rg ctNo_ok ?_
        simp only [go_sem, Nat.reduceLT, Nat.reduceAdd]
        obtain rfl := Option.some.inj H
        refine RetE_mk [] [some 4, some 7, some 6, none] ?_ ?_ ?_ ?_ (by rfl) (by rfl)
        · simp only [go_sem]
        · simp only [go_sem]
        · simp only [go_sem]
          exact Cv_tup (CvL_cons (by first | (simp [Cv, CvL, getM]; done) | (simp [Cv, CvL, getM, gt_some]; omega)) (CvL_cons (by first | (simp [Cv]; done) | (simp [Cv, CvL, getM, gt_some]; omega)) (CvL_cons (by simp [Cv]) CvL_nil)))
        · simp only [go_sem, CvH]
          first | exact ⟨CvB_row nr_TRegulateChannel (by first | rfl | (simp; done) | (simp; omega)) (fun _ _ _ _ => rfl), CvB_row nr_TRegulateBlock (by first | rfl | (simp; done) | (simp; omega)) (fun _ _ _ _ => rfl), CvB_row nr_i64 (by first | rfl | (simp; done) | (simp; omega)) (fun _ _ _ _ => rfl), CvB_none⟩ | trivial
      replace H := cond_t hc H
      refine rg ctNo_ok ?_
      simp only [go_sem, Nat.reduceLeDiff, Nat.reduceLT, Nat.reduceAdd]
      refine rg ctNo_ok ?_
      simp only [go_sem, Nat.reduceLeDiff, Nat.reduceAdd]
      refine sq ctNo_ok ?_
      simp only [go_sem, Nat.reduceLT, Nat.reduceAdd]
      refine rg ctNo_ok ?_
      simp only [go_sem, Nat.reduceLT, Nat.reduceAdd]
      obtain rfl := Option.some.inj H
      refine RetE_mk [] [some 4, some 7, some 6, none] ?_ ?_ ?_ ?_ (by rfl) (by rfl)
      · simp only [go_sem]
      · simp only [go_sem]
      · simp only [go_sem]
        exact Cv_tup (CvL_cons (by first | (simp [Cv, CvL, getM]; done) | (simp [Cv, CvL, getM, gt_some]; omega)) (CvL_cons (by first | (simp [Cv]; done) | (simp [Cv, CvL, getM, gt_some]; omega)) (CvL_cons (by simp [Cv]) CvL_nil)))
      · simp only [go_sem, CvH]
        first | exact ⟨CvB_row nr_TRegulateChannel (by first | rfl | (simp; done) | (simp; omega)) (fun _ _ _ _ => rfl), CvB_row nr_TRegulateBlock (by first | rfl | (simp; done) | (simp; omega)) (fun _ _ _ _ => rfl), CvB_row nr_i64 (by first | rfl | (simp; done) | (simp; omega)) (fun _ _ _ _ => rfl), CvB_none⟩ | trivial
    replace H := cond_f hq3 H
    simp only [go_sem, hq3, cond_false]
    refine seqM ?_
    refine sq ctNo_ok ?_
    simp only [go_sem]
    refine condM' rfl trivial (fun hc => ?_) (fun hc => ?_)
    · replace H := cond_f hc H
      refine rg ctNo_ok ?_
      simp only [go_sem]
      refine seqM ?_
      cases H
    replace H := cond_t hc H
    refine sq ctNo_ok ?_
    simp only [go_sem, Nat.reduceLT, Nat.reduceAdd]
    refine rg ctNo_ok ?_
    simp only [go_sem, Nat.reduceLT, Nat.reduceAdd]
    obtain rfl := Option.some.inj H
    refine RetE_mk [] [none, none, none, none] ?_ ?_ ?_ ?_ (by rfl) (by rfl)
    · simp only [go_sem]
    · simp only [go_sem]
    · simp only [go_sem]
      exact Cv_tup (CvL_cons (by first | (simp [Cv, CvL]; done) | (simp [Cv, CvL, getM, gt_some]; omega)) (CvL_cons (by first | (simp [Cv]; done) | (simp [Cv, CvL, getM, gt_some]; omega)) (CvL_cons (by simp [Cv]) CvL_nil)))
    · simp only [go_sem, CvH]
      first | exact ⟨CvB_none, CvB_none, CvB_none, CvB_none⟩ | trivial
  · cases hb
/-! hotspot/hotspotref45.Tick -/
noncomputable def ct38t0 : Ct := tab [(64, pureC body64)]
theorem ct38t0_ok : CtOk Try.prog ct38t0 := tab_cons ok64 <| tab_nil
theorem ct38t0_64 (l : List AV) (h : List ABlk) : ct38t0 64 l h = pureC body64 l h := rfl
noncomputable def ct38t1 : Ct := tab [(24, edC body24)]
theorem ct38t1_ok : CtOk Try.prog ct38t1 := tab_cons ok24 <| tab_nil
theorem ct38t1_24 (l : List AV) (h : List ABlk) : ct38t1 24 l h = edC body24 l h := rfl
noncomputable def ct38t2 : Ct := tab [(81, pureC body81)]
theorem ct38t2_ok : CtOk Try.prog ct38t2 := tab_cons ok81 <| tab_nil
theorem ct38t2_81 (l : List AV) (h : List ABlk) : ct38t2 81 l h = pureC body81 l h := rfl
noncomputable def F38_L1 (p0 : TRegulate) (p1 : Int) (v1_1 : Int) (v1_2 : List TRegulateBlock) : Option (Lp (Int × (List TRegulateBlock)) ((List TRegulateBlock) ⊕ (TRegulate × (List TRegulateWord) × Int))) :=
  bif (bLt v1_1 (p0.Blocked.length : Nat)) then (need (inb v1_1 p0.Blocked.length) <| bif (bLt p1 ((gd p0.Blocked v1_1.toNat).Until)) then (need (inb v1_1 p0.Blocked.length) <| need (capb 16 (v1_2.length + 1)) <| some (.next (wr .i64 (v1_1 + 1), (v1_2 ++ [(gd p0.Blocked v1_1.toNat)])))) else (some (.next (wr .i64 (v1_1 + 1), v1_2)))) else (some (.done (.inl v1_2)))
noncomputable def F38 (p0 : TRegulate) (p1 : Int) : Option (TRegulate × (List TRegulateWord) × Int) :=
  (F64 p0 p1 0).bind fun r1 => bif (!bEq r1 0) then (some ((TRegulate.mk [] 0 false 0 false false 0 0 [] []), [], r1)) else ((F24 p0).bind fun r3 => lp (loopD (fun s => F38_L1 p0 p1 s.1 s.2) (0, [])) (fun w1_4 => bif (p0.Moving && (bLe p0.At p1)) then (bif p0.Lead then (some ((TRegulate.mk r3.Table p0.To r3.Lead 0 false false 0 0 w1_4 r3.Clear), [], 0)) else (some ((TRegulate.mk r3.Table p0.To r3.Lead p0.At false false 0 0 w1_4 r3.Clear), [], 0))) else (bif (p0.Lead && p0.Moving) then ((F81 p0).bind fun r8 => some ((TRegulate.mk r3.Table r3.Channel r3.Lead r3.Heard r3.Stopped r3.Moving r3.To r3.At w1_4 r3.Clear), [r8], 0)) else (some ((TRegulate.mk r3.Table r3.Channel r3.Lead r3.Heard r3.Stopped r3.Moving r3.To r3.At w1_4 r3.Clear), [], 0)))) some)
noncomputable def body38 : List AV -> List ABlk -> ED
  | [v0, v1], h => .ed [] (aK 10 k_TRegulate (roD (deadL h []) v0) /\ roDOb (deadL h []) v0 /\ iK .i64 (roD (deadL h []) v1) /\ roDOb (deadL h []) v1 /\ (F38 (g_TRegulate (aL (roD (deadL h []) v0))) (iA (roD (deadL h []) v1))).isSome = true) (.tup [.agg [.sl 0 3 0 ((((gt (F38 (g_TRegulate (aL (roD (deadL h []) v0))) (iA (roD (deadL h []) v1)))).1).Table).length) false, .int .i64 (((gt (F38 (g_TRegulate (aL (roD (deadL h []) v0))) (iA (roD (deadL h []) v1)))).1).Channel), .bool (((gt (F38 (g_TRegulate (aL (roD (deadL h []) v0))) (iA (roD (deadL h []) v1)))).1).Lead), .int .i64 (((gt (F38 (g_TRegulate (aL (roD (deadL h []) v0))) (iA (roD (deadL h []) v1)))).1).Heard), .bool (((gt (F38 (g_TRegulate (aL (roD (deadL h []) v0))) (iA (roD (deadL h []) v1)))).1).Stopped), .bool (((gt (F38 (g_TRegulate (aL (roD (deadL h []) v0))) (iA (roD (deadL h []) v1)))).1).Moving), .int .i64 (((gt (F38 (g_TRegulate (aL (roD (deadL h []) v0))) (iA (roD (deadL h []) v1)))).1).To), .int .i64 (((gt (F38 (g_TRegulate (aL (roD (deadL h []) v0))) (iA (roD (deadL h []) v1)))).1).At), .sl 1 2 0 ((((gt (F38 (g_TRegulate (aL (roD (deadL h []) v0))) (iA (roD (deadL h []) v1)))).1).Blocked).length) false, .sl 2 1 0 ((((gt (F38 (g_TRegulate (aL (roD (deadL h []) v0))) (iA (roD (deadL h []) v1)))).1).Clear).length) false], .sl 3 4 0 (((gt (F38 (g_TRegulate (aL (roD (deadL h []) v0))) (iA (roD (deadL h []) v1)))).2.1).length) false, .int .i64 ((gt (F38 (g_TRegulate (aL (roD (deadL h []) v0))) (iA (roD (deadL h []) v1)))).2.2)]) [.row 45 3 ((((gt (F38 (g_TRegulate (aL (roD (deadL h []) v0))) (iA (roD (deadL h []) v1)))).1).Table).length) (enR c_TRegulateChannel (((gt (F38 (g_TRegulate (aL (roD (deadL h []) v0))) (iA (roD (deadL h []) v1)))).1).Table)), .row 79 2 ((((gt (F38 (g_TRegulate (aL (roD (deadL h []) v0))) (iA (roD (deadL h []) v1)))).1).Blocked).length) (enR c_TRegulateBlock (((gt (F38 (g_TRegulate (aL (roD (deadL h []) v0))) (iA (roD (deadL h []) v1)))).1).Blocked)), .row 3 1 ((((gt (F38 (g_TRegulate (aL (roD (deadL h []) v0))) (iA (roD (deadL h []) v1)))).1).Clear).length) (enR c_i64 (((gt (F38 (g_TRegulate (aL (roD (deadL h []) v0))) (iA (roD (deadL h []) v1)))).1).Clear)), .row 23 4 (((gt (F38 (g_TRegulate (aL (roD (deadL h []) v0))) (iA (roD (deadL h []) v1)))).2.1).length) (enR c_TRegulateWord ((gt (F38 (g_TRegulate (aL (roD (deadL h []) v0))) (iA (roD (deadL h []) v1)))).2.1))]
  | _, _ => .fail
set_option maxHeartbeats 4000000 in
set_option maxRecDepth 20000 in
theorem ok38 : FnOk Try.prog 38 (edC body38) := by
  refine edit_fnV body38 (rs := [.cell 4 39, .tmp 5, .tmp 6]) Try.func38 (by kernel_rfl) rfl rfl ?_
  intro l h bs ob q0 g0 hb hob
  unfold body38 at hb
  split at hb
  · rename_i v0 v1
    injection hb with q1 q2 q3 q4; subst q1 q2 q3 q4
    obtain ⟨hk0_0, hk0_1, hk1_0, hk1_1, hob⟩ := hob
    obtain ⟨r, H⟩ := Option.isSome_iff_exists.1 hob
    rw [H, gt_some]
    have hw0 := wA_TRegulate hk0_0
    obtain ⟨p0, hp_p0⟩ : ∃ p0, p0 = g_TRegulate (aL (roD (deadL h []) v0)) := ⟨_, rfl⟩
    rw [← hp_p0] at H hw0
    have hw1 := iK_wk hk1_0
    obtain ⟨p1, hp_p1⟩ : ∃ p1, p1 = iA (roD (deadL h []) v1) := ⟨_, rfl⟩
    rw [← hp_p1] at H hw1
    refine ⟨[.agg [.ro 3 p0.Table.length false (enR c_TRegulateChannel p0.Table), .int .i64 p0.Channel, .bool p0.Lead, .int .i64 p0.Heard, .bool p0.Stopped, .bool p0.Moving, .int .i64 p0.To, .int .i64 p0.At, .ro 2 p0.Blocked.length false (enR c_TRegulateBlock p0.Blocked), .ro 1 p0.Clear.length false (enR c_i64 p0.Clear)], .int .i64 p1], [], rfl, ⟨(EW_view hk0_1 hw0), ⟨(EW_view hk1_1 hw1), trivial⟩⟩, trivial, trivial, ⟨(nfB_en nr_TRegulateChannel), ⟨(nfB_en nr_TRegulateBlock), ⟨(nfB_en nr_i64), ⟨(nfB_en nr_TRegulateWord), trivial⟩⟩⟩⟩, ⟨noroB_en, ⟨noroB_en, ⟨noroB_en, ⟨noroB_en, trivial⟩⟩⟩⟩, (by first | (simp only [noro, noroL, and_self]; done) | (simp only [noro, noroL]; and_intros <;> first | trivial | exact noro_bif (by simp only [noro]) (by simp only [noro]) | (simp only [noro, noroL, and_self]))), ?_⟩
    rw [Try.ntmps38]
    simp only [List.length_cons, List.length_nil, Nat.reduceAdd, Nat.reduceSub, List.replicate_succ, List.replicate_zero, List.cons_append, List.nil_append]
    unfold F38 at H
    refine sq ctNo_ok ?_
    simp only [go_sem]
    refine seqM ?_
    obtain ⟨r1, e2, H⟩ := bsi H
    refine rg ct38t0_ok ?_
    simp only [go_sem, Nat.reduceLT, Nat.reduceAdd, ct38t0_64, body64, e2]
    repeat ((with_reducible refine And.intro ?_ ?_); focus (first | (and_intros <;> first | (with_reducible trivial) | omega | assumption | exact nfc | first | exact rfl | exact trivial | exact fitI | exact .inr rfl | exact .inl rfl | exact fun x hx => absurd hx (by omega)) | grind))
    refine seqM ?_
    refine sq ctNo_ok ?_
    simp only [go_sem]
    refine condM rfl trivial (fun hc => ?_) (fun hc => ?_)
    · replace H := cond_t hc H
      refine sq ctNo_ok ?_
      simp only [go_sem, Nat.reduceAdd]
      refine rg ctNo_ok ?_
      simp only [go_sem, Nat.reduceLT, Nat.reduceAdd]
      obtain rfl := Option.some.inj H
      refine RetE_mk [] [none, none, none, none] ?_ ?_ ?_ ?_ (by rfl) (by rfl)
      · simp only [go_sem]
      · simp only [go_sem]
      · simp only [go_sem]
        exact Cv_tup (CvL_cons (by first | (simp [Cv, CvL]; done) | (simp [Cv, CvL, getM, gt_some]; omega)) (CvL_cons (by first | (simp [Cv]; done) | (simp [Cv, CvL, getM, gt_some]; omega)) (CvL_cons (by simp [Cv]) CvL_nil)))
      · simp only [go_sem, CvH]
        first | exact ⟨CvB_none, CvB_none, CvB_none, CvB_none⟩ | trivial
    replace H := cond_f hc H
    refine rg ctNo_ok ?_
    simp only [go_sem]
    refine seqM ?_
    obtain ⟨r3, e4, H⟩ := bsi H
    refine rg ct38t1_ok ?_
    simp only [go_sem, Nat.reduceLT, Nat.reduceAdd, ct38t1_24, body24, e4]
    refine sq ctNo_ok ?_
    simp only [go_sem, Nat.reduceLeDiff, Nat.reduceAdd]
    refine seqM ?_
    refine sq ctNo_ok ?_
    simp only [go_sem]
    refine blkM ?_
    refine loop_den (fun s : Int × (List TRegulateBlock) => (.top :: .int .i64 p1 :: .ptr 0 0 0 0 :: .top :: .ptr 1 0 0 0 :: .top :: .top :: .top :: .ptr 5 0 0 0 :: .int .i64 s.1 :: tp 68 [])) (fun s => [.lit 39 [.ro 3 p0.Table.length false (enR c_TRegulateChannel p0.Table), .int .i64 p0.Channel, .bool p0.Lead, .int .i64 p0.Heard, .bool p0.Stopped, .bool p0.Moving, .int .i64 p0.To, .int .i64 p0.At, .ro 2 p0.Blocked.length false (enR c_TRegulateBlock p0.Blocked), .ro 1 p0.Clear.length false (enR c_i64 p0.Clear)], .lit 39 [.ro 0 0 true (fun _ _ => .top), .int .i64 0, .bool false, .int .i64 0, .bool false, .bool false, .int .i64 0, .int .i64 0, .ro 0 0 true (fun _ _ => .top), .ro 0 0 true (fun _ _ => .top)], .row 45 3 r3.Table.length (enR c_TRegulateChannel r3.Table), .dead, .row 3 1 r3.Clear.length (enR c_i64 r3.Clear), .lit 39 [.sl 2 3 0 r3.Table.length false, .int .i64 r3.Channel, .bool r3.Lead, .int .i64 r3.Heard, .bool r3.Stopped, .bool r3.Moving, .int .i64 r3.To, .int .i64 r3.At, .sl 6 2 0 s.2.length false, .sl 4 1 0 r3.Clear.length false], .row 79 2 s.2.length (enR c_TRegulateBlock s.2)]) (fun e : List TRegulateBlock => (.top :: .int .i64 p1 :: .ptr 0 0 0 0 :: .top :: .ptr 1 0 0 0 :: .top :: .top :: .top :: .ptr 5 0 0 0 :: tp 69 [])) (fun e => [.lit 39 [.ro 3 p0.Table.length false (enR c_TRegulateChannel p0.Table), .int .i64 p0.Channel, .bool p0.Lead, .int .i64 p0.Heard, .bool p0.Stopped, .bool p0.Moving, .int .i64 p0.To, .int .i64 p0.At, .ro 2 p0.Blocked.length false (enR c_TRegulateBlock p0.Blocked), .ro 1 p0.Clear.length false (enR c_i64 p0.Clear)], .lit 39 [.ro 0 0 true (fun _ _ => .top), .int .i64 0, .bool false, .int .i64 0, .bool false, .bool false, .int .i64 0, .int .i64 0, .ro 0 0 true (fun _ _ => .top), .ro 0 0 true (fun _ _ => .top)], .row 45 3 r3.Table.length (enR c_TRegulateChannel r3.Table), .dead, .row 3 1 r3.Clear.length (enR c_i64 r3.Clear), .lit 39 [.sl 2 3 0 r3.Table.length false, .int .i64 r3.Channel, .bool r3.Lead, .int .i64 r3.Heard, .bool r3.Stopped, .bool r3.Moving, .int .i64 r3.To, .int .i64 r3.At, .sl 6 2 0 e.length false, .sl 4 1 0 r3.Clear.length false], .row 79 2 e.length (enR c_TRegulateBlock e)]) H ?_ (fun s o H hn1_1 hn2_1 => ?_) (fun w1_4 H => ?_)
    · refine SubF_of ⟨[some 0, some 1, some 2, some 3, some 4, some 5, none], ?_, ?_, by rfl, by rfl⟩
      · simp [CvL, Cv, getM, tp]
      · exact ⟨(by simp [CvB, CvL, Cv, blkAt, geth]), (by simp [CvB, CvL, Cv, blkAt, geth]), (CvB_same nfA), CvB_dead, (CvB_same nfA), (by simp [CvB, CvL, Cv, blkAt, geth, getM]), CvB_none, trivial⟩
    · obtain ⟨v1_1, v1_2⟩ := s
      unfold F38_L1 at H
      try dsimp only at H ⊢
      try simp only [tp]
      refine seqM ?_
      refine sq ctNo_ok ?_
      simp only [go_sem, Nat.reduceLeDiff, Nat.reduceLT, Nat.reduceAdd]
      refine condM' rfl trivial (fun hc => ?_) (fun hc => ?_)
      · replace H := cond_f hc H
        refine rg ctNo_ok ?_
        simp only [go_sem]
        refine ⟨_, (Option.some.inj H).symm, ?_⟩
        refine SubF_of ⟨[some 0, some 1, some 2, some 3, some 4, some 5, some 6], ?_, ?_, by rfl, by rfl⟩
        · simp [CvL, Cv, getM]
        · exact ⟨(by simp [CvB, CvL, Cv, blkAt, geth]), (by simp [CvB, CvL, Cv, blkAt, geth]), (CvB_same nfA), CvB_dead, (CvB_same nfA), (by simp [CvB, CvL, Cv, blkAt, geth, getM]), CvB_row nr_TRegulateBlock (by first | rfl | (simp; done) | (simp; omega)) (fun _ _ _ _ => rfl), trivial⟩
      replace H := cond_t hc H
      refine rg ctNo_ok ?_
      simp only [go_sem]
      refine seqM ?_
      refine blkM ?_
      refine seqM ?_
      obtain ⟨f5, H⟩ := need_some.1 H
      replace f5 := inb_iff.1 f5
      refine rg ctNo_ok ?_
      simp only [go_sem, Nat.reduceLeDiff, Nat.reduceLT, Nat.reduceAdd, f5]
      refine condM' rfl trivial (fun hc => ?_) (fun hc => ?_)
      · replace H := cond_f hc H
        refine rg ctNo_ok ?_
        simp only [go_sem]
        refine rg ctNo_ok ?_
        simp only [go_sem]
        refine ⟨_, (Option.some.inj H).symm, ?_⟩
        refine SubF_of ⟨[some 0, some 1, some 2, some 3, some 4, some 5, some 6], ?_, ?_, by rfl, by rfl⟩
        · simp [CvL, Cv, getM]
        · exact ⟨(by simp [CvB, CvL, Cv, blkAt, geth]), (by simp [CvB, CvL, Cv, blkAt, geth]), (CvB_same nfA), CvB_dead, (CvB_same nfA), (by simp [CvB, CvL, Cv, blkAt, geth, getM]), CvB_row nr_TRegulateBlock (by first | rfl | (simp; done) | (simp; omega)) (fun _ _ _ _ => rfl), trivial⟩
      replace H := cond_t hc H
      obtain ⟨f6, H⟩ := need_some.1 H
      replace f6 := inb_iff.1 f6
      obtain ⟨f7, H⟩ := need_some.1 H
      replace f7 := capb_iff.1 f7
      refine draw_rule shT_ok ctNo_ok 2 (by kernel_rfl) (by kernel_rfl) ?_
      intro an han
      simp only [d_nil, d_cons, nxtD, xrD, xoD, roEq, minL, List.append_nil, refsOp, refs, refsL, mask, maskF, place, placeF, okLog, pairOk, hit, inL, slotsF, ren, rnN, nrH, nrB, nrL, nr, List.replicate_zero, List.replicate_succ, Nat.sub_self, Nat.add_zero, Nat.zero_add, Nat.reduceSub, Nat.lt_add_one, go_sem, Nat.reduceLeDiff, Nat.reduceLT, Nat.reduceAdd, Nat.reduceSub, Nat.reduceBEq, f6, f7]
      repeat ((with_reducible refine And.intro ?_ ?_); focus (and_intros <;> first | (with_reducible trivial) | (show anB _ _ _ = true; subst han; kernel_rfl) | (show (anB _ _ _ && _) = true; subst han; kernel_rfl) | omega | assumption | exact nrc | exact nfc | first | exact rfl | exact trivial | exact fitI | exact .inr rfl | exact .inl rfl | exact fun x hx => absurd hx (by omega) | (intro x hx; (repeat (first | (and_intros <;> (first | exact rfl | exact trivial | exact fitI | exact .inr rfl | exact .inl rfl | exact fun x hx => absurd hx (by omega))) | (exfalso; omega) | (rcases x with _ | x))); done) | (refine Fit_app ?_ ?_ <;> first | exact fitI | (intro x hx; (repeat (first | (and_intros <;> (first | exact rfl | exact trivial | exact fitI | exact .inr rfl | exact .inl rfl | exact fun x hx => absurd hx (by omega))) | (exfalso; omega) | (rcases x with _ | x))); done) | (refine Fit_app ?_ ?_ <;> first | exact fitI | (intro x hx; (repeat (first | (and_intros <;> (first | exact rfl | exact trivial | exact fitI | exact .inr rfl | exact .inl rfl | exact fun x hx => absurd hx (by omega))) | (exfalso; omega) | (rcases x with _ | x))); done)))))
      refine rg ctNo_ok ?_
      simp only [go_sem]
      refine ⟨_, (Option.some.inj H).symm, ?_⟩
      refine SubF_of ⟨[some 0, some 1, some 2, some 3, some 4, some 5, some 8], ?_, ?_, by rfl, by rfl⟩
      · simp [CvL, Cv, getM]
      · exact ⟨(by simp [CvB, CvL, Cv, blkAt, geth]), (by simp [CvB, CvL, Cv, blkAt, geth]), (CvB_same nfA), CvB_dead, (CvB_same nfA), (by simp [CvB, CvL, Cv, blkAt, geth, getM]), CvB_row nr_TRegulateBlock (by first | rfl | (simp; done) | (simp; omega)) (app_row (f := c_TRegulateBlock) v1_2 [(gd p0.Blocked v1_1.toNat)] (fun _ _ _ _ => rfl) (lit_row (f := c_TRegulateBlock) [(gd p0.Blocked v1_1.toNat)] (fun _ _ => rfl) rfl)), trivial⟩
    · try dsimp only at H ⊢
      try simp only [tp]
      try simp only [m_normal]
      refine seqM ?_
      refine sq ctNo_ok ?_
      simp only [go_sem, Nat.reduceLeDiff, Nat.reduceLT, Nat.reduceAdd]
      refine condM' rfl trivial (fun hc => ?_) (fun hc => ?_)
      · replace H := cond_f hc H
        refine rg ctNo_ok ?_
        simp only [go_sem]
        refine seqM ?_
        refine sq ctNo_ok ?_
        simp only [go_sem, Nat.reduceLeDiff, Nat.reduceLT, Nat.reduceAdd]
        refine condM' rfl trivial (fun hc => ?_) (fun hc => ?_)
        · replace H := cond_f hc H
          refine rg ctNo_ok ?_
          simp only [go_sem]
          refine sq ctNo_ok ?_
          simp only [go_sem, Nat.reduceLT, Nat.reduceAdd]
          refine rg ctNo_ok ?_
          simp only [go_sem, Nat.reduceLT, Nat.reduceAdd]
          obtain rfl := Option.some.inj H
          refine RetE_mk [] [some 2, some 6, some 4, none] ?_ ?_ ?_ ?_ (by rfl) (by rfl)
          · simp only [go_sem]
          · simp only [go_sem]
          · simp only [go_sem]
            exact Cv_tup (CvL_cons (by first | (simp [Cv, CvL, getM]; done) | (simp [Cv, CvL, getM, gt_some]; omega)) (CvL_cons (by first | (simp [Cv]; done) | (simp [Cv, CvL, getM, gt_some]; omega)) (CvL_cons (by simp [Cv]) CvL_nil)))
          · simp only [go_sem, CvH]
            first | exact ⟨CvB_row nr_TRegulateChannel (by first | rfl | (simp; done) | (simp; omega)) (fun _ _ _ _ => rfl), CvB_row nr_TRegulateBlock (by first | rfl | (simp; done) | (simp; omega)) (fun _ _ _ _ => rfl), CvB_row nr_i64 (by first | rfl | (simp; done) | (simp; omega)) (fun _ _ _ _ => rfl), CvB_none⟩ | trivial
        replace H := cond_t hc H
        refine seqM ?_
        obtain ⟨r8, e9, H⟩ := bsi H
        refine draw_rule shT_ok ct38t2_ok 1 (by kernel_rfl) (by kernel_rfl) ?_
        intro an han
        simp only [d_nil, d_cons, nxtD, xrD, xoD, roEq, minL, List.append_nil, refsOp, refs, refsL, mask, maskF, place, placeF, okLog, pairOk, hit, inL, slotsF, ren, rnN, nrH, nrB, nrL, nr, List.replicate_zero, List.replicate_succ, Nat.sub_self, Nat.add_zero, Nat.zero_add, Nat.reduceSub, Nat.lt_add_one, go_sem, Nat.reduceLeDiff, Nat.reduceLT, Nat.reduceAdd, Nat.reduceSub, Nat.reduceBEq, ct38t2_81, body81, e9]
        repeat ((with_reducible refine And.intro ?_ ?_); focus (and_intros <;> first | (with_reducible trivial) | (show anB _ _ _ = true; subst han; kernel_rfl) | (show (anB _ _ _ && _) = true; subst han; kernel_rfl) | omega | assumption | exact nrc | exact nfc | first | exact rfl | exact trivial | exact fitI | exact .inr rfl | exact .inl rfl | exact fun x hx => absurd hx (by omega) | (intro x hx; (repeat (first | (and_intros <;> (first | exact rfl | exact trivial | exact fitI | exact .inr rfl | exact .inl rfl | exact fun x hx => absurd hx (by omega))) | (exfalso; omega) | (rcases x with _ | x))); done)))
        refine rg ctNo_ok ?_
        simp only [go_sem, Nat.reduceLT, Nat.reduceAdd]
        obtain rfl := Option.some.inj H
        refine RetE_mk [] [some 2, some 6, some 4, some 7] ?_ ?_ ?_ ?_ (by rfl) (by rfl)
        · simp only [go_sem]
        · simp only [go_sem]
        · simp only [go_sem]
          exact Cv_tup (CvL_cons (by first | (simp [Cv, CvL, getM]; done) | (simp [Cv, CvL, getM, gt_some]; omega)) (CvL_cons (by first | (simp [Cv, getM]; done) | (simp [Cv, CvL, getM, gt_some]; omega)) (CvL_cons (by simp [Cv]) CvL_nil)))
        · simp only [go_sem, CvH]
          first | exact ⟨CvB_row nr_TRegulateChannel (by first | rfl | (simp; done) | (simp; omega)) (fun _ _ _ _ => rfl), CvB_row nr_TRegulateBlock (by first | rfl | (simp; done) | (simp; omega)) (fun _ _ _ _ => rfl), CvB_row nr_i64 (by first | rfl | (simp; done) | (simp; omega)) (fun _ _ _ _ => rfl), CvB_row nr_TRegulateWord (by first | rfl | (simp; done) | (simp; omega)) (lit_row (f := c_TRegulateWord) [r8] (fun _ _ => rfl) rfl)⟩ | trivial
      replace H := cond_t hc H
      refine sq ctNo_ok ?_
      simp only [go_sem, Nat.reduceLeDiff, Nat.reduceLT, Nat.reduceAdd]
      refine sq ctNo_ok ?_
      simp only [go_sem, Nat.reduceLeDiff, Nat.reduceLT, Nat.reduceAdd]
      refine seqM ?_
      refine sq ctNo_ok ?_
      simp only [go_sem, Nat.reduceLeDiff, Nat.reduceLT, Nat.reduceAdd]
      refine condM' rfl trivial (fun hc => ?_) (fun hc => ?_)
      · replace H := cond_f hc H
        refine rg ctNo_ok ?_
        simp only [go_sem]
        refine sq ctNo_ok ?_
        simp only [go_sem, Nat.reduceLeDiff, Nat.reduceAdd]
        refine sq ctNo_ok ?_
        simp only [go_sem, Nat.reduceLeDiff, Nat.reduceAdd]
        repeat ((with_reducible refine And.intro ?_ ?_); focus (first | (with_reducible trivial) | omega | grind))
        refine sq ctNo_ok ?_
        simp only [go_sem, Nat.reduceLeDiff, Nat.reduceAdd]
        refine sq ctNo_ok ?_
        simp only [go_sem, Nat.reduceLeDiff, Nat.reduceAdd]
        refine sq ctNo_ok ?_
        simp only [go_sem, Nat.reduceLT, Nat.reduceAdd]
        repeat ((with_reducible refine And.intro ?_ ?_); focus (first | (with_reducible trivial) | omega | grind))
        refine rg ctNo_ok ?_
        simp only [go_sem, Nat.reduceLT, Nat.reduceAdd]
        obtain rfl := Option.some.inj H
        refine RetE_mk [] [some 2, some 6, some 4, none] ?_ ?_ ?_ ?_ (by rfl) (by rfl)
        · simp only [go_sem]
        · simp only [go_sem]
        · simp only [go_sem]
          exact Cv_tup (CvL_cons (by first | (simp [Cv, CvL, getM]; done) | (simp [Cv, CvL, getM, gt_some]; omega)) (CvL_cons (by first | (simp [Cv]; done) | (simp [Cv, CvL, getM, gt_some]; omega)) (CvL_cons (by simp [Cv]) CvL_nil)))
        · simp only [go_sem, CvH]
          first | exact ⟨CvB_row nr_TRegulateChannel (by first | rfl | (simp; done) | (simp; omega)) (fun _ _ _ _ => rfl), CvB_row nr_TRegulateBlock (by first | rfl | (simp; done) | (simp; omega)) (fun _ _ _ _ => rfl), CvB_row nr_i64 (by first | rfl | (simp; done) | (simp; omega)) (fun _ _ _ _ => rfl), CvB_none⟩ | trivial
      replace H := cond_t hc H
      refine rg ctNo_ok ?_
      simp only [go_sem, Nat.reduceLeDiff, Nat.reduceAdd]
      refine sq ctNo_ok ?_
      simp only [go_sem, Nat.reduceLeDiff, Nat.reduceAdd]
      refine sq ctNo_ok ?_
      simp only [go_sem, Nat.reduceLeDiff, Nat.reduceAdd]
      refine sq ctNo_ok ?_
      simp only [go_sem, Nat.reduceLeDiff, Nat.reduceAdd]
      repeat ((with_reducible refine And.intro ?_ ?_); focus (first | (with_reducible trivial) | omega | grind))
      refine sq ctNo_ok ?_
      simp only [go_sem, Nat.reduceLeDiff, Nat.reduceAdd]
      refine sq ctNo_ok ?_
      simp only [go_sem, Nat.reduceLT, Nat.reduceAdd]
      refine rg ctNo_ok ?_
      simp only [go_sem, Nat.reduceLT, Nat.reduceAdd]
      obtain rfl := Option.some.inj H
      refine RetE_mk [] [some 2, some 6, some 4, none] ?_ ?_ ?_ ?_ (by rfl) (by rfl)
      · simp only [go_sem]
      · simp only [go_sem]
      · simp only [go_sem]
        exact Cv_tup (CvL_cons (by first | (simp [Cv, CvL, getM]; done) | (simp [Cv, CvL, getM, gt_some]; omega)) (CvL_cons (by first | (simp [Cv]; done) | (simp [Cv, CvL, getM, gt_some]; omega)) (CvL_cons (by simp [Cv]) CvL_nil)))
      · simp only [go_sem, CvH]
        first | exact ⟨CvB_row nr_TRegulateChannel (by first | rfl | (simp; done) | (simp; omega)) (fun _ _ _ _ => rfl), CvB_row nr_TRegulateBlock (by first | rfl | (simp; done) | (simp; omega)) (fun _ _ _ _ => rfl), CvB_row nr_i64 (by first | rfl | (simp; done) | (simp; omega)) (fun _ _ _ _ => rfl), CvB_none⟩ | trivial
  · cases hb
/-! hotspot/hotspotref45.Same -/
noncomputable def F31_L1 (p0 : TRegulate) (p1 : TRegulate) (v1_1 : Int) : Option (Lp (Int) ((Unit) ⊕ (Bool))) :=
  bif (bLt v1_1 (p0.Table.length : Nat)) then (need (inb v1_1 p0.Table.length) <| need (inb v1_1 p1.Table.length) <| bif (!(bEq ((gd p0.Table v1_1.toNat).Number) ((gd p1.Table v1_1.toNat).Number) && (bEq ((gd p0.Table v1_1.toNat).Max) ((gd p1.Table v1_1.toNat).Max) && (bB ((gd p0.Table v1_1.toNat).Radar) ((gd p1.Table v1_1.toNat).Radar))))) then (some (.done (.inr false))) else (some (.next (wr .i64 (v1_1 + 1))))) else (some (.done (.inl ())))
noncomputable def F31_L2 (p0 : TRegulate) (p1 : TRegulate) (v2_1 : Int) : Option (Lp (Int) ((Unit) ⊕ (Bool))) :=
  bif (bLt v2_1 (p0.Blocked.length : Nat)) then (need (inb v2_1 p0.Blocked.length) <| need (inb v2_1 p1.Blocked.length) <| bif (!(bEq ((gd p0.Blocked v2_1.toNat).Channel) ((gd p1.Blocked v2_1.toNat).Channel) && (bEq ((gd p0.Blocked v2_1.toNat).Until) ((gd p1.Blocked v2_1.toNat).Until)))) then (some (.done (.inr false))) else (some (.next (wr .i64 (v2_1 + 1))))) else (some (.done (.inl ())))
noncomputable def F31_L3 (p0 : TRegulate) (p1 : TRegulate) (v3_1 : Int) : Option (Lp (Int) ((Unit) ⊕ (Bool))) :=
  bif (bLt v3_1 (p0.Clear.length : Nat)) then (need (inb v3_1 p0.Clear.length) <| need (inb v3_1 p1.Clear.length) <| bif (!bEq (gd p0.Clear v3_1.toNat) (gd p1.Clear v3_1.toNat)) then (some (.done (.inr false))) else (some (.next (wr .i64 (v3_1 + 1))))) else (some (.done (.inl ())))
noncomputable def F31 (p0 : TRegulate) (p1 : TRegulate) : Option (Bool) :=
  bif (((!bEq (p0.Table.length : Nat) (p1.Table.length : Nat)) || (!bEq (p0.Blocked.length : Nat) (p1.Blocked.length : Nat))) || (!bEq (p0.Clear.length : Nat) (p1.Clear.length : Nat))) then (some false) else (lp (loopD (fun s => F31_L1 p0 p1 s) 0) (fun e => lp (loopD (fun s => F31_L2 p0 p1 s) 0) (fun e => lp (loopD (fun s => F31_L3 p0 p1 s) 0) (fun e => some (((((((bEq p0.Channel p1.Channel) && (bB p0.Lead p1.Lead)) && (bEq p0.Heard p1.Heard)) && (bB p0.Stopped p1.Stopped)) && (bB p0.Moving p1.Moving)) && (bEq p0.To p1.To)) && (bEq p0.At p1.At))) some) some) some)
noncomputable def body31 : List AV -> AR
  | [v0, v1] => .pure (aK 10 k_TRegulate v0 /\ aK 10 k_TRegulate v1 /\ (F31 (g_TRegulate (aL v0)) (g_TRegulate (aL v1))).isSome = true) (.bool (gt (F31 (g_TRegulate (aL v0)) (g_TRegulate (aL v1)))))
  | _ => .fail
set_option maxHeartbeats 4000000 in
set_option maxRecDepth 20000 in
theorem ok31 : FnOk Try.prog 31 (pureC body31) := by
  refine pure_fnM body31 (rs := [.tmp 4]) Try.func31 (by kernel_rfl) rfl rfl ?_
  intro l ob v hb hob
  unfold body31 at hb
  split at hb
  · rename_i v0 v1
    injection hb with q1 q2; subst q1 q2
    obtain ⟨hk0_0, hk1_0, hob⟩ := hob
    obtain ⟨r, H⟩ := Option.isSome_iff_exists.1 hob
    rw [H, gt_some]
    have hw0 := wA_TRegulate hk0_0
    have hw1 := wA_TRegulate hk1_0
    generalize g_TRegulate (aL v0) = p0 at H hw0
    generalize g_TRegulate (aL v1) = p1 at H hw1
    refine ⟨[.agg [.ro 3 p0.Table.length false (enR c_TRegulateChannel p0.Table), .int .i64 p0.Channel, .bool p0.Lead, .int .i64 p0.Heard, .bool p0.Stopped, .bool p0.Moving, .int .i64 p0.To, .int .i64 p0.At, .ro 2 p0.Blocked.length false (enR c_TRegulateBlock p0.Blocked), .ro 1 p0.Clear.length false (enR c_i64 p0.Clear)], .agg [.ro 3 p1.Table.length false (enR c_TRegulateChannel p1.Table), .int .i64 p1.Channel, .bool p1.Lead, .int .i64 p1.Heard, .bool p1.Stopped, .bool p1.Moving, .int .i64 p1.To, .int .i64 p1.At, .ro 2 p1.Blocked.length false (enR c_TRegulateBlock p1.Blocked), .ro 1 p1.Clear.length false (enR c_i64 p1.Clear)]], _, (fun E vs F => FR_wk1 hw0.1 F (fun vs F => FR_wk1 hw1.1 F (fun vs F => F))), rfl, rfl, ?_⟩
    rw [Try.ntmps31]
    simp only [List.length_cons, List.length_nil, Nat.reduceAdd, Nat.reduceSub, List.replicate_succ, List.replicate_zero, List.cons_append, List.nil_append]
    unfold F31 at H
    refine sq ctNo_ok ?_
    simp only [go_sem]
    refine seqM ?_
    refine sq ctNo_ok ?_
    simp only [go_sem, Nat.reduceLeDiff, Nat.reduceLT, Nat.reduceAdd]
    refine condM rfl trivial (fun hc => ?_) (fun hc => ?_)
    · replace H := cond_t hc H
      refine sq ctNo_ok ?_
      simp only [go_sem]
      refine rg ctNo_ok ?_
      simp only [go_sem]
      obtain rfl := Option.some.inj H
      first | rfl | simp only [Bool.and_false, Bool.false_and, Bool.and_true, Bool.true_and]
    replace H := cond_f hc H
    refine rg ctNo_ok ?_
    simp only [go_sem]
    refine seqM ?_
    refine sq ctNo_ok ?_
    simp only [go_sem]
    refine blkM ?_
    refine loop_den (fun s : Int => (.top :: .top :: .ptr 0 0 0 0 :: .ptr 1 0 0 0 :: .top :: .int .i64 s :: tp 128 [])) (fun s => [.lit 39 [.ro 3 p0.Table.length false (enR c_TRegulateChannel p0.Table), .int .i64 p0.Channel, .bool p0.Lead, .int .i64 p0.Heard, .bool p0.Stopped, .bool p0.Moving, .int .i64 p0.To, .int .i64 p0.At, .ro 2 p0.Blocked.length false (enR c_TRegulateBlock p0.Blocked), .ro 1 p0.Clear.length false (enR c_i64 p0.Clear)], .lit 39 [.ro 3 p1.Table.length false (enR c_TRegulateChannel p1.Table), .int .i64 p1.Channel, .bool p1.Lead, .int .i64 p1.Heard, .bool p1.Stopped, .bool p1.Moving, .int .i64 p1.To, .int .i64 p1.At, .ro 2 p1.Blocked.length false (enR c_TRegulateBlock p1.Blocked), .ro 1 p1.Clear.length false (enR c_i64 p1.Clear)]]) (fun e : Unit => (.top :: .top :: .ptr 0 0 0 0 :: .ptr 1 0 0 0 :: tp 130 [])) (fun e => [.lit 39 [.ro 3 p0.Table.length false (enR c_TRegulateChannel p0.Table), .int .i64 p0.Channel, .bool p0.Lead, .int .i64 p0.Heard, .bool p0.Stopped, .bool p0.Moving, .int .i64 p0.To, .int .i64 p0.At, .ro 2 p0.Blocked.length false (enR c_TRegulateBlock p0.Blocked), .ro 1 p0.Clear.length false (enR c_i64 p0.Clear)], .lit 39 [.ro 3 p1.Table.length false (enR c_TRegulateChannel p1.Table), .int .i64 p1.Channel, .bool p1.Lead, .int .i64 p1.Heard, .bool p1.Stopped, .bool p1.Moving, .int .i64 p1.To, .int .i64 p1.At, .ro 2 p1.Blocked.length false (enR c_TRegulateBlock p1.Blocked), .ro 1 p1.Clear.length false (enR c_i64 p1.Clear)]]) H ?_ (fun v1_1 o H hn1_1 hn2_1 => ?_) (fun e H => ?_)
    · refine SubF_of ⟨[some 0, some 1], ?_, ?_, by rfl, by rfl⟩
      · simp [CvL, Cv, getM, tp]
      · exact ⟨(by simp [CvB, CvL, Cv, blkAt, geth]), (by simp [CvB, CvL, Cv, blkAt, geth]), trivial⟩
    · unfold F31_L1 at H
      try simp only [tp]
      refine seqM ?_
      refine sq ctNo_ok ?_
      simp only [go_sem, Nat.reduceLeDiff, Nat.reduceLT, Nat.reduceAdd]
      refine condM' rfl trivial (fun hc => ?_) (fun hc => ?_)
      · replace H := cond_f hc H
        refine rg ctNo_ok ?_
        simp only [go_sem]
        refine ⟨_, (Option.some.inj H).symm, ?_⟩
        refine SubF_of ⟨[some 0, some 1], ?_, ?_, by rfl, by rfl⟩
        · simp [CvL, Cv, getM]
        · exact ⟨(by simp [CvB, CvL, Cv, blkAt, geth]), (by simp [CvB, CvL, Cv, blkAt, geth]), trivial⟩
      replace H := cond_t hc H
      refine rg ctNo_ok ?_
      simp only [go_sem]
      refine seqM ?_
      refine blkM ?_
      refine seqM ?_
      obtain ⟨f1, H⟩ := need_some.1 H
      replace f1 := inb_iff.1 f1
      obtain ⟨f2, H⟩ := need_some.1 H
      replace f2 := inb_iff.1 f2
      refine draw_quiet shT_ok ctNo_ok (by kernel_rfl) (by kernel_rfl) ?_
      simp only [go_sem, Nat.reduceLeDiff, Nat.reduceLT, Nat.reduceAdd, f1, f2]
      refine condM rfl trivial (fun hc => ?_) (fun hc => ?_)
      · replace H := cond_t hc H
        refine sq ctNo_ok ?_
        simp only [go_sem]
        refine rg ctNo_ok ?_
        simp only [go_sem]
        have H := hn2_1 _ (Option.some.inj H).symm
        obtain rfl := Option.some.inj H
        first | rfl | simp only [Bool.and_false, Bool.false_and, Bool.and_true, Bool.true_and]
      replace H := cond_f hc H
      refine rg ctNo_ok ?_
      simp only [go_sem]
      refine rg ctNo_ok ?_
      simp only [go_sem]
      refine ⟨_, (Option.some.inj H).symm, ?_⟩
      refine SubF_of ⟨[some 0, some 1], ?_, ?_, by rfl, by rfl⟩
      · simp [CvL, Cv, getM]
      · exact ⟨(by simp [CvB, CvL, Cv, blkAt, geth]), (by simp [CvB, CvL, Cv, blkAt, geth]), trivial⟩
    · try dsimp only at H ⊢
      try simp only [tp]
      try simp only [m_normal]
      refine seqM ?_
      refine sq ctNo_ok ?_
      simp only [go_sem]
      refine blkM ?_
      refine loop_den (fun s : Int => (.top :: .top :: .ptr 0 0 0 0 :: .ptr 1 0 0 0 :: .top :: .top :: .int .i64 s :: tp 127 [])) (fun s => [.lit 39 [.ro 3 p0.Table.length false (enR c_TRegulateChannel p0.Table), .int .i64 p0.Channel, .bool p0.Lead, .int .i64 p0.Heard, .bool p0.Stopped, .bool p0.Moving, .int .i64 p0.To, .int .i64 p0.At, .ro 2 p0.Blocked.length false (enR c_TRegulateBlock p0.Blocked), .ro 1 p0.Clear.length false (enR c_i64 p0.Clear)], .lit 39 [.ro 3 p1.Table.length false (enR c_TRegulateChannel p1.Table), .int .i64 p1.Channel, .bool p1.Lead, .int .i64 p1.Heard, .bool p1.Stopped, .bool p1.Moving, .int .i64 p1.To, .int .i64 p1.At, .ro 2 p1.Blocked.length false (enR c_TRegulateBlock p1.Blocked), .ro 1 p1.Clear.length false (enR c_i64 p1.Clear)]]) (fun e : Unit => (.top :: .top :: .ptr 0 0 0 0 :: .ptr 1 0 0 0 :: tp 130 [])) (fun e => [.lit 39 [.ro 3 p0.Table.length false (enR c_TRegulateChannel p0.Table), .int .i64 p0.Channel, .bool p0.Lead, .int .i64 p0.Heard, .bool p0.Stopped, .bool p0.Moving, .int .i64 p0.To, .int .i64 p0.At, .ro 2 p0.Blocked.length false (enR c_TRegulateBlock p0.Blocked), .ro 1 p0.Clear.length false (enR c_i64 p0.Clear)], .lit 39 [.ro 3 p1.Table.length false (enR c_TRegulateChannel p1.Table), .int .i64 p1.Channel, .bool p1.Lead, .int .i64 p1.Heard, .bool p1.Stopped, .bool p1.Moving, .int .i64 p1.To, .int .i64 p1.At, .ro 2 p1.Blocked.length false (enR c_TRegulateBlock p1.Blocked), .ro 1 p1.Clear.length false (enR c_i64 p1.Clear)]]) H ?_ (fun v2_1 o H hn1_2 hn2_2 => ?_) (fun e H => ?_)
      · refine SubF_of ⟨[some 0, some 1], ?_, ?_, by rfl, by rfl⟩
        · simp [CvL, Cv, getM, tp]
        · exact ⟨(by simp [CvB, CvL, Cv, blkAt, geth]), (by simp [CvB, CvL, Cv, blkAt, geth]), trivial⟩
      · unfold F31_L2 at H
        try simp only [tp]
        refine seqM ?_
        refine sq ctNo_ok ?_
        simp only [go_sem, Nat.reduceLeDiff, Nat.reduceLT, Nat.reduceAdd]
        refine condM' rfl trivial (fun hc => ?_) (fun hc => ?_)
        · replace H := cond_f hc H
          refine rg ctNo_ok ?_
          simp only [go_sem]
          refine ⟨_, (Option.some.inj H).symm, ?_⟩
          refine SubF_of ⟨[some 0, some 1], ?_, ?_, by rfl, by rfl⟩
          · simp [CvL, Cv, getM]
          · exact ⟨(by simp [CvB, CvL, Cv, blkAt, geth]), (by simp [CvB, CvL, Cv, blkAt, geth]), trivial⟩
        replace H := cond_t hc H
        refine rg ctNo_ok ?_
        simp only [go_sem]
        refine seqM ?_
        refine blkM ?_
        refine seqM ?_
        obtain ⟨f3, H⟩ := need_some.1 H
        replace f3 := inb_iff.1 f3
        obtain ⟨f4, H⟩ := need_some.1 H
        replace f4 := inb_iff.1 f4
        refine draw_quiet shT_ok ctNo_ok (by kernel_rfl) (by kernel_rfl) ?_
        simp only [go_sem, Nat.reduceLeDiff, Nat.reduceLT, Nat.reduceAdd, f3, f4]
        refine condM rfl trivial (fun hc => ?_) (fun hc => ?_)
        · replace H := cond_t hc H
          refine sq ctNo_ok ?_
          simp only [go_sem]
          refine rg ctNo_ok ?_
          simp only [go_sem]
          have H := hn2_2 _ (Option.some.inj H).symm
          obtain rfl := Option.some.inj H
          first | rfl | simp only [Bool.and_false, Bool.false_and, Bool.and_true, Bool.true_and]
        replace H := cond_f hc H
        refine rg ctNo_ok ?_
        simp only [go_sem]
        refine rg ctNo_ok ?_
        simp only [go_sem]
        refine ⟨_, (Option.some.inj H).symm, ?_⟩
        refine SubF_of ⟨[some 0, some 1], ?_, ?_, by rfl, by rfl⟩
        · simp [CvL, Cv, getM]
        · exact ⟨(by simp [CvB, CvL, Cv, blkAt, geth]), (by simp [CvB, CvL, Cv, blkAt, geth]), trivial⟩
      · try dsimp only at H ⊢
        try simp only [tp]
        try simp only [m_normal]
        refine seqM ?_
        refine sq ctNo_ok ?_
        simp only [go_sem]
        refine blkM ?_
        refine loop_den (fun s : Int => (.top :: .top :: .ptr 0 0 0 0 :: .ptr 1 0 0 0 :: .top :: .top :: .top :: .int .i64 s :: tp 126 [])) (fun s => [.lit 39 [.ro 3 p0.Table.length false (enR c_TRegulateChannel p0.Table), .int .i64 p0.Channel, .bool p0.Lead, .int .i64 p0.Heard, .bool p0.Stopped, .bool p0.Moving, .int .i64 p0.To, .int .i64 p0.At, .ro 2 p0.Blocked.length false (enR c_TRegulateBlock p0.Blocked), .ro 1 p0.Clear.length false (enR c_i64 p0.Clear)], .lit 39 [.ro 3 p1.Table.length false (enR c_TRegulateChannel p1.Table), .int .i64 p1.Channel, .bool p1.Lead, .int .i64 p1.Heard, .bool p1.Stopped, .bool p1.Moving, .int .i64 p1.To, .int .i64 p1.At, .ro 2 p1.Blocked.length false (enR c_TRegulateBlock p1.Blocked), .ro 1 p1.Clear.length false (enR c_i64 p1.Clear)]]) (fun e : Unit => (.top :: .top :: .ptr 0 0 0 0 :: .ptr 1 0 0 0 :: tp 130 [])) (fun e => [.lit 39 [.ro 3 p0.Table.length false (enR c_TRegulateChannel p0.Table), .int .i64 p0.Channel, .bool p0.Lead, .int .i64 p0.Heard, .bool p0.Stopped, .bool p0.Moving, .int .i64 p0.To, .int .i64 p0.At, .ro 2 p0.Blocked.length false (enR c_TRegulateBlock p0.Blocked), .ro 1 p0.Clear.length false (enR c_i64 p0.Clear)], .lit 39 [.ro 3 p1.Table.length false (enR c_TRegulateChannel p1.Table), .int .i64 p1.Channel, .bool p1.Lead, .int .i64 p1.Heard, .bool p1.Stopped, .bool p1.Moving, .int .i64 p1.To, .int .i64 p1.At, .ro 2 p1.Blocked.length false (enR c_TRegulateBlock p1.Blocked), .ro 1 p1.Clear.length false (enR c_i64 p1.Clear)]]) H ?_ (fun v3_1 o H hn1_3 hn2_3 => ?_) (fun e H => ?_)
        · refine SubF_of ⟨[some 0, some 1], ?_, ?_, by rfl, by rfl⟩
          · simp [CvL, Cv, getM, tp]
          · exact ⟨(by simp [CvB, CvL, Cv, blkAt, geth]), (by simp [CvB, CvL, Cv, blkAt, geth]), trivial⟩
        · unfold F31_L3 at H
          try simp only [tp]
          refine seqM ?_
          refine sq ctNo_ok ?_
          simp only [go_sem, Nat.reduceLT, Nat.reduceAdd]
          refine condM' rfl trivial (fun hc => ?_) (fun hc => ?_)
          · replace H := cond_f hc H
            refine rg ctNo_ok ?_
            simp only [go_sem]
            refine ⟨_, (Option.some.inj H).symm, ?_⟩
            refine SubF_of ⟨[some 0, some 1], ?_, ?_, by rfl, by rfl⟩
            · simp [CvL, Cv, getM]
            · exact ⟨(by simp [CvB, CvL, Cv, blkAt, geth]), (by simp [CvB, CvL, Cv, blkAt, geth]), trivial⟩
          replace H := cond_t hc H
          refine rg ctNo_ok ?_
          simp only [go_sem]
          refine seqM ?_
          refine blkM ?_
          refine seqM ?_
          obtain ⟨f5, H⟩ := need_some.1 H
          replace f5 := inb_iff.1 f5
          obtain ⟨f6, H⟩ := need_some.1 H
          replace f6 := inb_iff.1 f6
          refine draw_quiet shT_ok ctNo_ok (by kernel_rfl) (by kernel_rfl) ?_
          simp only [go_sem, Nat.reduceLT, Nat.reduceAdd, f5, f6]
          refine condM rfl trivial (fun hc => ?_) (fun hc => ?_)
          · replace H := cond_t hc H
            refine sq ctNo_ok ?_
            simp only [go_sem]
            refine rg ctNo_ok ?_
            simp only [go_sem]
            have H := hn2_3 _ (Option.some.inj H).symm
            obtain rfl := Option.some.inj H
            first | rfl | simp only [Bool.and_false, Bool.false_and, Bool.and_true, Bool.true_and]
          replace H := cond_f hc H
          refine rg ctNo_ok ?_
          simp only [go_sem]
          refine rg ctNo_ok ?_
          simp only [go_sem]
          refine ⟨_, (Option.some.inj H).symm, ?_⟩
          refine SubF_of ⟨[some 0, some 1], ?_, ?_, by rfl, by rfl⟩
          · simp [CvL, Cv, getM]
          · exact ⟨(by simp [CvB, CvL, Cv, blkAt, geth]), (by simp [CvB, CvL, Cv, blkAt, geth]), trivial⟩
        · try dsimp only at H ⊢
          try simp only [tp]
          try simp only [m_normal]
          refine sq ctNo_ok ?_
          simp only [go_sem, Nat.reduceLeDiff, Nat.reduceLT, Nat.reduceAdd]
          refine rg ctNo_ok ?_
          simp only [go_sem]
          obtain rfl := Option.some.inj H
          first | rfl | simp only [Bool.and_false, Bool.false_and, Bool.and_true, Bool.true_and]
  · cases hb
/-! hotspot/hotspotref45.SameWords -/
noncomputable def F39_L1 (p0 : List TRegulateWord) (p1 : List TRegulateWord) (v1_1 : Int) : Option (Lp (Int) ((Unit) ⊕ (Bool))) :=
  bif (bLt v1_1 (p0.length : Nat)) then (need (inb v1_1 p0.length) <| need (inb v1_1 p1.length) <| bif (!(bEq ((gd p0 v1_1.toNat).Kind) ((gd p1 v1_1.toNat).Kind) && (bEq ((gd p0 v1_1.toNat).Channel) ((gd p1 v1_1.toNat).Channel) && (bEq ((gd p0 v1_1.toNat).To) ((gd p1 v1_1.toNat).To) && (bEq ((gd p0 v1_1.toNat).At) ((gd p1 v1_1.toNat).At)))))) then (some (.done (.inr false))) else (some (.next (wr .i64 (v1_1 + 1))))) else (some (.done (.inl ())))
noncomputable def F39 (p0 : List TRegulateWord) (p1 : List TRegulateWord) : Option (Bool) :=
  bif (!bEq (p0.length : Nat) (p1.length : Nat)) then (some false) else (lp (loopD (fun s => F39_L1 p0 p1 s) 0) (fun e => some true) some)
noncomputable def body39 : List AV -> AR
  | [v0, v1] => .pure (lK k_TRegulateWord 4 v0 /\ lK k_TRegulateWord 4 v1 /\ (F39 (lA g_TRegulateWord v0) (lA g_TRegulateWord v1)).isSome = true) (.bool (gt (F39 (lA g_TRegulateWord v0) (lA g_TRegulateWord v1))))
  | _ => .fail
set_option maxHeartbeats 4000000 in
set_option maxRecDepth 20000 in
theorem ok39 : FnOk Try.prog 39 (pureC body39) := by
  refine pure_fnM body39 (rs := [.tmp 4]) Try.func39 (by kernel_rfl) rfl rfl ?_
  intro l ob v hb hob
  unfold body39 at hb
  split at hb
  · rename_i v0 v1
    injection hb with q1 q2; subst q1 q2
    obtain ⟨hk0_0, hk1_0, hob⟩ := hob
    obtain ⟨r, H⟩ := Option.isSome_iff_exists.1 hob
    rw [H, gt_some]
    have hw0 := lK_wk (fun r h => w_TRegulateWord h) hk0_0
    have hw1 := lK_wk (fun r h => w_TRegulateWord h) hk1_0
    generalize lA g_TRegulateWord v0 = p0 at H hw0
    generalize lA g_TRegulateWord v1 = p1 at H hw1
    refine ⟨[.ro 4 p0.length false (enR c_TRegulateWord p0), .ro 4 p1.length false (enR c_TRegulateWord p1)], _, (fun E vs F => FR_wk1 hw0.1 F (fun vs F => FR_wk1 hw1.1 F (fun vs F => F))), rfl, rfl, ?_⟩
    rw [Try.ntmps39]
    simp only [List.length_cons, List.length_nil, Nat.reduceAdd, Nat.reduceSub, List.replicate_succ, List.replicate_zero, List.cons_append, List.nil_append]
    unfold F39 at H
    refine sq ctNo_ok ?_
    simp only [go_sem]
    refine seqM ?_
    refine sq ctNo_ok ?_
    simp only [go_sem]
    refine condM rfl trivial (fun hc => ?_) (fun hc => ?_)
    · replace H := cond_t hc H
      refine sq ctNo_ok ?_
      simp only [go_sem]
      refine rg ctNo_ok ?_
      simp only [go_sem]
      obtain rfl := Option.some.inj H
      first | rfl | simp only [Bool.and_false, Bool.false_and, Bool.and_true, Bool.true_and]
    replace H := cond_f hc H
    refine rg ctNo_ok ?_
    simp only [go_sem]
    refine seqM ?_
    refine sq ctNo_ok ?_
    simp only [go_sem]
    refine blkM ?_
    refine loop_den (fun s : Int => (.ro 4 p0.length false (enR c_TRegulateWord p0) :: .ro 4 p1.length false (enR c_TRegulateWord p1) :: .top :: .top :: .top :: .int .i64 s :: tp 20 [])) (fun s => []) (fun e : Unit => (tp 26 [])) (fun e => []) H ?_ (fun v1_1 o H hn1_1 hn2_1 => ?_) (fun e H => ?_)
    · refine SubF_of ⟨[], ?_, ?_, by rfl, by rfl⟩
      · simp [CvL, Cv, tp]
      · trivial
    · unfold F39_L1 at H
      try simp only [tp]
      refine seqM ?_
      refine sq ctNo_ok ?_
      simp only [go_sem]
      refine condM' rfl trivial (fun hc => ?_) (fun hc => ?_)
      · replace H := cond_f hc H
        refine rg ctNo_ok ?_
        simp only [go_sem]
        refine ⟨_, (Option.some.inj H).symm, ?_⟩
        refine SubF_of ⟨[], ?_, ?_, by rfl, by rfl⟩
        · simp [CvL, Cv]
        · trivial
      replace H := cond_t hc H
      refine rg ctNo_ok ?_
      simp only [go_sem]
      refine seqM ?_
      refine blkM ?_
      refine seqM ?_
      obtain ⟨f1, H⟩ := need_some.1 H
      replace f1 := inb_iff.1 f1
      obtain ⟨f2, H⟩ := need_some.1 H
      replace f2 := inb_iff.1 f2
      refine draw_quiet shT_ok ctNo_ok (by kernel_rfl) (by kernel_rfl) ?_
      simp only [go_sem, Nat.reduceLT, Nat.reduceAdd, f1, f2]
      refine condM rfl trivial (fun hc => ?_) (fun hc => ?_)
      · replace H := cond_t hc H
        refine sq ctNo_ok ?_
        simp only [go_sem]
        refine rg ctNo_ok ?_
        simp only [go_sem]
        have H := hn2_1 _ (Option.some.inj H).symm
        obtain rfl := Option.some.inj H
        first | rfl | simp only [Bool.and_false, Bool.false_and, Bool.and_true, Bool.true_and]
      replace H := cond_f hc H
      refine rg ctNo_ok ?_
      simp only [go_sem]
      refine rg ctNo_ok ?_
      simp only [go_sem]
      refine ⟨_, (Option.some.inj H).symm, ?_⟩
      refine SubF_of ⟨[], ?_, ?_, by rfl, by rfl⟩
      · simp [CvL, Cv]
      · trivial
    · try dsimp only at H ⊢
      try simp only [tp]
      try simp only [m_normal]
      refine sq ctNo_ok ?_
      simp only [go_sem]
      refine rg ctNo_ok ?_
      simp only [go_sem]
      obtain rfl := Option.some.inj H
      first | rfl | simp only [Bool.and_false, Bool.false_and, Bool.and_true, Bool.true_and]
  · cases hb
/-! hotspot/hotspotlaw45.RegulateSteps -/
noncomputable def ct7t0 : Ct := tab [(16, pureC body16)]
theorem ct7t0_ok : CtOk Try.prog ct7t0 := tab_cons ok16 <| tab_nil
theorem ct7t0_16 (l : List AV) (h : List ABlk) : ct7t0 16 l h = pureC body16 l h := rfl
noncomputable def ct7t1 : Ct := tab [(24, edC body24)]
theorem ct7t1_ok : CtOk Try.prog ct7t1 := tab_cons ok24 <| tab_nil
theorem ct7t1_24 (l : List AV) (h : List ABlk) : ct7t1 24 l h = edC body24 l h := rfl
noncomputable def ct7t2 : Ct := tab [(22, edC body22)]
theorem ct7t2_ok : CtOk Try.prog ct7t2 := tab_cons ok22 <| tab_nil
theorem ct7t2_22 (l : List AV) (h : List ABlk) : ct7t2 22 l h = edC body22 l h := rfl
noncomputable def ct7t3 : Ct := tab [(35, edC body35)]
theorem ct7t3_ok : CtOk Try.prog ct7t3 := tab_cons ok35 <| tab_nil
theorem ct7t3_35 (l : List AV) (h : List ABlk) : ct7t3 35 l h = edC body35 l h := rfl
noncomputable def ct7t4 : Ct := tab [(36, edC body36)]
theorem ct7t4_ok : CtOk Try.prog ct7t4 := tab_cons ok36 <| tab_nil
theorem ct7t4_36 (l : List AV) (h : List ABlk) : ct7t4 36 l h = edC body36 l h := rfl
noncomputable def ct7t5 : Ct := tab [(37, edC body37)]
theorem ct7t5_ok : CtOk Try.prog ct7t5 := tab_cons ok37 <| tab_nil
theorem ct7t5_37 (l : List AV) (h : List ABlk) : ct7t5 37 l h = edC body37 l h := rfl
noncomputable def ct7t6 : Ct := tab [(23, edC body23)]
theorem ct7t6_ok : CtOk Try.prog ct7t6 := tab_cons ok23 <| tab_nil
theorem ct7t6_23 (l : List AV) (h : List ABlk) : ct7t6 23 l h = edC body23 l h := rfl
noncomputable def ct7t7 : Ct := tab [(38, edC body38)]
theorem ct7t7_ok : CtOk Try.prog ct7t7 := tab_cons ok38 <| tab_nil
theorem ct7t7_38 (l : List AV) (h : List ABlk) : ct7t7 38 l h = edC body38 l h := rfl
noncomputable def ct7t8 : Ct := tab [(31, pureC body31), (39, pureC body39)]
theorem ct7t8_ok : CtOk Try.prog ct7t8 := tab_cons ok31 <| tab_cons ok39 <| tab_nil
theorem ct7t8_31 (l : List AV) (h : List ABlk) : ct7t8 31 l h = pureC body31 l h := rfl
theorem ct7t8_39 (l : List AV) (h : List ABlk) : ct7t8 39 l h = pureC body39 l h := rfl
noncomputable def ct7t9 : Ct := tab [(31, pureC body31)]
theorem ct7t9_ok : CtOk Try.prog ct7t9 := tab_cons ok31 <| tab_nil
theorem ct7t9_31 (l : List AV) (h : List ABlk) : ct7t9 31 l h = pureC body31 l h := rfl
noncomputable def F7_L1 (v1_1 : Int) (v1_2 : List TRegulateBlock) : Option (Lp (Int × (List TRegulateBlock)) ((Unit) ⊕ (Bool))) :=
  bif (bLt v1_1 (v1_2.length : Nat)) then (need (inb v1_1 v1_2.length) <| some (.next (wr .i64 (v1_1 + 1), (v1_2.set v1_1.toNat (TRegulateBlock.mk ((gd v1_2 v1_1.toNat).Channel) (-1)))))) else (some (.done (.inl ())))
noncomputable def F7_L2 (v2_1 : Int) (v2_2 : List TRegulateBlock) : Option (Lp (Int × (List TRegulateBlock)) ((Unit) ⊕ (Bool))) :=
  bif (bLt v2_1 (v2_2.length : Nat)) then (need (inb v2_1 v2_2.length) <| some (.next (wr .i64 (v2_1 + 1), (v2_2.set v2_1.toNat (TRegulateBlock.mk ((gd v2_2 v2_1.toNat).Channel) (-1)))))) else (some (.done (.inl ())))
noncomputable def F7 (p0 : TRegulate) (p1 : TRegulateWord) (p2 : Int) (p3 : Int) : Option (Bool) :=
  (F16 p0).bind fun r1 => bif r1 then (some true) else ((F24 p0).bind fun r3 => (F22 p0 p2 p3).bind fun r5 => (F35 (TRegulate.mk r3.Table r3.Channel r3.Lead r3.Heard r3.Stopped r3.Moving r3.To r3.At r3.Blocked r3.Clear) p2 p3).bind fun r7 => (F36 p0 p1 p2 p3).bind fun r9 => (F37 (TRegulate.mk r3.Table r3.Channel r3.Lead r3.Heard r3.Stopped r3.Moving r3.To r3.At r3.Blocked r3.Clear) p1 p2 p3).bind fun r11 => (F23 p0 p3).bind fun r13 => (F38 (TRegulate.mk r3.Table r3.Channel r3.Lead r3.Heard r3.Stopped r3.Moving r3.To r3.At r3.Blocked r3.Clear) p3).bind fun r15 => (F31 (TRegulate.mk r5.1.Table r5.1.Channel r5.1.Lead r5.1.Heard r5.1.Stopped r5.1.Moving r5.1.To r5.1.At r5.1.Blocked r5.1.Clear) (TRegulate.mk r7.1.Table r7.1.Channel r7.1.Lead r7.1.Heard r7.1.Stopped r7.1.Moving r7.1.To r7.1.At r7.1.Blocked r7.1.Clear)).bind fun r17 => need (bif r17 then ((F39 r5.2.1 r7.2.1).isSome) else true) <| need (bif ((r17 && (gt (F39 r5.2.1 r7.2.1))) && (bEq r5.2.2 r7.2.2)) then ((F31 (TRegulate.mk r9.1.Table r9.1.Channel r9.1.Lead r9.1.Heard r9.1.Stopped r9.1.Moving r9.1.To r9.1.At r9.1.Blocked r9.1.Clear) (TRegulate.mk r11.1.Table r11.1.Channel r11.1.Lead r11.1.Heard r11.1.Stopped r11.1.Moving r11.1.To r11.1.At r11.1.Blocked r11.1.Clear)).isSome) else true) <| need (bif (((r17 && (gt (F39 r5.2.1 r7.2.1))) && (bEq r5.2.2 r7.2.2)) && (gt (F31 (TRegulate.mk r9.1.Table r9.1.Channel r9.1.Lead r9.1.Heard r9.1.Stopped r9.1.Moving r9.1.To r9.1.At r9.1.Blocked r9.1.Clear) (TRegulate.mk r11.1.Table r11.1.Channel r11.1.Lead r11.1.Heard r11.1.Stopped r11.1.Moving r11.1.To r11.1.At r11.1.Blocked r11.1.Clear)))) then ((F39 r9.2.1 r11.2.1).isSome) else true) <| need (bif (((((r17 && (gt (F39 r5.2.1 r7.2.1))) && (bEq r5.2.2 r7.2.2)) && (gt (F31 (TRegulate.mk r9.1.Table r9.1.Channel r9.1.Lead r9.1.Heard r9.1.Stopped r9.1.Moving r9.1.To r9.1.At r9.1.Blocked r9.1.Clear) (TRegulate.mk r11.1.Table r11.1.Channel r11.1.Lead r11.1.Heard r11.1.Stopped r11.1.Moving r11.1.To r11.1.At r11.1.Blocked r11.1.Clear)))) && (gt (F39 r9.2.1 r11.2.1))) && (bEq r9.2.2 r11.2.2)) then ((F31 (TRegulate.mk r13.1.Table r13.1.Channel r13.1.Lead r13.1.Heard r13.1.Stopped r13.1.Moving r13.1.To r13.1.At r13.1.Blocked r13.1.Clear) (TRegulate.mk r15.1.Table r15.1.Channel r15.1.Lead r15.1.Heard r15.1.Stopped r15.1.Moving r15.1.To r15.1.At r15.1.Blocked r15.1.Clear)).isSome) else true) <| need (bif ((((((r17 && (gt (F39 r5.2.1 r7.2.1))) && (bEq r5.2.2 r7.2.2)) && (gt (F31 (TRegulate.mk r9.1.Table r9.1.Channel r9.1.Lead r9.1.Heard r9.1.Stopped r9.1.Moving r9.1.To r9.1.At r9.1.Blocked r9.1.Clear) (TRegulate.mk r11.1.Table r11.1.Channel r11.1.Lead r11.1.Heard r11.1.Stopped r11.1.Moving r11.1.To r11.1.At r11.1.Blocked r11.1.Clear)))) && (gt (F39 r9.2.1 r11.2.1))) && (bEq r9.2.2 r11.2.2)) && (gt (F31 (TRegulate.mk r13.1.Table r13.1.Channel r13.1.Lead r13.1.Heard r13.1.Stopped r13.1.Moving r13.1.To r13.1.At r13.1.Blocked r13.1.Clear) (TRegulate.mk r15.1.Table r15.1.Channel r15.1.Lead r15.1.Heard r15.1.Stopped r15.1.Moving r15.1.To r15.1.At r15.1.Blocked r15.1.Clear)))) then ((F39 r13.2.1 r15.2.1).isSome) else true) <| lp (loopD (fun s => F7_L1 s.1 s.2) (0, r13.1.Blocked)) (fun e => lp (loopD (fun s => F7_L2 s.1 s.2) (0, r5.1.Blocked)) (fun e => need (bif ((((((((r17 && (gt (F39 r5.2.1 r7.2.1))) && (bEq r5.2.2 r7.2.2)) && (gt (F31 (TRegulate.mk r9.1.Table r9.1.Channel r9.1.Lead r9.1.Heard r9.1.Stopped r9.1.Moving r9.1.To r9.1.At r9.1.Blocked r9.1.Clear) (TRegulate.mk r11.1.Table r11.1.Channel r11.1.Lead r11.1.Heard r11.1.Stopped r11.1.Moving r11.1.To r11.1.At r11.1.Blocked r11.1.Clear)))) && (gt (F39 r9.2.1 r11.2.1))) && (bEq r9.2.2 r11.2.2)) && (gt (F31 (TRegulate.mk r13.1.Table r13.1.Channel r13.1.Lead r13.1.Heard r13.1.Stopped r13.1.Moving r13.1.To r13.1.At r13.1.Blocked r13.1.Clear) (TRegulate.mk r15.1.Table r15.1.Channel r15.1.Lead r15.1.Heard r15.1.Stopped r15.1.Moving r15.1.To r15.1.At r15.1.Blocked r15.1.Clear)))) && (gt (F39 r13.2.1 r15.2.1))) && (bEq r13.2.2 r15.2.2)) then ((F31 p0 (TRegulate.mk r3.Table r3.Channel r3.Lead r3.Heard r3.Stopped r3.Moving r3.To r3.At r3.Blocked r3.Clear)).isSome) else true) <| some (((((((((r17 && (gt (F39 r5.2.1 r7.2.1))) && (bEq r5.2.2 r7.2.2)) && (gt (F31 (TRegulate.mk r9.1.Table r9.1.Channel r9.1.Lead r9.1.Heard r9.1.Stopped r9.1.Moving r9.1.To r9.1.At r9.1.Blocked r9.1.Clear) (TRegulate.mk r11.1.Table r11.1.Channel r11.1.Lead r11.1.Heard r11.1.Stopped r11.1.Moving r11.1.To r11.1.At r11.1.Blocked r11.1.Clear)))) && (gt (F39 r9.2.1 r11.2.1))) && (bEq r9.2.2 r11.2.2)) && (gt (F31 (TRegulate.mk r13.1.Table r13.1.Channel r13.1.Lead r13.1.Heard r13.1.Stopped r13.1.Moving r13.1.To r13.1.At r13.1.Blocked r13.1.Clear) (TRegulate.mk r15.1.Table r15.1.Channel r15.1.Lead r15.1.Heard r15.1.Stopped r15.1.Moving r15.1.To r15.1.At r15.1.Blocked r15.1.Clear)))) && (gt (F39 r13.2.1 r15.2.1))) && (bEq r13.2.2 r15.2.2)) && (gt (F31 p0 (TRegulate.mk r3.Table r3.Channel r3.Lead r3.Heard r3.Stopped r3.Moving r3.To r3.At r3.Blocked r3.Clear))))) some) some)
noncomputable def body7 : List AV -> AR
  | [v0, v1, v2, v3] => .pure (aK 10 k_TRegulate v0 /\ aK 4 k_TRegulateWord v1 /\ iK .i64 v2 /\ iK .i64 v3 /\ (F7 (g_TRegulate (aL v0)) (g_TRegulateWord (aL v1)) (iA v2) (iA v3)).isSome = true) (.bool (gt (F7 (g_TRegulate (aL v0)) (g_TRegulateWord (aL v1)) (iA v2) (iA v3))))
  | _ => .fail
set_option maxHeartbeats 4000000 in
set_option maxRecDepth 20000 in
theorem ok7 : FnOk Try.prog 7 (pureC body7) := by
  refine pure_fnM body7 (rs := [.tmp 8]) Try.func7 (by kernel_rfl) rfl rfl ?_
  intro l ob v hb hob
  unfold body7 at hb
  split at hb
  · rename_i v0 v1 v2 v3
    injection hb with q1 q2; subst q1 q2
    obtain ⟨hk0_0, hk1_0, hk2_0, hk3_0, hob⟩ := hob
    obtain ⟨r, H⟩ := Option.isSome_iff_exists.1 hob
    rw [H, gt_some]
    have hw0 := wA_TRegulate hk0_0
    have hw1 := wA_TRegulateWord hk1_0
    have hw2 := iK_wk hk2_0
    have hw3 := iK_wk hk3_0
    generalize g_TRegulate (aL v0) = p0 at H hw0
    generalize g_TRegulateWord (aL v1) = p1 at H hw1
    generalize iA v2 = p2 at H hw2
    generalize iA v3 = p3 at H hw3
    refine ⟨[.agg [.ro 3 p0.Table.length false (enR c_TRegulateChannel p0.Table), .int .i64 p0.Channel, .bool p0.Lead, .int .i64 p0.Heard, .bool p0.Stopped, .bool p0.Moving, .int .i64 p0.To, .int .i64 p0.At, .ro 2 p0.Blocked.length false (enR c_TRegulateBlock p0.Blocked), .ro 1 p0.Clear.length false (enR c_i64 p0.Clear)], .agg [.int .u8 p1.Kind, .int .i64 p1.Channel, .int .i64 p1.To, .int .i64 p1.At], .int .i64 p2, .int .i64 p3], _, (fun E vs F => FR_wk1 hw0.1 F (fun vs F => FR_wk1 hw1.1 F (fun vs F => FR_wk1 hw2.1 F (fun vs F => FR_wk1 hw3.1 F (fun vs F => F))))), rfl, rfl, ?_⟩
    rw [Try.ntmps7]
    simp only [List.length_cons, List.length_nil, Nat.reduceAdd, Nat.reduceSub, List.replicate_succ, List.replicate_zero, List.cons_append, List.nil_append]
    unfold F7 at H
    refine sq ctNo_ok ?_
    simp only [go_sem]
    refine seqM ?_
    refine seqM ?_
    obtain ⟨r1, e2, H⟩ := bsi H
    refine rg ct7t0_ok ?_
    simp only [go_sem, Nat.reduceLT, Nat.reduceAdd, ct7t0_16, body16, e2]
    repeat ((with_reducible refine And.intro ?_ ?_); focus (first | (and_intros <;> first | (with_reducible trivial) | omega | assumption | exact nfc | first | exact rfl | exact trivial | exact fitI | exact .inr rfl | exact .inl rfl | exact fun x hx => absurd hx (by omega)) | grind))
    refine condM rfl trivial (fun hc => ?_) (fun hc => ?_)
    · replace H := cond_t hc H
      refine sq ctNo_ok ?_
      simp only [go_sem]
      refine rg ctNo_ok ?_
      simp only [go_sem]
      obtain rfl := Option.some.inj H
      first | rfl | simp only [Bool.and_false, Bool.false_and, Bool.and_true, Bool.true_and]
    replace H := cond_f hc H
    refine rg ctNo_ok ?_
    simp only [go_sem]
    refine seqM ?_
    obtain ⟨r3, e4, H⟩ := bsi H
    refine rg ct7t1_ok ?_
    simp only [go_sem, Nat.reduceLT, Nat.reduceAdd, ct7t1_24, body24, e4]
    refine seqM ?_
    obtain ⟨r5, e6, H⟩ := bsi H
    refine rg ct7t2_ok ?_
    simp only [go_sem, Nat.reduceLT, Nat.reduceAdd, ct7t2_22, body22, e6]
    repeat ((with_reducible refine And.intro ?_ ?_); focus (first | (and_intros <;> first | (with_reducible trivial) | omega | assumption | exact nfc | first | exact rfl | exact trivial | exact fitI | exact .inr rfl | exact .inl rfl | exact fun x hx => absurd hx (by omega)) | grind))
    refine seqM ?_
    obtain ⟨r7, e8, H⟩ := bsi H
    refine rg ct7t3_ok ?_
    simp only [go_sem, Nat.reduceLT, Nat.reduceAdd, ct7t3_35, body35, e8]
    repeat ((with_reducible refine And.intro ?_ ?_); focus (first | (and_intros <;> first | (with_reducible trivial) | omega | assumption | exact nfc | first | exact rfl | exact trivial | exact fitI | exact .inr rfl | exact .inl rfl | exact fun x hx => absurd hx (by omega)) | grind))
    refine seqM ?_
    obtain ⟨r9, e10, H⟩ := bsi H
    refine rg ct7t4_ok ?_
    simp only [go_sem, Nat.reduceLT, Nat.reduceAdd, ct7t4_36, body36, e10]
    refine seqM ?_
    obtain ⟨r11, e12, H⟩ := bsi H
    refine rg ct7t5_ok ?_
    simp only [go_sem, Nat.reduceLT, Nat.reduceAdd, ct7t5_37, body37, e12]
    repeat ((with_reducible refine And.intro ?_ ?_); focus (first | (and_intros <;> first | (with_reducible trivial) | omega | assumption | exact nfc | first | exact rfl | exact trivial | exact fitI | exact .inr rfl | exact .inl rfl | exact fun x hx => absurd hx (by omega)) | grind))
    refine seqM ?_
    obtain ⟨r13, e14, H⟩ := bsi H
    refine rg ct7t6_ok ?_
    simp only [go_sem, Nat.reduceLT, Nat.reduceAdd, ct7t6_23, body23, e14]
    refine seqM ?_
    obtain ⟨r15, e16, H⟩ := bsi H
    refine rg ct7t7_ok ?_
    simp only [go_sem, Nat.reduceLT, Nat.reduceAdd, ct7t7_38, body38, e16]
    repeat ((with_reducible refine And.intro ?_ ?_); focus (first | (and_intros <;> first | (with_reducible trivial) | omega | assumption | exact nfc | first | exact rfl | exact trivial | exact fitI | exact .inr rfl | exact .inl rfl | exact fun x hx => absurd hx (by omega)) | grind))
    refine seqM ?_
    obtain ⟨r17, e18, H⟩ := bsi H
    obtain ⟨f19, H⟩ := need_some.1 H
    replace f19 := g_iff.1 f19
    obtain ⟨f20, H⟩ := need_some.1 H
    replace f20 := g_iff.1 f20
    obtain ⟨f21, H⟩ := need_some.1 H
    replace f21 := g_iff.1 f21
    obtain ⟨f22, H⟩ := need_some.1 H
    replace f22 := g_iff.1 f22
    obtain ⟨f23, H⟩ := need_some.1 H
    replace f23 := g_iff.1 f23
    refine rg ct7t8_ok ?_
    simp only [go_sem, Nat.reduceLT, Nat.reduceAdd, ct7t8_31, body31, ct7t8_39, body39, e18]
    repeat ((with_reducible refine And.intro ?_ ?_); focus (first | (with_reducible trivial) | omega | exact f19 | exact f20 | exact f21 | exact f22 | exact f23 | (intro g; have q := f19 (by first | exact g | (rw [g]; rfl) | simpa using g); first | exact q | exact ⟨q.1, q.2.1⟩ | exact q.2.2 | omega | exact ⟨g, q⟩ | exact ⟨trivial, q⟩ | exact ⟨g, q.1, q.2.1⟩ | exact ⟨g, q.2.2⟩) | (intro g; have q := f20 (by first | exact g | (rw [g]; rfl) | simpa using g); first | exact q | exact ⟨q.1, q.2.1⟩ | exact q.2.2 | omega | exact ⟨g, q⟩ | exact ⟨trivial, q⟩ | exact ⟨g, q.1, q.2.1⟩ | exact ⟨g, q.2.2⟩) | (intro g; have q := f21 (by first | exact g | (rw [g]; rfl) | simpa using g); first | exact q | exact ⟨q.1, q.2.1⟩ | exact q.2.2 | omega | exact ⟨g, q⟩ | exact ⟨trivial, q⟩ | exact ⟨g, q.1, q.2.1⟩ | exact ⟨g, q.2.2⟩) | (intro g; have q := f22 (by first | exact g | (rw [g]; rfl) | simpa using g); first | exact q | exact ⟨q.1, q.2.1⟩ | exact q.2.2 | omega | exact ⟨g, q⟩ | exact ⟨trivial, q⟩ | exact ⟨g, q.1, q.2.1⟩ | exact ⟨g, q.2.2⟩) | (intro g; have q := f23 (by first | exact g | (rw [g]; rfl) | simpa using g); first | exact q | exact ⟨q.1, q.2.1⟩ | exact q.2.2 | omega | exact ⟨g, q⟩ | exact ⟨trivial, q⟩ | exact ⟨g, q.1, q.2.1⟩ | exact ⟨g, q.2.2⟩) | (intro g; (try have q0 := f19 (by first | exact g | (rw [g]; rfl) | simpa using g)); (try have q1 := f20 (by first | exact g | (rw [g]; rfl) | simpa using g)); (try have q2 := f21 (by first | exact g | (rw [g]; rfl) | simpa using g)); (try have q3 := f22 (by first | exact g | (rw [g]; rfl) | simpa using g)); (try have q4 := f23 (by first | exact g | (rw [g]; rfl) | simpa using g)); and_intros <;> first | (with_reducible trivial) | assumption | exact nfc | (intro g2; rw [g, g2]; rfl) | (intro g2; assumption) | (simp only [g, Bool.true_and, Bool.and_true, Bool.not_false, Bool.not_true]; assumption) | grind) | (and_intros <;> first | (with_reducible trivial) | omega | assumption | exact nfc | first | exact rfl | exact trivial | exact fitI | exact .inr rfl | exact .inl rfl | exact fun x hx => absurd hx (by omega)) | grind))
    refine seqM ?_
    refine sq ctNo_ok ?_
    simp only [go_sem]
    refine blkM ?_
    refine loop_den (fun s : Int × (List TRegulateBlock) => (tp 4 (.ptr 0 0 0 0 :: tp 4 (.ptr 5 0 0 0 :: .ptr 10 0 0 0 :: tp 11 (.ptr 30 0 0 0 :: tp 5 (.bool ((((((((r17 && (gt (F39 r5.2.1 r7.2.1))) && (bEq r5.2.2 r7.2.2)) && (gt (F31 (TRegulate.mk r9.1.Table r9.1.Channel r9.1.Lead r9.1.Heard r9.1.Stopped r9.1.Moving r9.1.To r9.1.At r9.1.Blocked r9.1.Clear) (TRegulate.mk r11.1.Table r11.1.Channel r11.1.Lead r11.1.Heard r11.1.Stopped r11.1.Moving r11.1.To r11.1.At r11.1.Blocked r11.1.Clear)))) && (gt (F39 r9.2.1 r11.2.1))) && (bEq r9.2.2 r11.2.2)) && (gt (F31 (TRegulate.mk r13.1.Table r13.1.Channel r13.1.Lead r13.1.Heard r13.1.Stopped r13.1.Moving r13.1.To r13.1.At r13.1.Blocked r13.1.Clear) (TRegulate.mk r15.1.Table r15.1.Channel r15.1.Lead r15.1.Heard r15.1.Stopped r15.1.Moving r15.1.To r15.1.At r15.1.Blocked r15.1.Clear)))) && (gt (F39 r13.2.1 r15.2.1))) && (bEq r13.2.2 r15.2.2)) :: .int .i64 s.1 :: tp 126 [])))))) (fun s => (.lit 39 [.ro 3 p0.Table.length false (enR c_TRegulateChannel p0.Table), .int .i64 p0.Channel, .bool p0.Lead, .int .i64 p0.Heard, .bool p0.Stopped, .bool p0.Moving, .int .i64 p0.To, .int .i64 p0.At, .ro 2 p0.Blocked.length false (enR c_TRegulateBlock p0.Blocked), .ro 1 p0.Clear.length false (enR c_i64 p0.Clear)] :: .dead :: .row 45 3 r3.Table.length (enR c_TRegulateChannel r3.Table) :: .row 79 2 r3.Blocked.length (enR c_TRegulateBlock r3.Blocked) :: .row 3 1 r3.Clear.length (enR c_i64 r3.Clear) :: .lit 39 [.sl 2 3 0 r3.Table.length false, .int .i64 r3.Channel, .bool r3.Lead, .int .i64 r3.Heard, .bool r3.Stopped, .bool r3.Moving, .int .i64 r3.To, .int .i64 r3.At, .sl 3 2 0 r3.Blocked.length false, .sl 4 1 0 r3.Clear.length false] :: .row 45 3 r5.1.Table.length (enR c_TRegulateChannel r5.1.Table) :: .row 79 2 r5.1.Blocked.length (enR c_TRegulateBlock r5.1.Blocked) :: .row 3 1 r5.1.Clear.length (enR c_i64 r5.1.Clear) :: .dead :: .lit 39 [.sl 6 3 0 r5.1.Table.length false, .int .i64 r5.1.Channel, .bool r5.1.Lead, .int .i64 r5.1.Heard, .bool r5.1.Stopped, .bool r5.1.Moving, .int .i64 r5.1.To, .int .i64 r5.1.At, .sl 7 2 0 r5.1.Blocked.length false, .sl 8 1 0 r5.1.Clear.length false] :: .dead :: .dead :: .dead :: .dead :: .dead :: .dead :: .dead :: .dead :: .dead :: .dead :: .dead :: .dead :: .dead :: .dead :: .dead :: .row 45 3 r13.1.Table.length (enR c_TRegulateChannel r13.1.Table) :: .dead :: .row 3 1 r13.1.Clear.length (enR c_i64 r13.1.Clear) :: .dead :: .lit 39 [.sl 26 3 0 r13.1.Table.length false, .int .i64 r13.1.Channel, .bool r13.1.Lead, .int .i64 r13.1.Heard, .bool r13.1.Stopped, .bool r13.1.Moving, .int .i64 r13.1.To, .int .i64 r13.1.At, .sl 36 2 0 s.2.length false, .sl 28 1 0 r13.1.Clear.length false] :: .dead :: .dead :: .dead :: .dead :: .dead :: .row 79 2 s.2.length (enR c_TRegulateBlock s.2) :: [])) (fun e : Unit => (tp 4 (.ptr 0 0 0 0 :: tp 4 (.ptr 5 0 0 0 :: .ptr 10 0 0 0 :: tp 17 (.bool ((((((((r17 && (gt (F39 r5.2.1 r7.2.1))) && (bEq r5.2.2 r7.2.2)) && (gt (F31 (TRegulate.mk r9.1.Table r9.1.Channel r9.1.Lead r9.1.Heard r9.1.Stopped r9.1.Moving r9.1.To r9.1.At r9.1.Blocked r9.1.Clear) (TRegulate.mk r11.1.Table r11.1.Channel r11.1.Lead r11.1.Heard r11.1.Stopped r11.1.Moving r11.1.To r11.1.At r11.1.Blocked r11.1.Clear)))) && (gt (F39 r9.2.1 r11.2.1))) && (bEq r9.2.2 r11.2.2)) && (gt (F31 (TRegulate.mk r13.1.Table r13.1.Channel r13.1.Lead r13.1.Heard r13.1.Stopped r13.1.Moving r13.1.To r13.1.At r13.1.Blocked r13.1.Clear) (TRegulate.mk r15.1.Table r15.1.Channel r15.1.Lead r15.1.Heard r15.1.Stopped r15.1.Moving r15.1.To r15.1.At r15.1.Blocked r15.1.Clear)))) && (gt (F39 r13.2.1 r15.2.1))) && (bEq r13.2.2 r15.2.2)) :: tp 127 []))))) (fun e => (.lit 39 [.ro 3 p0.Table.length false (enR c_TRegulateChannel p0.Table), .int .i64 p0.Channel, .bool p0.Lead, .int .i64 p0.Heard, .bool p0.Stopped, .bool p0.Moving, .int .i64 p0.To, .int .i64 p0.At, .ro 2 p0.Blocked.length false (enR c_TRegulateBlock p0.Blocked), .ro 1 p0.Clear.length false (enR c_i64 p0.Clear)] :: .dead :: .row 45 3 r3.Table.length (enR c_TRegulateChannel r3.Table) :: .row 79 2 r3.Blocked.length (enR c_TRegulateBlock r3.Blocked) :: .row 3 1 r3.Clear.length (enR c_i64 r3.Clear) :: .lit 39 [.sl 2 3 0 r3.Table.length false, .int .i64 r3.Channel, .bool r3.Lead, .int .i64 r3.Heard, .bool r3.Stopped, .bool r3.Moving, .int .i64 r3.To, .int .i64 r3.At, .sl 3 2 0 r3.Blocked.length false, .sl 4 1 0 r3.Clear.length false] :: .row 45 3 r5.1.Table.length (enR c_TRegulateChannel r5.1.Table) :: .row 79 2 r5.1.Blocked.length (enR c_TRegulateBlock r5.1.Blocked) :: .row 3 1 r5.1.Clear.length (enR c_i64 r5.1.Clear) :: .dead :: .lit 39 [.sl 6 3 0 r5.1.Table.length false, .int .i64 r5.1.Channel, .bool r5.1.Lead, .int .i64 r5.1.Heard, .bool r5.1.Stopped, .bool r5.1.Moving, .int .i64 r5.1.To, .int .i64 r5.1.At, .sl 7 2 0 r5.1.Blocked.length false, .sl 8 1 0 r5.1.Clear.length false] :: .dead :: .dead :: .dead :: .dead :: .dead :: .dead :: .dead :: .dead :: .dead :: .dead :: .dead :: .dead :: .dead :: .dead :: .dead :: .dead :: .dead :: .dead :: .dead :: .dead :: .dead :: .dead :: .dead :: .dead :: .dead :: [])) H ?_ (fun s o H hn1_1 hn2_1 => ?_) (fun e H => ?_)
    · refine SubF_of ⟨[some 0, some 1, some 2, some 3, some 4, some 5, some 6, some 7, some 8, some 9, some 10, some 11, some 12, some 13, some 14, some 15, some 16, some 17, some 18, some 19, some 20, some 21, some 22, some 23, some 24, some 25, some 26, some 27, some 28, some 29, some 30, some 31, some 32, some 33, some 34, some 35, some 27], ?_, ?_, by rfl, by rfl⟩
      · simp [CvL, Cv, getM, tp]
      · exact ⟨(by simp [CvB, CvL, Cv, blkAt, geth]), CvB_dead, (CvB_same nfA), (CvB_same nfA), (CvB_same nfA), (by simp [CvB, CvL, Cv, blkAt, geth, getM]), (CvB_same nfA), (CvB_same nfA), (CvB_same nfA), CvB_dead, (by simp [CvB, CvL, Cv, blkAt, geth, getM]), CvB_dead, CvB_dead, CvB_dead, CvB_dead, CvB_dead, CvB_dead, CvB_dead, CvB_dead, CvB_dead, CvB_dead, CvB_dead, CvB_dead, CvB_dead, CvB_dead, CvB_dead, (CvB_same nfA), CvB_dead, (CvB_same nfA), CvB_dead, (by simp [CvB, CvL, Cv, blkAt, geth, getM]), CvB_dead, CvB_dead, CvB_dead, CvB_dead, CvB_dead, CvB_row nr_TRegulateBlock (by first | rfl | (simp; done) | (simp; omega)) (fun _ _ _ _ => rfl), trivial⟩
    · obtain ⟨v1_1, v1_2⟩ := s
      unfold F7_L1 at H
      try simp only [tp]
      refine seqM ?_
      refine sq ctNo_ok ?_
      simp only [go_sem, Nat.reduceLeDiff, Nat.reduceLT, Nat.reduceAdd]
      repeat ((with_reducible refine And.intro ?_ ?_); focus (first | (and_intros <;> first | (with_reducible trivial) | omega | assumption | exact nfc | first | exact rfl | exact trivial | exact fitI | exact .inr rfl | exact .inl rfl | exact fun x hx => absurd hx (by omega)) | grind))
      refine condM' rfl trivial (fun hc => ?_) (fun hc => ?_)
      · replace H := cond_f hc H
        refine rg ctNo_ok ?_
        simp only [go_sem]
        refine ⟨_, (Option.some.inj H).symm, ?_⟩
        refine SubF_of ⟨[some 0, some 1, some 2, some 3, some 4, some 5, some 6, some 7, some 8, some 9, some 10, some 11, some 12, some 13, some 14, some 15, some 16, some 17, some 18, some 19, some 20, some 21, some 22, some 23, some 24, some 25, some 26, some 27, some 28, some 29, some 30, some 31, some 32, some 33, some 34, some 35], ?_, ?_, by rfl, by rfl⟩
        · simp [CvL, Cv, getM]
        · exact ⟨(by simp [CvB, CvL, Cv, blkAt, geth]), CvB_dead, (CvB_same nfA), (CvB_same nfA), (CvB_same nfA), (by simp [CvB, CvL, Cv, blkAt, geth, getM]), (CvB_same nfA), (CvB_same nfA), (CvB_same nfA), CvB_dead, (by simp [CvB, CvL, Cv, blkAt, geth, getM]), CvB_dead, CvB_dead, CvB_dead, CvB_dead, CvB_dead, CvB_dead, CvB_dead, CvB_dead, CvB_dead, CvB_dead, CvB_dead, CvB_dead, CvB_dead, CvB_dead, CvB_dead, CvB_dead, CvB_dead, CvB_dead, CvB_dead, CvB_dead, CvB_dead, CvB_dead, CvB_dead, CvB_dead, CvB_dead, trivial⟩
      replace H := cond_t hc H
      refine rg ctNo_ok ?_
      simp only [go_sem]
      refine seqM ?_
      refine blkM ?_
      obtain ⟨f24, H⟩ := need_some.1 H
      replace f24 := inb_iff.1 f24
      refine rg ctNo_ok ?_
      simp only [go_sem, Nat.reduceLeDiff, Nat.reduceLT, Nat.reduceAdd, f24]
      refine rg ctNo_ok ?_
      simp only [go_sem]
      refine ⟨_, (Option.some.inj H).symm, ?_⟩
      refine SubF_of ⟨[some 0, some 1, some 2, some 3, some 4, some 5, some 6, some 7, some 8, some 9, some 10, some 11, some 12, some 13, some 14, some 15, some 16, some 17, some 18, some 19, some 20, some 21, some 22, some 23, some 24, some 25, some 26, some 27, some 28, some 29, some 30, some 31, some 32, some 33, some 34, some 35, some 36], ?_, ?_, by rfl, by rfl⟩
      · simp [CvL, Cv, getM]
      · exact ⟨(by simp [CvB, CvL, Cv, blkAt, geth]), CvB_dead, (CvB_same nfA), (CvB_same nfA), (CvB_same nfA), (by simp [CvB, CvL, Cv, blkAt, geth, getM]), (CvB_same nfA), (CvB_same nfA), (CvB_same nfA), CvB_dead, (by simp [CvB, CvL, Cv, blkAt, geth, getM]), CvB_dead, CvB_dead, CvB_dead, CvB_dead, CvB_dead, CvB_dead, CvB_dead, CvB_dead, CvB_dead, CvB_dead, CvB_dead, CvB_dead, CvB_dead, CvB_dead, CvB_dead, (CvB_same nfA), CvB_dead, (CvB_same nfA), CvB_dead, (by simp [CvB, CvL, Cv, blkAt, geth, getM]), CvB_dead, CvB_dead, CvB_dead, CvB_dead, CvB_dead, CvB_row nr_TRegulateBlock (by first | rfl | (simp; done) | (simp; omega)) (upc_row (f := c_TRegulateBlock) v1_2 v1_1.toNat 1 (TRegulateBlock.mk ((gd v1_2 v1_1.toNat).Channel) (-1)) (fun _ _ _ _ => rfl) (fun y hy => match y, hy with | 0, _ => rfl | 1, _ => rfl | (y+2), h => absurd h (by omega))), trivial⟩
    · try dsimp only at H ⊢
      try simp only [tp]
      try simp only [m_normal]
      refine seqM ?_
      refine sq ctNo_ok ?_
      simp only [go_sem]
      refine blkM ?_
      refine loop_den (fun s : Int × (List TRegulateBlock) => (tp 4 (.ptr 0 0 0 0 :: tp 4 (.ptr 5 0 0 0 :: .ptr 10 0 0 0 :: tp 17 (.bool ((((((((r17 && (gt (F39 r5.2.1 r7.2.1))) && (bEq r5.2.2 r7.2.2)) && (gt (F31 (TRegulate.mk r9.1.Table r9.1.Channel r9.1.Lead r9.1.Heard r9.1.Stopped r9.1.Moving r9.1.To r9.1.At r9.1.Blocked r9.1.Clear) (TRegulate.mk r11.1.Table r11.1.Channel r11.1.Lead r11.1.Heard r11.1.Stopped r11.1.Moving r11.1.To r11.1.At r11.1.Blocked r11.1.Clear)))) && (gt (F39 r9.2.1 r11.2.1))) && (bEq r9.2.2 r11.2.2)) && (gt (F31 (TRegulate.mk r13.1.Table r13.1.Channel r13.1.Lead r13.1.Heard r13.1.Stopped r13.1.Moving r13.1.To r13.1.At r13.1.Blocked r13.1.Clear) (TRegulate.mk r15.1.Table r15.1.Channel r15.1.Lead r15.1.Heard r15.1.Stopped r15.1.Moving r15.1.To r15.1.At r15.1.Blocked r15.1.Clear)))) && (gt (F39 r13.2.1 r15.2.1))) && (bEq r13.2.2 r15.2.2)) :: .top :: .int .i64 s.1 :: tp 125 []))))) (fun s => (.lit 39 [.ro 3 p0.Table.length false (enR c_TRegulateChannel p0.Table), .int .i64 p0.Channel, .bool p0.Lead, .int .i64 p0.Heard, .bool p0.Stopped, .bool p0.Moving, .int .i64 p0.To, .int .i64 p0.At, .ro 2 p0.Blocked.length false (enR c_TRegulateBlock p0.Blocked), .ro 1 p0.Clear.length false (enR c_i64 p0.Clear)] :: .dead :: .row 45 3 r3.Table.length (enR c_TRegulateChannel r3.Table) :: .row 79 2 r3.Blocked.length (enR c_TRegulateBlock r3.Blocked) :: .row 3 1 r3.Clear.length (enR c_i64 r3.Clear) :: .lit 39 [.sl 2 3 0 r3.Table.length false, .int .i64 r3.Channel, .bool r3.Lead, .int .i64 r3.Heard, .bool r3.Stopped, .bool r3.Moving, .int .i64 r3.To, .int .i64 r3.At, .sl 3 2 0 r3.Blocked.length false, .sl 4 1 0 r3.Clear.length false] :: .row 45 3 r5.1.Table.length (enR c_TRegulateChannel r5.1.Table) :: .dead :: .row 3 1 r5.1.Clear.length (enR c_i64 r5.1.Clear) :: .dead :: .lit 39 [.sl 6 3 0 r5.1.Table.length false, .int .i64 r5.1.Channel, .bool r5.1.Lead, .int .i64 r5.1.Heard, .bool r5.1.Stopped, .bool r5.1.Moving, .int .i64 r5.1.To, .int .i64 r5.1.At, .sl 36 2 0 s.2.length false, .sl 8 1 0 r5.1.Clear.length false] :: .dead :: .dead :: .dead :: .dead :: .dead :: .dead :: .dead :: .dead :: .dead :: .dead :: .dead :: .dead :: .dead :: .dead :: .dead :: .dead :: .dead :: .dead :: .dead :: .dead :: .dead :: .dead :: .dead :: .dead :: .dead :: .row 79 2 s.2.length (enR c_TRegulateBlock s.2) :: [])) (fun e : Unit => (tp 4 (.ptr 0 0 0 0 :: tp 4 (.ptr 5 0 0 0 :: tp 18 (.bool ((((((((r17 && (gt (F39 r5.2.1 r7.2.1))) && (bEq r5.2.2 r7.2.2)) && (gt (F31 (TRegulate.mk r9.1.Table r9.1.Channel r9.1.Lead r9.1.Heard r9.1.Stopped r9.1.Moving r9.1.To r9.1.At r9.1.Blocked r9.1.Clear) (TRegulate.mk r11.1.Table r11.1.Channel r11.1.Lead r11.1.Heard r11.1.Stopped r11.1.Moving r11.1.To r11.1.At r11.1.Blocked r11.1.Clear)))) && (gt (F39 r9.2.1 r11.2.1))) && (bEq r9.2.2 r11.2.2)) && (gt (F31 (TRegulate.mk r13.1.Table r13.1.Channel r13.1.Lead r13.1.Heard r13.1.Stopped r13.1.Moving r13.1.To r13.1.At r13.1.Blocked r13.1.Clear) (TRegulate.mk r15.1.Table r15.1.Channel r15.1.Lead r15.1.Heard r15.1.Stopped r15.1.Moving r15.1.To r15.1.At r15.1.Blocked r15.1.Clear)))) && (gt (F39 r13.2.1 r15.2.1))) && (bEq r13.2.2 r15.2.2)) :: tp 127 []))))) (fun e => (.lit 39 [.ro 3 p0.Table.length false (enR c_TRegulateChannel p0.Table), .int .i64 p0.Channel, .bool p0.Lead, .int .i64 p0.Heard, .bool p0.Stopped, .bool p0.Moving, .int .i64 p0.To, .int .i64 p0.At, .ro 2 p0.Blocked.length false (enR c_TRegulateBlock p0.Blocked), .ro 1 p0.Clear.length false (enR c_i64 p0.Clear)] :: .dead :: .row 45 3 r3.Table.length (enR c_TRegulateChannel r3.Table) :: .row 79 2 r3.Blocked.length (enR c_TRegulateBlock r3.Blocked) :: .row 3 1 r3.Clear.length (enR c_i64 r3.Clear) :: .lit 39 [.sl 2 3 0 r3.Table.length false, .int .i64 r3.Channel, .bool r3.Lead, .int .i64 r3.Heard, .bool r3.Stopped, .bool r3.Moving, .int .i64 r3.To, .int .i64 r3.At, .sl 3 2 0 r3.Blocked.length false, .sl 4 1 0 r3.Clear.length false] :: .dead :: .dead :: .dead :: .dead :: .dead :: .dead :: .dead :: .dead :: .dead :: .dead :: .dead :: .dead :: .dead :: .dead :: .dead :: .dead :: .dead :: .dead :: .dead :: .dead :: .dead :: .dead :: .dead :: .dead :: .dead :: .dead :: .dead :: .dead :: .dead :: .dead :: [])) H ?_ (fun s o H hn1_2 hn2_2 => ?_) (fun e H => ?_)
      · refine SubF_of ⟨[some 0, some 1, some 2, some 3, some 4, some 5, some 6, some 7, some 8, some 9, some 10, some 11, some 12, some 13, some 14, some 15, some 16, some 17, some 18, some 19, some 20, some 21, some 22, some 23, some 24, some 25, some 26, some 27, some 28, some 29, some 30, some 31, some 32, some 33, some 34, some 35, some 7], ?_, ?_, by rfl, by rfl⟩
        · simp [CvL, Cv, getM, tp]
        · exact ⟨(by simp [CvB, CvL, Cv, blkAt, geth]), CvB_dead, (CvB_same nfA), (CvB_same nfA), (CvB_same nfA), (by simp [CvB, CvL, Cv, blkAt, geth, getM]), (CvB_same nfA), CvB_dead, (CvB_same nfA), CvB_dead, (by simp [CvB, CvL, Cv, blkAt, geth, getM]), CvB_dead, CvB_dead, CvB_dead, CvB_dead, CvB_dead, CvB_dead, CvB_dead, CvB_dead, CvB_dead, CvB_dead, CvB_dead, CvB_dead, CvB_dead, CvB_dead, CvB_dead, CvB_dead, CvB_dead, CvB_dead, CvB_dead, CvB_dead, CvB_dead, CvB_dead, CvB_dead, CvB_dead, CvB_dead, CvB_row nr_TRegulateBlock (by first | rfl | (simp; done) | (simp; omega)) (fun _ _ _ _ => rfl), trivial⟩
      · obtain ⟨v2_1, v2_2⟩ := s
        unfold F7_L2 at H
        try dsimp only at H ⊢
        try simp only [tp]
        refine seqM ?_
        refine sq ctNo_ok ?_
        simp only [go_sem, Nat.reduceLeDiff, Nat.reduceLT, Nat.reduceAdd]
        repeat ((with_reducible refine And.intro ?_ ?_); focus (first | (and_intros <;> first | (with_reducible trivial) | omega | assumption | exact nfc | first | exact rfl | exact trivial | exact fitI | exact .inr rfl | exact .inl rfl | exact fun x hx => absurd hx (by omega)) | grind))
        refine condM' rfl trivial (fun hc => ?_) (fun hc => ?_)
        · replace H := cond_f hc H
          refine rg ctNo_ok ?_
          simp only [go_sem]
          refine ⟨_, (Option.some.inj H).symm, ?_⟩
          refine SubF_of ⟨[some 0, some 1, some 2, some 3, some 4, some 5, some 6, some 7, some 8, some 9, some 10, some 11, some 12, some 13, some 14, some 15, some 16, some 17, some 18, some 19, some 20, some 21, some 22, some 23, some 24, some 25, some 26, some 27, some 28, some 29, some 30, some 31, some 32, some 33, some 34, some 35], ?_, ?_, by rfl, by rfl⟩
          · simp [CvL, Cv, getM]
          · exact ⟨(by simp [CvB, CvL, Cv, blkAt, geth]), CvB_dead, (CvB_same nfA), (CvB_same nfA), (CvB_same nfA), (by simp [CvB, CvL, Cv, blkAt, geth, getM]), CvB_dead, CvB_dead, CvB_dead, CvB_dead, CvB_dead, CvB_dead, CvB_dead, CvB_dead, CvB_dead, CvB_dead, CvB_dead, CvB_dead, CvB_dead, CvB_dead, CvB_dead, CvB_dead, CvB_dead, CvB_dead, CvB_dead, CvB_dead, CvB_dead, CvB_dead, CvB_dead, CvB_dead, CvB_dead, CvB_dead, CvB_dead, CvB_dead, CvB_dead, CvB_dead, trivial⟩
        replace H := cond_t hc H
        refine rg ctNo_ok ?_
        simp only [go_sem]
        refine seqM ?_
        refine blkM ?_
        obtain ⟨f25, H⟩ := need_some.1 H
        replace f25 := inb_iff.1 f25
        refine rg ctNo_ok ?_
        simp only [go_sem, Nat.reduceLeDiff, Nat.reduceLT, Nat.reduceAdd, f25]
        refine rg ctNo_ok ?_
        simp only [go_sem]
        refine ⟨_, (Option.some.inj H).symm, ?_⟩
        refine SubF_of ⟨[some 0, some 1, some 2, some 3, some 4, some 5, some 6, some 7, some 8, some 9, some 10, some 11, some 12, some 13, some 14, some 15, some 16, some 17, some 18, some 19, some 20, some 21, some 22, some 23, some 24, some 25, some 26, some 27, some 28, some 29, some 30, some 31, some 32, some 33, some 34, some 35, some 36], ?_, ?_, by rfl, by rfl⟩
        · simp [CvL, Cv, getM]
        · exact ⟨(by simp [CvB, CvL, Cv, blkAt, geth]), CvB_dead, (CvB_same nfA), (CvB_same nfA), (CvB_same nfA), (by simp [CvB, CvL, Cv, blkAt, geth, getM]), (CvB_same nfA), CvB_dead, (CvB_same nfA), CvB_dead, (by simp [CvB, CvL, Cv, blkAt, geth, getM]), CvB_dead, CvB_dead, CvB_dead, CvB_dead, CvB_dead, CvB_dead, CvB_dead, CvB_dead, CvB_dead, CvB_dead, CvB_dead, CvB_dead, CvB_dead, CvB_dead, CvB_dead, CvB_dead, CvB_dead, CvB_dead, CvB_dead, CvB_dead, CvB_dead, CvB_dead, CvB_dead, CvB_dead, CvB_dead, CvB_row nr_TRegulateBlock (by first | rfl | (simp; done) | (simp; omega)) (upc_row (f := c_TRegulateBlock) v2_2 v2_1.toNat 1 (TRegulateBlock.mk ((gd v2_2 v2_1.toNat).Channel) (-1)) (fun _ _ _ _ => rfl) (fun y hy => match y, hy with | 0, _ => rfl | 1, _ => rfl | (y+2), h => absurd h (by omega))), trivial⟩
      · try dsimp only at H ⊢
        try simp only [tp]
        try simp only [m_normal]
        refine seqM ?_
        obtain ⟨f26, H⟩ := need_some.1 H
        replace f26 := g_iff.1 f26
        refine rg ct7t9_ok ?_
        simp only [go_sem, Nat.reduceLT, Nat.reduceAdd, ct7t9_31, body31]
        repeat ((with_reducible refine And.intro ?_ ?_); focus (first | (with_reducible trivial) | omega | exact f26 | (intro g; have q := f26 (by first | exact g | (rw [g]; rfl) | simpa using g); first | exact q | exact ⟨q.1, q.2.1⟩ | exact q.2.2 | omega | exact ⟨g, q⟩ | exact ⟨trivial, q⟩ | exact ⟨g, q.1, q.2.1⟩ | exact ⟨g, q.2.2⟩) | (intro g; (try have q0 := f26 (by first | exact g | (rw [g]; rfl) | simpa using g)); and_intros <;> first | (with_reducible trivial) | assumption | exact nfc | (intro g2; rw [g, g2]; rfl) | (intro g2; assumption) | (simp only [g, Bool.true_and, Bool.and_true, Bool.not_false, Bool.not_true]; assumption) | grind) | (and_intros <;> first | (with_reducible trivial) | omega | assumption | exact nfc | first | exact rfl | exact trivial | exact fitI | exact .inr rfl | exact .inl rfl | exact fun x hx => absurd hx (by omega)) | grind))
        refine rg ctNo_ok ?_
        simp only [go_sem]
        obtain rfl := Option.some.inj H
        first | rfl | simp only [Bool.and_false, Bool.false_and, Bool.and_true, Bool.true_and]
  · cases hb
end Go.Proofs.Ytjhkehdbjnhplaa
