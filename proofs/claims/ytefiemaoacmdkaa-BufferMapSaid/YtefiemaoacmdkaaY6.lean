/-
  What BufferMap reaches.
-/
import Derived.Test.YtefiemaoacmdkaaY6p3
namespace Go.Proofs.Ytefiemaoacmdkaa
open Go.Am
set_option linter.unusedVariables false
set_option linter.unusedSimpArgs false
noncomputable def ct6t0 : Ct := tab [(20, pureC body20)]
theorem ct6t0_ok : CtOk Try.prog ct6t0 := tab_cons ok20 <| tab_nil
theorem ct6t0_20 (l : List AV) (h : List ABlk) : ct6t0 20 l h = pureC body20 l h := rfl
noncomputable def ct6t1 : Ct := tab [(11, pureC body11)]
theorem ct6t1_ok : CtOk Try.prog ct6t1 := tab_cons ok11 <| tab_nil
theorem ct6t1_11 (l : List AV) (h : List ABlk) : ct6t1 11 l h = pureC body11 l h := rfl
noncomputable def ct6t2 : Ct := tab [(14, edC body14)]
theorem ct6t2_ok : CtOk Try.prog ct6t2 := tab_cons ok14 <| tab_nil
theorem ct6t2_14 (l : List AV) (h : List ABlk) : ct6t2 14 l h = edC body14 l h := rfl
noncomputable def ct6t3 : Ct := tab [(18, pureC body18)]
theorem ct6t3_ok : CtOk Try.prog ct6t3 := tab_cons ok18 <| tab_nil
theorem ct6t3_18 (l : List AV) (h : List ABlk) : ct6t3 18 l h = pureC body18 l h := rfl
noncomputable def ct6t4 : Ct := tab [(23, genC body23)]
theorem ct6t4_ok : CtOk Try.prog ct6t4 := tab_cons ok23 <| tab_nil
theorem ct6t4_23 (l : List AV) (h : List ABlk) : ct6t4 23 l h = genC body23 l h := rfl
noncomputable def ct6t5 : Ct := tab [(26, genC body26)]
theorem ct6t5_ok : CtOk Try.prog ct6t5 := tab_cons ok26 <| tab_nil
theorem ct6t5_26 (l : List AV) (h : List ABlk) : ct6t5 26 l h = genC body26 l h := rfl
noncomputable def ct6t6 : Ct := tab [(22, pureC body22)]
theorem ct6t6_ok : CtOk Try.prog ct6t6 := tab_cons ok22 <| tab_nil
theorem ct6t6_22 (l : List AV) (h : List ABlk) : ct6t6 22 l h = pureC body22 l h := rfl
noncomputable def ct6t7 : Ct := tab [(27, pureC body27), (28, pureC body28)]
theorem ct6t7_ok : CtOk Try.prog ct6t7 := tab_cons ok27 <| tab_cons ok28 <| tab_nil
theorem ct6t7_27 (l : List AV) (h : List ABlk) : ct6t7 27 l h = pureC body27 l h := rfl
theorem ct6t7_28 (l : List AV) (h : List ABlk) : ct6t7 28 l h = pureC body28 l h := rfl
noncomputable def F6 (p0 : TBuffer) (p1 : Int) : Option (Bool) :=
  (F20).bind fun r1 => (F11 p0 (TFrame.mk (THeader.mk 0 0 false false false false false false false 0 (A6u8.mk 0 0 0 0 0 0) (A6u8.mk 0 0 0 0 0 0) (A6u8.mk 0 0 0 0 0 0) (A6u8.mk 0 0 0 0 0 0) 0 0 0 0 false false) [])).bind fun r3 => bif (r3 || (!r1)) then (some r1) else ((F14 p0).bind fun r5 => bif (!bEq r5.2 0) then (need (bif r1 then ((F18 p0).isSome) else true) <| some (r1 && (bEq (gt (F18 p0)) r5.2))) else ((F23 p0 p1).bind fun r8 => (F26 p0).bind fun r10 => (F22 p0 p1).bind fun r12 => bif (bLe 0 r12) then (need (inb r12 p0.List.length) <| need (bif r1 then ((F27 (TTraffic.mk r5.1.Group r5.1.Aids)).isSome) else true) <| need (bif ((r1 && (bEq (gt (F27 (TTraffic.mk r5.1.Group r5.1.Aids))) 0)) && (!(bLt p1 1))) then ((F28 (TTraffic.mk r5.1.Group r5.1.Aids) p1).isSome) else true) <| some (((((r1 && (bEq (gt (F27 (TTraffic.mk r5.1.Group r5.1.Aids))) 0)) && ((bLt p1 1) || (bB (gt (F28 (TTraffic.mk r5.1.Group r5.1.Aids) p1)) (bEq r8.2.2 0)))) && ((!bEq r8.2.2 0) || (bB r8.1.Head.MoreData (bLt 1 (((gd p0.List r12.toNat).Held).length : Nat))))) && (bEq r10.2.2 0)) && (bB r5.1.Group (bLt 0 (r10.1.length : Nat))))) else (need (bif r1 then ((F27 (TTraffic.mk r5.1.Group r5.1.Aids)).isSome) else true) <| need (bif ((r1 && (bEq (gt (F27 (TTraffic.mk r5.1.Group r5.1.Aids))) 0)) && (!(bLt p1 1))) then ((F28 (TTraffic.mk r5.1.Group r5.1.Aids) p1).isSome) else true) <| some (((((r1 && (bEq (gt (F27 (TTraffic.mk r5.1.Group r5.1.Aids))) 0)) && ((bLt p1 1) || (bB (gt (F28 (TTraffic.mk r5.1.Group r5.1.Aids) p1)) (bEq r8.2.2 0)))) && ((!bEq r8.2.2 0) || (bB r8.1.Head.MoreData false))) && (bEq r10.2.2 0)) && (bB r5.1.Group (bLt 0 (r10.1.length : Nat)))))))
noncomputable def body6 : List AV -> AR
  | [v0, v1] => .pure (aK 4 k_TBuffer v0 /\ iK .i64 v1 /\ (F6 (g_TBuffer (aL v0)) (iA v1)).isSome = true) (.bool (gt (F6 (g_TBuffer (aL v0)) (iA v1))))
  | _ => .fail
set_option maxHeartbeats 4000000 in
set_option maxRecDepth 20000 in
theorem ok6 : FnOk Try.prog 6 (pureC body6) := by
  refine pure_fnM body6 (rs := [.tmp 4]) Try.func6 (by kernel_rfl) rfl rfl ?_
  intro l ob v hb hob
  unfold body6 at hb
  split at hb
  · rename_i v0 v1
    injection hb with q1 q2; subst q1 q2
    obtain ⟨hk0_0, hk1_0, hob⟩ := hob
    obtain ⟨r, H⟩ := Option.isSome_iff_exists.1 hob
    rw [H, gt_some]
    have hw0 := wA_TBuffer hk0_0
    have hw1 := iK_wk hk1_0
    generalize g_TBuffer (aL v0) = p0 at H hw0
    generalize iA v1 = p1 at H hw1
    refine ⟨[.agg [.int .i64 p0.Limit, .int .i64 p0.Stay, .ro 3 p0.List.length false (enR c_TSleeper p0.List), .ro 43 p0.Group.length false (enR c_TStored p0.Group)], .int .i64 p1], _, (fun E vs F => FR_wk1 hw0.1 F (fun vs F => FR_wk1 hw1.1 F (fun vs F => F))), rfl, rfl, ?_⟩
    rw [Try.ntmps6]
    simp only [List.length_cons, List.length_nil, Nat.reduceAdd, Nat.reduceSub, List.replicate_succ, List.replicate_zero, List.cons_append, List.nil_append]
    unfold F6 at H
    refine sq ctNo_ok ?_
    simp only [go_sem]
    refine seqM ?_
    obtain ⟨r1, e2, H⟩ := bsi H
    refine rg ct6t0_ok ?_
    simp only [go_sem, ct6t0_20, body20, e2]
    refine seqM ?_
    refine seqM ?_
    obtain ⟨r3, e4, H⟩ := bsi H
    refine rg ct6t1_ok ?_
    simp only [go_sem, Nat.reduceLT, Nat.reduceAdd, reduceCtorEq, ct6t1_11, body11, e4]
    refine condM rfl trivial (fun hc => ?_) (fun hc => ?_)
    · replace H := cond_t hc H
      refine sq ctNo_ok ?_
      simp only [go_sem]
      refine rg ctNo_ok ?_
      simp only [go_sem]
      obtain rfl := Option.some.inj H
      first | rfl | simp only [Bool.and_false, Bool.false_and, Bool.and_true, Bool.true_and]
    replace H := cond_f hc H
    refine rg ctNo_ok ?_
    simp only [go_sem]
    refine seqM ?_
    obtain ⟨r5, e6, H⟩ := bsi H
    refine rg ct6t2_ok ?_
    simp only [go_sem, Nat.reduceLT, Nat.reduceAdd, ct6t2_14, body14, e6]
    refine seqM ?_
    refine sq ctNo_ok ?_
    simp only [go_sem]
    refine condM rfl trivial (fun hc => ?_) (fun hc => ?_)
    · replace H := cond_t hc H
      refine seqM ?_
      obtain ⟨f7, H⟩ := need_some.1 H
      replace f7 := g_iff.1 f7
      refine rg ct6t3_ok ?_
      simp only [go_sem, Nat.reduceLT, Nat.reduceAdd, ct6t3_18, body18]
      repeat ((with_reducible refine And.intro ?_ ?_); focus (first | (with_reducible trivial) | omega | exact f7 | (intro g; have q := f7 (by first | exact g | (rw [g]; rfl) | simpa using g); first | exact q | exact ⟨q.1, q.2.1⟩ | exact q.2.2 | omega | exact ⟨g, q⟩ | exact ⟨trivial, q⟩ | exact ⟨g, q.1, q.2.1⟩ | exact ⟨g, q.2.2⟩) | (intro g; (try have q0 := f7 (by first | exact g | (rw [g]; rfl) | simpa using g)); and_intros <;> first | (with_reducible trivial) | assumption | exact nfc | (intro g2; rw [g, g2]; rfl) | (intro g2; assumption) | (simp only [g, Bool.true_and, Bool.and_true, Bool.not_false, Bool.not_true]; assumption) | grind) | (and_intros <;> first | (with_reducible trivial) | omega | assumption | exact nfc | first | exact rfl | exact trivial | exact fitI | exact .inr rfl | exact .inl rfl | exact fun x hx => absurd hx (by omega)) | grind))
      refine rg ctNo_ok ?_
      simp only [go_sem]
      obtain rfl := Option.some.inj H
      first | rfl | simp only [Bool.and_false, Bool.false_and, Bool.and_true, Bool.true_and]
    replace H := cond_f hc H
    refine rg ctNo_ok ?_
    simp only [go_sem]
    refine seqM ?_
    obtain ⟨r8, e9, H⟩ := bsi H
    refine rg ct6t4_ok ?_
    simp only [go_sem, Nat.reduceLT, Nat.reduceAdd, ct6t4_23, body23, e9]
    refine seqM ?_
    obtain ⟨r10, e11, H⟩ := bsi H
    refine rg ct6t5_ok ?_
    simp only [go_sem, Nat.reduceLT, Nat.reduceAdd, ct6t5_26, body26, e11]
    refine sq ctNo_ok ?_
    simp only [go_sem]
    refine seqM ?_
    obtain ⟨r12, e13, H⟩ := bsi H
    refine rg ct6t6_ok ?_
    simp only [go_sem, Nat.reduceLT, Nat.reduceAdd, ct6t6_22, body22, e13]
    refine seqM ?_
    refine sq ctNo_ok ?_
    simp only [go_sem]
    refine condM' rfl trivial (fun hc => ?_) (fun hc => ?_)
    · replace H := cond_f hc H
      refine rg ctNo_ok ?_
      simp only [go_sem]
      refine seqM ?_
      obtain ⟨f17, H⟩ := need_some.1 H
      replace f17 := g_iff.1 f17
      obtain ⟨f18, H⟩ := need_some.1 H
      replace f18 := g_iff.1 f18
      refine rg ct6t7_ok ?_
      simp only [go_sem, Nat.reduceLeDiff, Nat.reduceLT, Nat.reduceAdd, reduceCtorEq, ct6t7_27, body27, ct6t7_28, body28, (by decide : bLt (1) (0) = false)]
      repeat ((with_reducible refine And.intro ?_ ?_); focus (first | (with_reducible trivial) | omega | exact f17 | exact f18 | (intro g; have q := f17 (by first | exact g | (rw [g]; rfl) | simpa using g); first | exact q | exact ⟨q.1, q.2.1⟩ | exact q.2.2 | omega | exact ⟨g, q⟩ | exact ⟨trivial, q⟩ | exact ⟨g, q.1, q.2.1⟩ | exact ⟨g, q.2.2⟩) | (intro g; have q := f18 (by first | exact g | (rw [g]; rfl) | simpa using g); first | exact q | exact ⟨q.1, q.2.1⟩ | exact q.2.2 | omega | exact ⟨g, q⟩ | exact ⟨trivial, q⟩ | exact ⟨g, q.1, q.2.1⟩ | exact ⟨g, q.2.2⟩) | (intro g; (try have q0 := f17 (by first | exact g | (rw [g]; rfl) | simpa using g)); (try have q1 := f18 (by first | exact g | (rw [g]; rfl) | simpa using g)); and_intros <;> first | (with_reducible trivial) | assumption | exact nfc | (intro g2; rw [g, g2]; rfl) | (intro g2; assumption) | (simp only [g, Bool.true_and, Bool.and_true, Bool.not_false, Bool.not_true]; assumption) | grind) | (and_intros <;> first | (with_reducible trivial) | omega | assumption | exact nfc | first | exact rfl | exact trivial | exact fitI | exact .inr rfl | exact .inl rfl | exact fun x hx => absurd hx (by omega)) | grind))
      refine rg ctNo_ok ?_
      simp only [go_sem]
      obtain rfl := Option.some.inj H
      first | rfl | simp only [Bool.and_false, Bool.false_and, Bool.and_true, Bool.true_and]
    replace H := cond_t hc H
    obtain ⟨f14, H⟩ := need_some.1 H
    replace f14 := inb_iff.1 f14
    refine rg ctNo_ok ?_
    simp only [go_sem, Nat.reduceLeDiff, Nat.reduceLT, Nat.reduceAdd, f14]
    refine seqM ?_
    obtain ⟨f15, H⟩ := need_some.1 H
    replace f15 := g_iff.1 f15
    obtain ⟨f16, H⟩ := need_some.1 H
    replace f16 := g_iff.1 f16
    refine rg ct6t7_ok ?_
    simp only [go_sem, Nat.reduceLeDiff, Nat.reduceLT, Nat.reduceAdd, reduceCtorEq, ct6t7_27, body27, ct6t7_28, body28]
    repeat ((with_reducible refine And.intro ?_ ?_); focus (first | (with_reducible trivial) | omega | exact f15 | exact f16 | (intro g; have q := f15 (by first | exact g | (rw [g]; rfl) | simpa using g); first | exact q | exact ⟨q.1, q.2.1⟩ | exact q.2.2 | omega | exact ⟨g, q⟩ | exact ⟨trivial, q⟩ | exact ⟨g, q.1, q.2.1⟩ | exact ⟨g, q.2.2⟩) | (intro g; have q := f16 (by first | exact g | (rw [g]; rfl) | simpa using g); first | exact q | exact ⟨q.1, q.2.1⟩ | exact q.2.2 | omega | exact ⟨g, q⟩ | exact ⟨trivial, q⟩ | exact ⟨g, q.1, q.2.1⟩ | exact ⟨g, q.2.2⟩) | (intro g; (try have q0 := f15 (by first | exact g | (rw [g]; rfl) | simpa using g)); (try have q1 := f16 (by first | exact g | (rw [g]; rfl) | simpa using g)); and_intros <;> first | (with_reducible trivial) | assumption | exact nfc | (intro g2; rw [g, g2]; rfl) | (intro g2; assumption) | (simp only [g, Bool.true_and, Bool.and_true, Bool.not_false, Bool.not_true]; assumption) | grind) | (and_intros <;> first | (with_reducible trivial) | omega | assumption | exact nfc | first | exact rfl | exact trivial | exact fitI | exact .inr rfl | exact .inl rfl | exact fun x hx => absurd hx (by omega)) | grind))
    refine rg ctNo_ok ?_
    simp only [go_sem]
    obtain rfl := Option.some.inj H
    first | rfl | simp only [Bool.and_false, Bool.false_and, Bool.and_true, Bool.true_and]
  · cases hb
end Go.Proofs.Ytefiemaoacmdkaa
