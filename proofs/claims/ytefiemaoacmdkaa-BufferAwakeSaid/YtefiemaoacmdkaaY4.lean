/-
  What BufferAwake reaches.
-/
import Derived.Test.YtefiemaoacmdkaaY4p3
namespace Go.Proofs.Ytefiemaoacmdkaa
open Go.Am
set_option maxHeartbeats 4000000
set_option maxRecDepth 20000
set_option linter.unusedVariables false
set_option linter.unusedSimpArgs false
noncomputable def ct16t0 : Ct := tab [(45, pureC body45)]
theorem ct16t0_ok : CtOk Try.prog ct16t0 := tab_cons ok45 <| tab_nil
theorem ct16t0_45 (l : List AV) (h : List ABlk) : ct16t0 45 l h = pureC body45 l h := rfl
noncomputable def F16_L1 (p0 : TBuffer) (p1 : TBuffer) (v1_1 : Int) : Option (Lp (Int) ((Unit) ⊕ (Bool))) :=
  bif (bLt v1_1 (p0.List.length : Nat)) then (need (inb v1_1 p0.List.length) <| need (inb v1_1 p1.List.length) <| need (bif (!(!bEq ((gd p0.List v1_1.toNat).Aid) ((gd p1.List v1_1.toNat).Aid))) then inb v1_1 p0.List.length else true) <| need (bif (!(!bEq ((gd p0.List v1_1.toNat).Aid) ((gd p1.List v1_1.toNat).Aid))) then inb v1_1 p1.List.length else true) <| need (bif (!((!bEq ((gd p0.List v1_1.toNat).Aid) ((gd p1.List v1_1.toNat).Aid)) || (!bB ((gd p0.List v1_1.toNat).Asleep) ((gd p1.List v1_1.toNat).Asleep)))) then inb v1_1 p0.List.length else true) <| need (bif (!((!bEq ((gd p0.List v1_1.toNat).Aid) ((gd p1.List v1_1.toNat).Aid)) || (!bB ((gd p0.List v1_1.toNat).Asleep) ((gd p1.List v1_1.toNat).Asleep)))) then inb v1_1 p1.List.length else true) <| need (bif (!((!bEq ((gd p0.List v1_1.toNat).Aid) ((gd p1.List v1_1.toNat).Aid)) || (!bB ((gd p0.List v1_1.toNat).Asleep) ((gd p1.List v1_1.toNat).Asleep)))) then ((F45 ((gd p0.List v1_1.toNat).Held) ((gd p1.List v1_1.toNat).Held)).isSome) else true) <| bif (((!bEq ((gd p0.List v1_1.toNat).Aid) ((gd p1.List v1_1.toNat).Aid)) || (!bB ((gd p0.List v1_1.toNat).Asleep) ((gd p1.List v1_1.toNat).Asleep))) || (!(gt (F45 ((gd p0.List v1_1.toNat).Held) ((gd p1.List v1_1.toNat).Held))))) then (some (.done (.inr false))) else (some (.next (wr .i64 (v1_1 + 1))))) else (some (.done (.inl ())))
noncomputable def F16 (p0 : TBuffer) (p1 : TBuffer) : Option (Bool) :=
  need (bif (!(((!bEq p0.Limit p1.Limit) || (!bEq p0.Stay p1.Stay)) || (!bEq (p0.List.length : Nat) (p1.List.length : Nat)))) then ((F45 p0.Group p1.Group).isSome) else true) <| bif ((((!bEq p0.Limit p1.Limit) || (!bEq p0.Stay p1.Stay)) || (!bEq (p0.List.length : Nat) (p1.List.length : Nat))) || (!(gt (F45 p0.Group p1.Group)))) then (some false) else (lp (loopD (fun s => F16_L1 p0 p1 s) 0) (fun e => some true) some)
noncomputable def body16 : List AV -> AR
  | [v0, v1] => .pure (aK 4 k_TBuffer v0 /\ aK 4 k_TBuffer v1 /\ (F16 (g_TBuffer (aL v0)) (g_TBuffer (aL v1))).isSome = true) (.bool (gt (F16 (g_TBuffer (aL v0)) (g_TBuffer (aL v1)))))
  | _ => .fail
theorem ok16 : FnOk Try.prog 16 (pureC body16) := by
  refine pure_fnM body16 (rs := [.tmp 4]) Try.func16 (by kernel_rfl) rfl rfl ?_
  intro l ob v hb hob
  unfold body16 at hb
  split at hb
  · rename_i v0 v1
    injection hb with q1 q2; subst q1 q2
    obtain ⟨hk0_0, hk1_0, hob⟩ := hob
    obtain ⟨r, H⟩ := Option.isSome_iff_exists.1 hob
    rw [H, gt_some]
    have hw0 := wA_TBuffer hk0_0
    have hw1 := wA_TBuffer hk1_0
    generalize g_TBuffer (aL v0) = p0 at H hw0
    generalize g_TBuffer (aL v1) = p1 at H hw1
    refine ⟨[.agg [.int .i64 p0.Limit, .int .i64 p0.Stay, .ro 3 p0.List.length false (enR c_TSleeper p0.List), .ro 43 p0.Group.length false (enR c_TStored p0.Group)], .agg [.int .i64 p1.Limit, .int .i64 p1.Stay, .ro 3 p1.List.length false (enR c_TSleeper p1.List), .ro 43 p1.Group.length false (enR c_TStored p1.Group)]], _, (fun E vs F => FR_wk1 hw0.1 F (fun vs F => FR_wk1 hw1.1 F (fun vs F => F))), rfl, rfl, ?_⟩
    rw [Try.ntmps16]
    simp only [List.length_cons, List.length_nil, Nat.reduceAdd, Nat.reduceSub, List.replicate_succ, List.replicate_zero, List.cons_append, List.nil_append]
    unfold F16 at H
    try dsimp only at H
    refine sq ctNo_ok ?_
    simp only [go_sem]
    refine seqM ?_
    refine seqM ?_
    obtain ⟨f1, H⟩ := need_some.1 H
    replace f1 := g_iff.1 f1
    refine rg ct16t0_ok ?_
    simp only [go_sem, Nat.reduceLeDiff, Nat.reduceLT, Nat.reduceAdd, ct16t0_45, body45]
    repeat ((with_reducible refine And.intro ?_ ?_); focus (first | (with_reducible trivial) | omega | exact f1 | (intro g; have q := f1 (by first | exact g | (rw [g]; rfl) | simpa using g); first | exact q | exact ⟨q.1, q.2.1⟩ | exact q.2.2 | omega | exact ⟨g, q⟩ | exact ⟨trivial, q⟩ | exact ⟨g, q.1, q.2.1⟩ | exact ⟨g, q.2.2⟩) | (intro g; (try have q0 := f1 (by first | exact g | (rw [g]; rfl) | simpa using g)); and_intros <;> first | (with_reducible trivial) | assumption | exact nfc | (intro g2; rw [g, g2]; rfl) | (intro g2; assumption) | (simp only [g, Bool.true_and, Bool.and_true, Bool.not_false, Bool.not_true]; assumption) | grind) | (and_intros <;> first | (with_reducible trivial) | omega | assumption | exact nfc | first | exact rfl | exact trivial | exact fitI | exact .inr rfl | exact .inl rfl | exact fun x hx => absurd hx (by omega)) | grind))
    refine condM rfl trivial (fun hc => ?_) (fun hc => ?_)
    · replace H := cond_t hc H
      refine sq ctNo_ok ?_
      simp only [go_sem]
      refine rg ctNo_ok ?_
      simp only [go_sem]
      obtain rfl := Option.some.inj H
      first | rfl | simp only [Bool.and_false, Bool.false_and, Bool.and_true, Bool.true_and]
    replace H := cond_f hc H
    refine rg ctNo_ok ?_
    simp only [go_sem]
    refine seqM ?_
    refine sq ctNo_ok ?_
    simp only [go_sem]
    refine blkM ?_
    refine loop_den (fun s : Int => (.top :: .top :: .ptr 0 0 0 0 :: .ptr 1 0 0 0 :: .top :: .int .i64 s :: tp 80 [])) (fun s => [.lit 25 [.int .i64 p0.Limit, .int .i64 p0.Stay, .ro 3 p0.List.length false (enR c_TSleeper p0.List), .ro 43 p0.Group.length false (enR c_TStored p0.Group)], .lit 25 [.int .i64 p1.Limit, .int .i64 p1.Stay, .ro 3 p1.List.length false (enR c_TSleeper p1.List), .ro 43 p1.Group.length false (enR c_TStored p1.Group)]]) (fun e : Unit => (tp 86 [])) (fun e => [.dead, .dead]) H ?_ (fun v1_1 o H hn1_1 hn2_1 => ?_) (fun e H => ?_)
    · refine SubF_of ⟨[some 0, some 1], ?_, ?_, by rfl, by rfl⟩
      · simp [CvL, Cv, getM, tp]
      · exact ⟨(by simp [CvB, CvL, Cv, blkAt, geth]), (by simp [CvB, CvL, Cv, blkAt, geth]), trivial⟩
    · unfold F16_L1 at H
      try dsimp only at H ⊢
      try simp only [tp]
      refine seqM ?_
      refine sq ctNo_ok ?_
      simp only [go_sem, Nat.reduceLeDiff, Nat.reduceLT, Nat.reduceAdd]
      repeat ((with_reducible refine And.intro ?_ ?_); focus (first | (and_intros <;> first | (with_reducible trivial) | omega | assumption | exact nfc | first | exact rfl | exact trivial | exact fitI | exact .inr rfl | exact .inl rfl | exact fun x hx => absurd hx (by omega)) | grind))
      refine condM' rfl trivial (fun hc => ?_) (fun hc => ?_)
      · replace H := cond_f hc H
        refine rg ctNo_ok ?_
        simp only [go_sem]
        refine ⟨_, (Option.some.inj H).symm, ?_⟩
        refine SubF_of ⟨[some 0, some 1], ?_, ?_, by rfl, by rfl⟩
        · simp [CvL, Cv]
        · exact ⟨CvB_dead, CvB_dead, trivial⟩
      replace H := cond_t hc H
      refine rg ctNo_ok ?_
      simp only [go_sem]
      refine seqM ?_
      refine blkM ?_
      refine seqM ?_
      obtain ⟨f2, H⟩ := need_some.1 H
      replace f2 := inb_iff.1 f2
      obtain ⟨f3, H⟩ := need_some.1 H
      replace f3 := inb_iff.1 f3
      obtain ⟨f4, H⟩ := need_some.1 H
      replace f4 := g_iff.1 f4
      replace f4 := fun g => inb_iff.1 (f4 g)
      obtain ⟨f5, H⟩ := need_some.1 H
      replace f5 := g_iff.1 f5
      replace f5 := fun g => inb_iff.1 (f5 g)
      obtain ⟨f6, H⟩ := need_some.1 H
      replace f6 := g_iff.1 f6
      replace f6 := fun g => inb_iff.1 (f6 g)
      obtain ⟨f7, H⟩ := need_some.1 H
      replace f7 := g_iff.1 f7
      replace f7 := fun g => inb_iff.1 (f7 g)
      obtain ⟨f8, H⟩ := need_some.1 H
      replace f8 := g_iff.1 f8
      refine draw_quiet shT_ok ct16t0_ok (by kernel_rfl) (by kernel_rfl) ?_
      simp only [go_sem, Nat.reduceLeDiff, Nat.reduceLT, Nat.reduceAdd, ct16t0_45, body45, f2, f3]
      repeat ((with_reducible refine And.intro ?_ ?_); focus (first | (with_reducible trivial) | omega | exact f4 | exact f5 | exact f6 | exact f7 | exact f8 | (intro g; have q := f4 (by first | exact g | (rw [g]; rfl) | simpa using g); first | exact q | exact ⟨q.1, q.2.1⟩ | exact q.2.2 | omega | exact ⟨g, q⟩ | exact ⟨trivial, q⟩ | exact ⟨g, q.1, q.2.1⟩ | exact ⟨g, q.2.2⟩) | (intro g; have q := f5 (by first | exact g | (rw [g]; rfl) | simpa using g); first | exact q | exact ⟨q.1, q.2.1⟩ | exact q.2.2 | omega | exact ⟨g, q⟩ | exact ⟨trivial, q⟩ | exact ⟨g, q.1, q.2.1⟩ | exact ⟨g, q.2.2⟩) | (intro g; have q := f6 (by first | exact g | (rw [g]; rfl) | simpa using g); first | exact q | exact ⟨q.1, q.2.1⟩ | exact q.2.2 | omega | exact ⟨g, q⟩ | exact ⟨trivial, q⟩ | exact ⟨g, q.1, q.2.1⟩ | exact ⟨g, q.2.2⟩) | (intro g; have q := f7 (by first | exact g | (rw [g]; rfl) | simpa using g); first | exact q | exact ⟨q.1, q.2.1⟩ | exact q.2.2 | omega | exact ⟨g, q⟩ | exact ⟨trivial, q⟩ | exact ⟨g, q.1, q.2.1⟩ | exact ⟨g, q.2.2⟩) | (intro g; have q := f8 (by first | exact g | (rw [g]; rfl) | simpa using g); first | exact q | exact ⟨q.1, q.2.1⟩ | exact q.2.2 | omega | exact ⟨g, q⟩ | exact ⟨trivial, q⟩ | exact ⟨g, q.1, q.2.1⟩ | exact ⟨g, q.2.2⟩) | (intro g; (try have q0 := f4 (by first | exact g | (rw [g]; rfl) | simpa using g)); (try have q1 := f5 (by first | exact g | (rw [g]; rfl) | simpa using g)); (try have q2 := f6 (by first | exact g | (rw [g]; rfl) | simpa using g)); (try have q3 := f7 (by first | exact g | (rw [g]; rfl) | simpa using g)); (try have q4 := f8 (by first | exact g | (rw [g]; rfl) | simpa using g)); and_intros <;> first | (with_reducible trivial) | assumption | exact nfc | (intro g2; rw [g, g2]; rfl) | (intro g2; assumption) | (simp only [g, Bool.true_and, Bool.and_true, Bool.not_false, Bool.not_true]; assumption) | grind) | (and_intros <;> first | (with_reducible trivial) | omega | assumption | exact nfc | first | exact rfl | exact trivial | exact fitI | exact .inr rfl | exact .inl rfl | exact fun x hx => absurd hx (by omega)) | grind))
      refine condM rfl trivial (fun hc => ?_) (fun hc => ?_)
      · replace H := cond_t hc H
        refine sq ctNo_ok ?_
        simp only [go_sem]
        refine rg ctNo_ok ?_
        simp only [go_sem]
        have H := hn2_1 _ (Option.some.inj H).symm
        obtain rfl := Option.some.inj H
        first | rfl | simp only [Bool.and_false, Bool.false_and, Bool.and_true, Bool.true_and]
      replace H := cond_f hc H
      refine rg ctNo_ok ?_
      simp only [go_sem]
      refine rg ctNo_ok ?_
      simp only [go_sem]
      refine ⟨_, (Option.some.inj H).symm, ?_⟩
      refine SubF_of ⟨[some 0, some 1], ?_, ?_, by rfl, by rfl⟩
      · simp [CvL, Cv, getM]
      · exact ⟨(by simp [CvB, CvL, Cv, blkAt, geth]), (by simp [CvB, CvL, Cv, blkAt, geth]), trivial⟩
    · try dsimp only at H ⊢
      try simp only [tp]
      try simp only [m_normal]
      refine sq ctNo_ok ?_
      simp only [go_sem]
      refine rg ctNo_ok ?_
      simp only [go_sem]
      obtain rfl := Option.some.inj H
      first | rfl | simp only [Bool.and_false, Bool.false_and, Bool.and_true, Bool.true_and]
  · cases hb
noncomputable def ct4t0 : Ct := tab [(20, pureC body20)]
theorem ct4t0_ok : CtOk Try.prog ct4t0 := tab_cons ok20 <| tab_nil
theorem ct4t0_20 (l : List AV) (h : List ABlk) : ct4t0 20 l h = pureC body20 l h := rfl
noncomputable def ct4t1 : Ct := tab [(11, pureC body11)]
theorem ct4t1_ok : CtOk Try.prog ct4t1 := tab_cons ok11 <| tab_nil
theorem ct4t1_11 (l : List AV) (h : List ABlk) : ct4t1 11 l h = pureC body11 l h := rfl
noncomputable def ct4t2 : Ct := tab [(21, genC body21)]
theorem ct4t2_ok : CtOk Try.prog ct4t2 := tab_cons ok21 <| tab_nil
theorem ct4t2_21 (l : List AV) (h : List ABlk) : ct4t2 21 l h = genC body21 l h := rfl
noncomputable def ct4t3 : Ct := tab [(22, pureC body22)]
theorem ct4t3_ok : CtOk Try.prog ct4t3 := tab_cons ok22 <| tab_nil
theorem ct4t3_22 (l : List AV) (h : List ABlk) : ct4t3 22 l h = pureC body22 l h := rfl
noncomputable def ct4t4 : Ct := tab [(23, genC body23)]
theorem ct4t4_ok : CtOk Try.prog ct4t4 := tab_cons ok23 <| tab_nil
theorem ct4t4_23 (l : List AV) (h : List ABlk) : ct4t4 23 l h = genC body23 l h := rfl
noncomputable def ct4t5 : Ct := tab [(24, genC body24)]
theorem ct4t5_ok : CtOk Try.prog ct4t5 := tab_cons ok24 <| tab_nil
theorem ct4t5_24 (l : List AV) (h : List ABlk) : ct4t5 24 l h = genC body24 l h := rfl
noncomputable def ct4t6 : Ct := tab [(16, pureC body16)]
theorem ct4t6_ok : CtOk Try.prog ct4t6 := tab_cons ok16 <| tab_nil
theorem ct4t6_16 (l : List AV) (h : List ABlk) : ct4t6 16 l h = pureC body16 l h := rfl
noncomputable def F4_L1 (p0 : TBuffer) (r5 : (List TFrame) × TBuffer × Int) (r7 : Int) (v1_1 : Int) : Option (Lp (Int) ((Unit) ⊕ (Bool))) :=
  bif (bLt v1_1 (r5.1.length : Nat)) then (need (inb v1_1 r5.1.length) <| bif (bB (((gd r5.1 v1_1.toNat).Head).MoreData) ((bEq v1_1 (wr .i64 ((((gd p0.List r7.toNat).Held).length : Nat) - 1))) || (bEq v1_1 (wr .i64 ((r5.1.length : Nat) - 1))))) then (some (.done (.inr false))) else (some (.next (wr .i64 (v1_1 + 1))))) else (some (.done (.inl ())))
noncomputable def F4_L3 (r7 : Int) (v2_3 : TBuffer) (v3_1 : Int) (v3_2 : Int) : Option (Lp (Int × Int) ((Int) ⊕ (Bool))) :=
  bif (bLt v3_2 (((gd v2_3.List r7.toNat).Held).length : Nat)) then (need (inb v3_2 (((gd v2_3.List r7.toNat).Held).length)) <| some (.next (maxI v3_1 ((gd ((gd v2_3.List r7.toNat).Held) v3_2.toNat).Cat), wr .i64 (v3_2 + 1)))) else (some (.done (.inl v3_1)))
noncomputable def F4_L2 (p0 : TBuffer) (p1 : Int) (r7 : Int) (v2_1 : Int) (v2_2 : Int) (v2_3 : TBuffer) : Option (Lp (Int × Int × TBuffer) ((Int) ⊕ (Bool))) :=
  bif (bLe v2_1 (((gd p0.List r7.toNat).Held).length : Nat)) then ((F23 v2_3 p1).bind fun r11 => bif (!bEq r11.2.2 0) then (some (.done (.inl v2_1))) else (bif (bLe (v2_3.List.length : Nat) r7) then (some (.done (.inr false))) else (need (inb r7 v2_3.List.length) <| lp (loopD (fun s => F4_L3 r7 v2_3 s.1 s.2) (0, 0)) (fun w3_3 => bif (bLt v2_2 w3_3) then (some (.done (.inr false))) else (some (.next (wr .i64 (v2_1 + 1), w3_3, r11.2.1)))) (fun r => some (.done (.inr r)))))) else (some (.done (.inl v2_1)))
noncomputable def F4 (p0 : TBuffer) (p1 : Int) (p2 : TFrame) (p3 : Int) : Option (Bool) :=
  (F20).bind fun r1 => (F11 p0 p2).bind fun r3 => bif (r3 || (!r1)) then (some r1) else ((F21 p0 p1).bind fun r5 => bif (!bEq r5.2.2 0) then (some (r1 && (bEq (r5.1.length : Nat) 0))) else ((F22 p0 p1).bind fun r7 => bif (bLt r7 0) then (some false) else (need (inb r7 p0.List.length) <| lp (loopD (fun s => F4_L1 p0 r5 r7 s) 0) (fun e => lp (loopD (fun s => F4_L2 p0 p1 r7 s.1 s.2.1 s.2.2) (0, 3, p0)) (fun w2_4 => (F24 r5.2.1 p1 1 p2 p3).bind fun r15 => need (bif ((!(bEq r15.2.2.2 2)) && ((bEq r15.2.2.2 0) && (bEq (r15.1.length : Nat) 1))) then inb 0 r15.1.length else true) <| need (bif ((!(bEq r15.2.2.2 2)) && ((((bEq r15.2.2.2 0) && (bEq (r15.1.length : Nat) 1)) && (!(((gd r15.1 0).Head).MoreData))) && (bEq (r15.2.1.length : Nat) 0))) then ((F16 r15.2.2.1 r5.2.1).isSome) else true) <| need (inb r7 p0.List.length) <| some (((r1 && (bLe (((gd p0.List r7.toNat).Held).length : Nat) (r5.1.length : Nat))) && ((bEq r15.2.2.2 2) || (((((bEq r15.2.2.2 0) && (bEq (r15.1.length : Nat) 1)) && (!(((gd r15.1 0).Head).MoreData))) && (bEq (r15.2.1.length : Nat) 0)) && (gt (F16 r15.2.2.1 r5.2.1))))) && ((bEq w2_4 (((gd p0.List r7.toNat).Held).length : Nat)) || ((!((gd p0.List r7.toNat).Asleep)) && (bEq w2_4 0))))) some) some)))
noncomputable def body4 : List AV -> AR
  | [v0, v1, v2, v3] => .pure (aK 4 k_TBuffer v0 /\ iK .i64 v1 /\ aK 41 k_TFrame v2 /\ iK .i64 v3 /\ (F4 (g_TBuffer (aL v0)) (iA v1) (g_TFrame (aL v2)) (iA v3)).isSome = true) (.bool (gt (F4 (g_TBuffer (aL v0)) (iA v1) (g_TFrame (aL v2)) (iA v3))))
  | _ => .fail
theorem ok4 : FnOk Try.prog 4 (pureC body4) := by
  refine pure_fnM body4 (rs := [.tmp 8]) Try.func4 (by kernel_rfl) rfl rfl ?_
  intro l ob v hb hob
  unfold body4 at hb
  split at hb
  · rename_i v0 v1 v2 v3
    injection hb with q1 q2; subst q1 q2
    obtain ⟨hk0_0, hk1_0, hk2_0, hk3_0, hob⟩ := hob
    obtain ⟨r, H⟩ := Option.isSome_iff_exists.1 hob
    rw [H, gt_some]
    have hw0 := wA_TBuffer hk0_0
    have hw1 := iK_wk hk1_0
    have hw2 := wA_TFrame hk2_0
    have hw3 := iK_wk hk3_0
    generalize g_TBuffer (aL v0) = p0 at H hw0
    generalize iA v1 = p1 at H hw1
    generalize g_TFrame (aL v2) = p2 at H hw2
    generalize iA v3 = p3 at H hw3
    refine ⟨[.agg [.int .i64 p0.Limit, .int .i64 p0.Stay, .ro 3 p0.List.length false (enR c_TSleeper p0.List), .ro 43 p0.Group.length false (enR c_TStored p0.Group)], .int .i64 p1, .agg (.int .u8 p2.Head.Kind :: .int .u8 p2.Head.Sub :: .bool p2.Head.ToDs :: .bool p2.Head.FromDs :: .bool p2.Head.More :: .bool p2.Head.Retry :: .bool p2.Head.Sleep :: .bool p2.Head.MoreData :: .bool p2.Head.Protected :: .int .i64 p2.Head.Duration :: .int .u8 p2.Head.A1.x0 :: .int .u8 p2.Head.A1.x1 :: .int .u8 p2.Head.A1.x2 :: .int .u8 p2.Head.A1.x3 :: .int .u8 p2.Head.A1.x4 :: .int .u8 p2.Head.A1.x5 :: .int .u8 p2.Head.A2.x0 :: .int .u8 p2.Head.A2.x1 :: .int .u8 p2.Head.A2.x2 :: .int .u8 p2.Head.A2.x3 :: .int .u8 p2.Head.A2.x4 :: .int .u8 p2.Head.A2.x5 :: .int .u8 p2.Head.A3.x0 :: .int .u8 p2.Head.A3.x1 :: .int .u8 p2.Head.A3.x2 :: .int .u8 p2.Head.A3.x3 :: .int .u8 p2.Head.A3.x4 :: .int .u8 p2.Head.A3.x5 :: .int .u8 p2.Head.A4.x0 :: .int .u8 p2.Head.A4.x1 :: .int .u8 p2.Head.A4.x2 :: .int .u8 p2.Head.A4.x3 :: .int .u8 p2.Head.A4.x4 :: .int .u8 p2.Head.A4.x5 :: .int .i64 p2.Head.Seq :: .int .i64 p2.Head.Frag :: .int .i64 p2.Head.Tid :: .int .u8 p2.Head.Ack :: .bool p2.Head.Amsdu :: .bool p2.Head.Eosp :: .ro 1 p2.Body.length false (enR c_u8 p2.Body) :: []), .int .i64 p3], _, (fun E vs F => FR_wk1 hw0.1 F (fun vs F => FR_wk1 hw1.1 F (fun vs F => FR_wk1 hw2.1 F (fun vs F => FR_wk1 hw3.1 F (fun vs F => F))))), rfl, rfl, ?_⟩
    rw [Try.ntmps4]
    simp only [List.length_cons, List.length_nil, Nat.reduceAdd, Nat.reduceSub, List.replicate_succ, List.replicate_zero, List.cons_append, List.nil_append]
    unfold F4 at H
    try dsimp only at H
    refine sq ctNo_ok ?_
    simp only [go_sem]
    refine seqM ?_
    obtain ⟨r1, e2, H⟩ := bsi H
    refine rg ct4t0_ok ?_
    simp only [go_sem, ct4t0_20, body20, e2]
    repeat ((with_reducible refine And.intro ?_ ?_); focus (first | (and_intros <;> first | (with_reducible trivial) | omega | assumption | exact nfc | first | exact rfl | exact trivial | exact fitI | exact .inr rfl | exact .inl rfl | exact fun x hx => absurd hx (by omega)) | grind))
    refine seqM ?_
    refine seqM ?_
    obtain ⟨r3, e4, H⟩ := bsi H
    refine rg ct4t1_ok ?_
    simp only [go_sem, Nat.reduceLT, Nat.reduceAdd, ct4t1_11, body11, e4]
    repeat ((with_reducible refine And.intro ?_ ?_); focus (first | (with_reducible trivial) | omega | (intro g; and_intros <;> first | (with_reducible trivial) | assumption | exact nfc | (intro g2; rw [g, g2]; rfl) | (intro g2; assumption) | (simp only [g, Bool.true_and, Bool.and_true, Bool.not_false, Bool.not_true]; assumption) | grind) | (and_intros <;> first | (with_reducible trivial) | omega | assumption | exact nfc | first | exact rfl | exact trivial | exact fitI | exact .inr rfl | exact .inl rfl | exact fun x hx => absurd hx (by omega)) | grind))
    refine condM rfl trivial (fun hc => ?_) (fun hc => ?_)
    · replace H := cond_t hc H
      refine sq ctNo_ok ?_
      simp only [go_sem]
      refine rg ctNo_ok ?_
      simp only [go_sem]
      obtain rfl := Option.some.inj H
      first | rfl | simp only [Bool.and_false, Bool.false_and, Bool.and_true, Bool.true_and]
    replace H := cond_f hc H
    refine rg ctNo_ok ?_
    simp only [go_sem]
    refine seqM ?_
    obtain ⟨r5, e6, H⟩ := bsi H
    refine rg ct4t2_ok ?_
    simp only [go_sem, Nat.reduceLT, Nat.reduceAdd, ct4t2_21, body21, e6]
    repeat ((with_reducible refine And.intro ?_ ?_); focus (first | (and_intros <;> first | (with_reducible trivial) | omega | assumption | exact nfc | first | exact rfl | exact trivial | exact fitI | exact .inr rfl | exact .inl rfl | exact fun x hx => absurd hx (by omega)) | grind))
    refine seqM ?_
    refine sq ctNo_ok ?_
    simp only [go_sem]
    refine condM rfl trivial (fun hc => ?_) (fun hc => ?_)
    · replace H := cond_t hc H
      refine sq ctNo_ok ?_
      simp only [go_sem]
      repeat ((with_reducible refine And.intro ?_ ?_); focus (first | (with_reducible trivial) | omega | (intro g; and_intros <;> first | (with_reducible trivial) | assumption | exact nfc | (intro g2; rw [g, g2]; rfl) | (intro g2; assumption) | (simp only [g, Bool.true_and, Bool.and_true, Bool.not_false, Bool.not_true]; assumption) | grind) | (and_intros <;> first | (with_reducible trivial) | omega | assumption | exact nfc | first | exact rfl | exact trivial | exact fitI | exact .inr rfl | exact .inl rfl | exact fun x hx => absurd hx (by omega)) | grind))
      refine rg ctNo_ok ?_
      simp only [go_sem]
      obtain rfl := Option.some.inj H
      first | rfl | simp only [Bool.and_false, Bool.false_and, Bool.and_true, Bool.true_and]
    replace H := cond_f hc H
    refine rg ctNo_ok ?_
    simp only [go_sem]
    refine seqM ?_
    obtain ⟨r7, e8, H⟩ := bsi H
    refine rg ct4t3_ok ?_
    simp only [go_sem, Nat.reduceLT, Nat.reduceAdd, ct4t3_22, body22, e8]
    repeat ((with_reducible refine And.intro ?_ ?_); focus (first | (and_intros <;> first | (with_reducible trivial) | omega | assumption | exact nfc | first | exact rfl | exact trivial | exact fitI | exact .inr rfl | exact .inl rfl | exact fun x hx => absurd hx (by omega)) | grind))
    refine seqM ?_
    refine sq ctNo_ok ?_
    simp only [go_sem]
    refine condM rfl trivial (fun hc => ?_) (fun hc => ?_)
    · replace H := cond_t hc H
      refine sq ctNo_ok ?_
      simp only [go_sem]
      refine rg ctNo_ok ?_
      simp only [go_sem]
      obtain rfl := Option.some.inj H
      first | rfl | simp only [Bool.and_false, Bool.false_and, Bool.and_true, Bool.true_and]
    replace H := cond_f hc H
    refine rg ctNo_ok ?_
    simp only [go_sem]
    refine seqM ?_
    obtain ⟨f9, H⟩ := need_some.1 H
    replace f9 := inb_iff.1 f9
    refine rg ctNo_ok ?_
    simp only [go_sem, Nat.reduceLeDiff, Nat.reduceLT, Nat.reduceAdd, f9]
    repeat ((with_reducible refine And.intro ?_ ?_); focus (first | (and_intros <;> first | (with_reducible trivial) | omega | assumption | exact nfc | first | exact rfl | exact trivial | exact fitI | exact .inr rfl | exact .inl rfl | exact fun x hx => absurd hx (by omega)) | grind))
    refine seqM ?_
    refine sq ctNo_ok ?_
    simp only [go_sem]
    refine blkM ?_
    refine loop_den (fun s : Int => (.top :: .int .i64 p1 :: .top :: .int .i64 p3 :: .ptr 0 0 0 0 :: .top :: .ptr 1 0 0 0 :: .top :: .top :: .bool r1 :: .ro 41 r5.1.length false (enR c_TFrame r5.1) :: .ptr 2 0 0 0 :: .top :: .int .i64 r7 :: .int .i64 (((gd p0.List r7.toNat).Held).length : Nat) :: .int .i64 s :: tp 190 [])) (fun s => [.lit 25 [.int .i64 p0.Limit, .int .i64 p0.Stay, .ro 3 p0.List.length false (enR c_TSleeper p0.List), .ro 43 p0.Group.length false (enR c_TStored p0.Group)], .lit 33 (.int .u8 p2.Head.Kind :: .int .u8 p2.Head.Sub :: .bool p2.Head.ToDs :: .bool p2.Head.FromDs :: .bool p2.Head.More :: .bool p2.Head.Retry :: .bool p2.Head.Sleep :: .bool p2.Head.MoreData :: .bool p2.Head.Protected :: .int .i64 p2.Head.Duration :: .int .u8 p2.Head.A1.x0 :: .int .u8 p2.Head.A1.x1 :: .int .u8 p2.Head.A1.x2 :: .int .u8 p2.Head.A1.x3 :: .int .u8 p2.Head.A1.x4 :: .int .u8 p2.Head.A1.x5 :: .int .u8 p2.Head.A2.x0 :: .int .u8 p2.Head.A2.x1 :: .int .u8 p2.Head.A2.x2 :: .int .u8 p2.Head.A2.x3 :: .int .u8 p2.Head.A2.x4 :: .int .u8 p2.Head.A2.x5 :: .int .u8 p2.Head.A3.x0 :: .int .u8 p2.Head.A3.x1 :: .int .u8 p2.Head.A3.x2 :: .int .u8 p2.Head.A3.x3 :: .int .u8 p2.Head.A3.x4 :: .int .u8 p2.Head.A3.x5 :: .int .u8 p2.Head.A4.x0 :: .int .u8 p2.Head.A4.x1 :: .int .u8 p2.Head.A4.x2 :: .int .u8 p2.Head.A4.x3 :: .int .u8 p2.Head.A4.x4 :: .int .u8 p2.Head.A4.x5 :: .int .i64 p2.Head.Seq :: .int .i64 p2.Head.Frag :: .int .i64 p2.Head.Tid :: .int .u8 p2.Head.Ack :: .bool p2.Head.Amsdu :: .bool p2.Head.Eosp :: .ro 1 p2.Body.length false (enR c_u8 p2.Body) :: []), .lit 25 [.int .i64 r5.2.1.Limit, .int .i64 r5.2.1.Stay, .ro 3 r5.2.1.List.length false (enR c_TSleeper r5.2.1.List), .ro 43 r5.2.1.Group.length false (enR c_TStored r5.2.1.Group)]]) (fun e : Unit => (.top :: .int .i64 p1 :: .top :: .int .i64 p3 :: .ptr 0 0 0 0 :: .top :: .ptr 1 0 0 0 :: .top :: .top :: .bool r1 :: .ro 41 r5.1.length false (enR c_TFrame r5.1) :: .ptr 2 0 0 0 :: .top :: .int .i64 r7 :: .int .i64 (((gd p0.List r7.toNat).Held).length : Nat) :: tp 191 [])) (fun e => [.lit 25 [.int .i64 p0.Limit, .int .i64 p0.Stay, .ro 3 p0.List.length false (enR c_TSleeper p0.List), .ro 43 p0.Group.length false (enR c_TStored p0.Group)], .lit 33 (.int .u8 p2.Head.Kind :: .int .u8 p2.Head.Sub :: .bool p2.Head.ToDs :: .bool p2.Head.FromDs :: .bool p2.Head.More :: .bool p2.Head.Retry :: .bool p2.Head.Sleep :: .bool p2.Head.MoreData :: .bool p2.Head.Protected :: .int .i64 p2.Head.Duration :: .int .u8 p2.Head.A1.x0 :: .int .u8 p2.Head.A1.x1 :: .int .u8 p2.Head.A1.x2 :: .int .u8 p2.Head.A1.x3 :: .int .u8 p2.Head.A1.x4 :: .int .u8 p2.Head.A1.x5 :: .int .u8 p2.Head.A2.x0 :: .int .u8 p2.Head.A2.x1 :: .int .u8 p2.Head.A2.x2 :: .int .u8 p2.Head.A2.x3 :: .int .u8 p2.Head.A2.x4 :: .int .u8 p2.Head.A2.x5 :: .int .u8 p2.Head.A3.x0 :: .int .u8 p2.Head.A3.x1 :: .int .u8 p2.Head.A3.x2 :: .int .u8 p2.Head.A3.x3 :: .int .u8 p2.Head.A3.x4 :: .int .u8 p2.Head.A3.x5 :: .int .u8 p2.Head.A4.x0 :: .int .u8 p2.Head.A4.x1 :: .int .u8 p2.Head.A4.x2 :: .int .u8 p2.Head.A4.x3 :: .int .u8 p2.Head.A4.x4 :: .int .u8 p2.Head.A4.x5 :: .int .i64 p2.Head.Seq :: .int .i64 p2.Head.Frag :: .int .i64 p2.Head.Tid :: .int .u8 p2.Head.Ack :: .bool p2.Head.Amsdu :: .bool p2.Head.Eosp :: .ro 1 p2.Body.length false (enR c_u8 p2.Body) :: []), .lit 25 [.int .i64 r5.2.1.Limit, .int .i64 r5.2.1.Stay, .ro 3 r5.2.1.List.length false (enR c_TSleeper r5.2.1.List), .ro 43 r5.2.1.Group.length false (enR c_TStored r5.2.1.Group)]]) H ?_ (fun v1_1 o H hn1_1 hn2_1 => ?_) (fun e H => ?_)
    · refine SubF_of ⟨[some 0, some 1, some 2], ?_, ?_, by rfl, by rfl⟩
      · simp [CvL, Cv, getM, tp]
      · exact ⟨(by simp [CvB, CvL, Cv, blkAt, geth]), (by simp [CvB, CvL, Cv, blkAt, geth]), (by simp [CvB, CvL, Cv, blkAt, geth]), trivial⟩
    · unfold F4_L1 at H
      try dsimp only at H ⊢
      try simp only [tp]
      refine seqM ?_
      refine sq ctNo_ok ?_
      simp only [go_sem, Nat.reduceAdd]
      repeat ((with_reducible refine And.intro ?_ ?_); focus (first | (and_intros <;> first | (with_reducible trivial) | omega | assumption | exact nfc | first | exact rfl | exact trivial | exact fitI | exact .inr rfl | exact .inl rfl | exact fun x hx => absurd hx (by omega)) | grind))
      refine condM' rfl trivial (fun hc => ?_) (fun hc => ?_)
      · replace H := cond_f hc H
        refine rg ctNo_ok ?_
        simp only [go_sem]
        refine ⟨_, (Option.some.inj H).symm, ?_⟩
        refine SubF_of ⟨[some 0, some 1, some 2], ?_, ?_, by rfl, by rfl⟩
        · simp [CvL, Cv, getM]
        · exact ⟨(by simp [CvB, CvL, Cv, blkAt, geth]), (by simp [CvB, CvL, Cv, blkAt, geth]), (by simp [CvB, CvL, Cv, blkAt, geth]), trivial⟩
      replace H := cond_t hc H
      refine rg ctNo_ok ?_
      simp only [go_sem]
      refine seqM ?_
      refine blkM ?_
      refine sq ctNo_ok ?_
      simp only [go_sem]
      repeat ((with_reducible refine And.intro ?_ ?_); focus (first | (with_reducible trivial) | omega | (intro g; and_intros <;> first | (with_reducible trivial) | assumption | exact nfc | (intro g2; rw [g, g2]; rfl) | (intro g2; assumption) | (simp only [g, Bool.true_and, Bool.and_true, Bool.not_false, Bool.not_true]; assumption) | grind) | (and_intros <;> first | (with_reducible trivial) | omega | assumption | exact nfc | first | exact rfl | exact trivial | exact fitI | exact .inr rfl | exact .inl rfl | exact fun x hx => absurd hx (by omega)) | grind))
      refine seqM ?_
      obtain ⟨f10, H⟩ := need_some.1 H
      replace f10 := inb_iff.1 f10
      refine rg ctNo_ok ?_
      simp only [go_sem, Nat.reduceLeDiff, Nat.reduceLT, Nat.reduceAdd, reduceCtorEq, f10]
      repeat ((with_reducible refine And.intro ?_ ?_); focus (first | (with_reducible trivial) | omega | grind))
      refine condM rfl trivial (fun hc => ?_) (fun hc => ?_)
      · replace H := cond_t hc H
        refine sq ctNo_ok ?_
        simp only [go_sem]
        refine rg ctNo_ok ?_
        simp only [go_sem]
        have H := hn2_1 _ (Option.some.inj H).symm
        obtain rfl := Option.some.inj H
        first | rfl | simp only [Bool.and_false, Bool.false_and, Bool.and_true, Bool.true_and]
      replace H := cond_f hc H
      refine rg ctNo_ok ?_
      simp only [go_sem]
      refine rg ctNo_ok ?_
      simp only [go_sem]
      refine ⟨_, (Option.some.inj H).symm, ?_⟩
      refine SubF_of ⟨[some 0, some 1, some 2], ?_, ?_, by rfl, by rfl⟩
      · simp [CvL, Cv, getM]
      · exact ⟨(by simp [CvB, CvL, Cv, blkAt, geth]), (by simp [CvB, CvL, Cv, blkAt, geth]), (by simp [CvB, CvL, Cv, blkAt, geth]), trivial⟩
    · try dsimp only at H ⊢
      try simp only [tp]
      try simp only [m_normal]
      refine sq ctNo_ok ?_
      simp only [go_sem]
      refine sq ctNo_ok ?_
      simp only [go_sem]
      refine seqM ?_
      refine sq ctNo_ok ?_
      simp only [go_sem, Nat.reduceLT, Nat.reduceAdd]
      repeat ((with_reducible refine And.intro ?_ ?_); focus (first | (with_reducible trivial) | omega | grind))
      refine blkM ?_
      refine loop_den (fun s : Int × Int × TBuffer => (.top :: .int .i64 p1 :: .top :: .int .i64 p3 :: .ptr 0 0 0 0 :: .top :: .ptr 1 0 0 0 :: .top :: .top :: .bool r1 :: .ro 41 r5.1.length false (enR c_TFrame r5.1) :: .ptr 2 0 0 0 :: .top :: .int .i64 r7 :: .int .i64 (((gd p0.List r7.toNat).Held).length : Nat) :: .top :: .top :: .int .i64 s.1 :: .int .u8 s.2.1 :: .ptr 4 0 0 0 :: tp 186 [])) (fun s => [.lit 25 [.int .i64 p0.Limit, .int .i64 p0.Stay, .ro 3 p0.List.length false (enR c_TSleeper p0.List), .ro 43 p0.Group.length false (enR c_TStored p0.Group)], .lit 33 (.int .u8 p2.Head.Kind :: .int .u8 p2.Head.Sub :: .bool p2.Head.ToDs :: .bool p2.Head.FromDs :: .bool p2.Head.More :: .bool p2.Head.Retry :: .bool p2.Head.Sleep :: .bool p2.Head.MoreData :: .bool p2.Head.Protected :: .int .i64 p2.Head.Duration :: .int .u8 p2.Head.A1.x0 :: .int .u8 p2.Head.A1.x1 :: .int .u8 p2.Head.A1.x2 :: .int .u8 p2.Head.A1.x3 :: .int .u8 p2.Head.A1.x4 :: .int .u8 p2.Head.A1.x5 :: .int .u8 p2.Head.A2.x0 :: .int .u8 p2.Head.A2.x1 :: .int .u8 p2.Head.A2.x2 :: .int .u8 p2.Head.A2.x3 :: .int .u8 p2.Head.A2.x4 :: .int .u8 p2.Head.A2.x5 :: .int .u8 p2.Head.A3.x0 :: .int .u8 p2.Head.A3.x1 :: .int .u8 p2.Head.A3.x2 :: .int .u8 p2.Head.A3.x3 :: .int .u8 p2.Head.A3.x4 :: .int .u8 p2.Head.A3.x5 :: .int .u8 p2.Head.A4.x0 :: .int .u8 p2.Head.A4.x1 :: .int .u8 p2.Head.A4.x2 :: .int .u8 p2.Head.A4.x3 :: .int .u8 p2.Head.A4.x4 :: .int .u8 p2.Head.A4.x5 :: .int .i64 p2.Head.Seq :: .int .i64 p2.Head.Frag :: .int .i64 p2.Head.Tid :: .int .u8 p2.Head.Ack :: .bool p2.Head.Amsdu :: .bool p2.Head.Eosp :: .ro 1 p2.Body.length false (enR c_u8 p2.Body) :: []), .lit 25 [.int .i64 r5.2.1.Limit, .int .i64 r5.2.1.Stay, .ro 3 r5.2.1.List.length false (enR c_TSleeper r5.2.1.List), .ro 43 r5.2.1.Group.length false (enR c_TStored r5.2.1.Group)], .dead, .lit 25 [.int .i64 s.2.2.Limit, .int .i64 s.2.2.Stay, .ro 3 s.2.2.List.length false (enR c_TSleeper s.2.2.List), .ro 43 s.2.2.Group.length false (enR c_TStored s.2.2.Group)]]) (fun e : Int => (.top :: .int .i64 p1 :: .top :: .int .i64 p3 :: .ptr 0 0 0 0 :: .top :: .ptr 1 0 0 0 :: .top :: .top :: .bool r1 :: .ro 41 r5.1.length false (enR c_TFrame r5.1) :: .ptr 2 0 0 0 :: .top :: .int .i64 r7 :: .int .i64 (((gd p0.List r7.toNat).Held).length : Nat) :: .top :: .top :: .int .i64 e :: tp 188 [])) (fun e => [.lit 25 [.int .i64 p0.Limit, .int .i64 p0.Stay, .ro 3 p0.List.length false (enR c_TSleeper p0.List), .ro 43 p0.Group.length false (enR c_TStored p0.Group)], .lit 33 (.int .u8 p2.Head.Kind :: .int .u8 p2.Head.Sub :: .bool p2.Head.ToDs :: .bool p2.Head.FromDs :: .bool p2.Head.More :: .bool p2.Head.Retry :: .bool p2.Head.Sleep :: .bool p2.Head.MoreData :: .bool p2.Head.Protected :: .int .i64 p2.Head.Duration :: .int .u8 p2.Head.A1.x0 :: .int .u8 p2.Head.A1.x1 :: .int .u8 p2.Head.A1.x2 :: .int .u8 p2.Head.A1.x3 :: .int .u8 p2.Head.A1.x4 :: .int .u8 p2.Head.A1.x5 :: .int .u8 p2.Head.A2.x0 :: .int .u8 p2.Head.A2.x1 :: .int .u8 p2.Head.A2.x2 :: .int .u8 p2.Head.A2.x3 :: .int .u8 p2.Head.A2.x4 :: .int .u8 p2.Head.A2.x5 :: .int .u8 p2.Head.A3.x0 :: .int .u8 p2.Head.A3.x1 :: .int .u8 p2.Head.A3.x2 :: .int .u8 p2.Head.A3.x3 :: .int .u8 p2.Head.A3.x4 :: .int .u8 p2.Head.A3.x5 :: .int .u8 p2.Head.A4.x0 :: .int .u8 p2.Head.A4.x1 :: .int .u8 p2.Head.A4.x2 :: .int .u8 p2.Head.A4.x3 :: .int .u8 p2.Head.A4.x4 :: .int .u8 p2.Head.A4.x5 :: .int .i64 p2.Head.Seq :: .int .i64 p2.Head.Frag :: .int .i64 p2.Head.Tid :: .int .u8 p2.Head.Ack :: .bool p2.Head.Amsdu :: .bool p2.Head.Eosp :: .ro 1 p2.Body.length false (enR c_u8 p2.Body) :: []), .lit 25 [.int .i64 r5.2.1.Limit, .int .i64 r5.2.1.Stay, .ro 3 r5.2.1.List.length false (enR c_TSleeper r5.2.1.List), .ro 43 r5.2.1.Group.length false (enR c_TStored r5.2.1.Group)], .dead]) H ?_ (fun s o H hn1_2 hn2_2 => ?_) (fun w2_4 H => ?_)
      · refine SubF_of ⟨[some 0, some 1, some 2, some 3, some 3], ?_, ?_, by rfl, by rfl⟩
        · simp [CvL, Cv, getM, tp]
        · exact ⟨(by simp [CvB, CvL, Cv, blkAt, geth]), (by simp [CvB, CvL, Cv, blkAt, geth]), (by simp [CvB, CvL, Cv, blkAt, geth]), CvB_dead, (by simp [CvB, CvL, Cv, blkAt, geth]), trivial⟩
      · obtain ⟨v2_1, v2_2, v2_3⟩ := s
        unfold F4_L2 at H
        try dsimp only at H ⊢
        try simp only [tp]
        refine seqM ?_
        refine sq ctNo_ok ?_
        simp only [go_sem, Nat.reduceAdd]
        refine condM' rfl trivial (fun hc => ?_) (fun hc => ?_)
        · replace H := cond_f hc H
          refine rg ctNo_ok ?_
          simp only [go_sem]
          refine ⟨_, (Option.some.inj H).symm, ?_⟩
          refine SubF_of ⟨[some 0, some 1, some 2, some 3], ?_, ?_, by rfl, by rfl⟩
          · simp [CvL, Cv, getM]
          · exact ⟨(by simp [CvB, CvL, Cv, blkAt, geth]), (by simp [CvB, CvL, Cv, blkAt, geth]), (by simp [CvB, CvL, Cv, blkAt, geth]), CvB_dead, trivial⟩
        replace H := cond_t hc H
        refine rg ctNo_ok ?_
        simp only [go_sem]
        refine seqM ?_
        refine blkM ?_
        refine seqM ?_
        obtain ⟨r11, e12, H⟩ := bsi H
        refine rg ct4t4_ok ?_
        simp only [go_sem, Nat.reduceLT, Nat.reduceAdd, ct4t4_23, body23, e12]
        repeat ((with_reducible refine And.intro ?_ ?_); focus (first | (and_intros <;> first | (with_reducible trivial) | omega | assumption | exact nfc | first | exact rfl | exact trivial | exact fitI | exact .inr rfl | exact .inl rfl | exact fun x hx => absurd hx (by omega)) | grind))
        refine seqM ?_
        refine sq ctNo_ok ?_
        simp only [go_sem]
        refine condM rfl trivial (fun hc => ?_) (fun hc => ?_)
        · replace H := cond_t hc H
          refine rg ctNo_ok ?_
          simp only [go_sem, Nat.reduceBEq]
          refine ⟨_, (Option.some.inj H).symm, ?_⟩
          refine SubF_of ⟨[some 0, some 1, some 2, some 3], ?_, ?_, by rfl, by rfl⟩
          · simp [CvL, Cv, getM]
          · exact ⟨(by simp [CvB, CvL, Cv, blkAt, geth]), (by simp [CvB, CvL, Cv, blkAt, geth]), (by simp [CvB, CvL, Cv, blkAt, geth]), CvB_dead, trivial⟩
        replace H := cond_f hc H
        refine rg ctNo_ok ?_
        simp only [go_sem]
        refine seqM ?_
        refine sq ctNo_ok ?_
        simp only [go_sem, Nat.reduceLeDiff, Nat.reduceLT, Nat.reduceAdd]
        repeat ((with_reducible refine And.intro ?_ ?_); focus (first | (and_intros <;> first | (with_reducible trivial) | omega | assumption | exact nfc | first | exact rfl | exact trivial | exact fitI | exact .inr rfl | exact .inl rfl | exact fun x hx => absurd hx (by omega)) | grind))
        refine condM rfl trivial (fun hc => ?_) (fun hc => ?_)
        · replace H := cond_t hc H
          refine sq ctNo_ok ?_
          simp only [go_sem]
          refine rg ctNo_ok ?_
          simp only [go_sem]
          have H := hn2_2 _ (Option.some.inj H).symm
          obtain rfl := Option.some.inj H
          first | rfl | simp only [Bool.and_false, Bool.false_and, Bool.and_true, Bool.true_and]
        replace H := cond_f hc H
        refine rg ctNo_ok ?_
        simp only [go_sem]
        refine sq ctNo_ok ?_
        simp only [go_sem]
        refine seqM ?_
        obtain ⟨f13, H⟩ := need_some.1 H
        replace f13 := inb_iff.1 f13
        refine rg ctNo_ok ?_
        simp only [go_sem, Nat.reduceLeDiff, Nat.reduceLT, Nat.reduceAdd, f13]
        repeat ((with_reducible refine And.intro ?_ ?_); focus (first | (with_reducible trivial) | omega | grind))
        refine seqM ?_
        refine sq ctNo_ok ?_
        simp only [go_sem]
        refine blkM ?_
        refine loop_den (fun s : Int × Int => (.top :: .int .i64 p1 :: .top :: .int .i64 p3 :: .ptr 0 0 0 0 :: .top :: .ptr 1 0 0 0 :: .top :: .top :: .bool r1 :: .ro 41 r5.1.length false (enR c_TFrame r5.1) :: .ptr 2 0 0 0 :: .top :: .int .i64 r7 :: .int .i64 (((gd p0.List r7.toNat).Held).length : Nat) :: .top :: .top :: .int .i64 v2_1 :: .int .u8 v2_2 :: .ptr 4 0 0 0 :: .top :: .ptr 6 0 0 0 :: .top :: .int .u8 s.1 :: .ro 43 (((gd v2_3.List r7.toNat).Held).length) false (enR c_TStored ((gd v2_3.List r7.toNat).Held)) :: .int .i64 s.2 :: tp 180 [])) (fun s => [.lit 25 [.int .i64 p0.Limit, .int .i64 p0.Stay, .ro 3 p0.List.length false (enR c_TSleeper p0.List), .ro 43 p0.Group.length false (enR c_TStored p0.Group)], .lit 33 (.int .u8 p2.Head.Kind :: .int .u8 p2.Head.Sub :: .bool p2.Head.ToDs :: .bool p2.Head.FromDs :: .bool p2.Head.More :: .bool p2.Head.Retry :: .bool p2.Head.Sleep :: .bool p2.Head.MoreData :: .bool p2.Head.Protected :: .int .i64 p2.Head.Duration :: .int .u8 p2.Head.A1.x0 :: .int .u8 p2.Head.A1.x1 :: .int .u8 p2.Head.A1.x2 :: .int .u8 p2.Head.A1.x3 :: .int .u8 p2.Head.A1.x4 :: .int .u8 p2.Head.A1.x5 :: .int .u8 p2.Head.A2.x0 :: .int .u8 p2.Head.A2.x1 :: .int .u8 p2.Head.A2.x2 :: .int .u8 p2.Head.A2.x3 :: .int .u8 p2.Head.A2.x4 :: .int .u8 p2.Head.A2.x5 :: .int .u8 p2.Head.A3.x0 :: .int .u8 p2.Head.A3.x1 :: .int .u8 p2.Head.A3.x2 :: .int .u8 p2.Head.A3.x3 :: .int .u8 p2.Head.A3.x4 :: .int .u8 p2.Head.A3.x5 :: .int .u8 p2.Head.A4.x0 :: .int .u8 p2.Head.A4.x1 :: .int .u8 p2.Head.A4.x2 :: .int .u8 p2.Head.A4.x3 :: .int .u8 p2.Head.A4.x4 :: .int .u8 p2.Head.A4.x5 :: .int .i64 p2.Head.Seq :: .int .i64 p2.Head.Frag :: .int .i64 p2.Head.Tid :: .int .u8 p2.Head.Ack :: .bool p2.Head.Amsdu :: .bool p2.Head.Eosp :: .ro 1 p2.Body.length false (enR c_u8 p2.Body) :: []), .lit 25 [.int .i64 r5.2.1.Limit, .int .i64 r5.2.1.Stay, .ro 3 r5.2.1.List.length false (enR c_TSleeper r5.2.1.List), .ro 43 r5.2.1.Group.length false (enR c_TStored r5.2.1.Group)], .dead, .lit 25 [.int .i64 v2_3.Limit, .int .i64 v2_3.Stay, .ro 3 v2_3.List.length false (enR c_TSleeper v2_3.List), .ro 43 v2_3.Group.length false (enR c_TStored v2_3.Group)], .dead, .lit 25 [.int .i64 r11.2.1.Limit, .int .i64 r11.2.1.Stay, .ro 3 r11.2.1.List.length false (enR c_TSleeper r11.2.1.List), .ro 43 r11.2.1.Group.length false (enR c_TStored r11.2.1.Group)]]) (fun e : Int => (.top :: .int .i64 p1 :: .top :: .int .i64 p3 :: .ptr 0 0 0 0 :: .top :: .ptr 1 0 0 0 :: .top :: .top :: .bool r1 :: .ro 41 r5.1.length false (enR c_TFrame r5.1) :: .ptr 2 0 0 0 :: .top :: .int .i64 r7 :: .int .i64 (((gd p0.List r7.toNat).Held).length : Nat) :: .top :: .top :: .int .i64 v2_1 :: .int .u8 v2_2 :: .ptr 4 0 0 0 :: .top :: .ptr 6 0 0 0 :: .top :: .int .u8 e :: tp 182 [])) (fun e => [.lit 25 [.int .i64 p0.Limit, .int .i64 p0.Stay, .ro 3 p0.List.length false (enR c_TSleeper p0.List), .ro 43 p0.Group.length false (enR c_TStored p0.Group)], .lit 33 (.int .u8 p2.Head.Kind :: .int .u8 p2.Head.Sub :: .bool p2.Head.ToDs :: .bool p2.Head.FromDs :: .bool p2.Head.More :: .bool p2.Head.Retry :: .bool p2.Head.Sleep :: .bool p2.Head.MoreData :: .bool p2.Head.Protected :: .int .i64 p2.Head.Duration :: .int .u8 p2.Head.A1.x0 :: .int .u8 p2.Head.A1.x1 :: .int .u8 p2.Head.A1.x2 :: .int .u8 p2.Head.A1.x3 :: .int .u8 p2.Head.A1.x4 :: .int .u8 p2.Head.A1.x5 :: .int .u8 p2.Head.A2.x0 :: .int .u8 p2.Head.A2.x1 :: .int .u8 p2.Head.A2.x2 :: .int .u8 p2.Head.A2.x3 :: .int .u8 p2.Head.A2.x4 :: .int .u8 p2.Head.A2.x5 :: .int .u8 p2.Head.A3.x0 :: .int .u8 p2.Head.A3.x1 :: .int .u8 p2.Head.A3.x2 :: .int .u8 p2.Head.A3.x3 :: .int .u8 p2.Head.A3.x4 :: .int .u8 p2.Head.A3.x5 :: .int .u8 p2.Head.A4.x0 :: .int .u8 p2.Head.A4.x1 :: .int .u8 p2.Head.A4.x2 :: .int .u8 p2.Head.A4.x3 :: .int .u8 p2.Head.A4.x4 :: .int .u8 p2.Head.A4.x5 :: .int .i64 p2.Head.Seq :: .int .i64 p2.Head.Frag :: .int .i64 p2.Head.Tid :: .int .u8 p2.Head.Ack :: .bool p2.Head.Amsdu :: .bool p2.Head.Eosp :: .ro 1 p2.Body.length false (enR c_u8 p2.Body) :: []), .lit 25 [.int .i64 r5.2.1.Limit, .int .i64 r5.2.1.Stay, .ro 3 r5.2.1.List.length false (enR c_TSleeper r5.2.1.List), .ro 43 r5.2.1.Group.length false (enR c_TStored r5.2.1.Group)], .dead, .lit 25 [.int .i64 v2_3.Limit, .int .i64 v2_3.Stay, .ro 3 v2_3.List.length false (enR c_TSleeper v2_3.List), .ro 43 v2_3.Group.length false (enR c_TStored v2_3.Group)], .dead, .lit 25 [.int .i64 r11.2.1.Limit, .int .i64 r11.2.1.Stay, .ro 3 r11.2.1.List.length false (enR c_TSleeper r11.2.1.List), .ro 43 r11.2.1.Group.length false (enR c_TStored r11.2.1.Group)]]) H ?_ (fun s o H hn1_3 hn2_3 => ?_) (fun w3_3 H => ?_)
        · refine SubF_of ⟨[some 0, some 1, some 2, some 3, some 4, some 5, some 6], ?_, ?_, by rfl, by rfl⟩
          · simp [CvL, Cv, getM, tp]
          · exact ⟨(by simp [CvB, CvL, Cv, blkAt, geth]), (by simp [CvB, CvL, Cv, blkAt, geth]), (by simp [CvB, CvL, Cv, blkAt, geth]), CvB_dead, (by simp [CvB, CvL, Cv, blkAt, geth]), CvB_dead, (by simp [CvB, CvL, Cv, blkAt, geth]), trivial⟩
        · obtain ⟨v3_1, v3_2⟩ := s
          unfold F4_L3 at H
          try dsimp only at H ⊢
          try simp only [tp]
          refine seqM ?_
          refine sq ctNo_ok ?_
          simp only [go_sem, Nat.reduceAdd]
          repeat ((with_reducible refine And.intro ?_ ?_); focus (first | (and_intros <;> first | (with_reducible trivial) | omega | assumption | exact nfc | first | exact rfl | exact trivial | exact fitI | exact .inr rfl | exact .inl rfl | exact fun x hx => absurd hx (by omega)) | grind))
          refine condM' rfl trivial (fun hc => ?_) (fun hc => ?_)
          · replace H := cond_f hc H
            refine rg ctNo_ok ?_
            simp only [go_sem, Nat.reduceBEq]
            refine ⟨_, (Option.some.inj H).symm, ?_⟩
            refine SubF_of ⟨[some 0, some 1, some 2, some 3, some 4, some 5, some 6], ?_, ?_, by rfl, by rfl⟩
            · simp [CvL, Cv, getM]
            · exact ⟨(by simp [CvB, CvL, Cv, blkAt, geth]), (by simp [CvB, CvL, Cv, blkAt, geth]), (by simp [CvB, CvL, Cv, blkAt, geth]), CvB_dead, (by simp [CvB, CvL, Cv, blkAt, geth]), CvB_dead, (by simp [CvB, CvL, Cv, blkAt, geth]), trivial⟩
          replace H := cond_t hc H
          refine rg ctNo_ok ?_
          simp only [go_sem]
          refine seqM ?_
          refine blkM ?_
          obtain ⟨f14, H⟩ := need_some.1 H
          replace f14 := inb_iff.1 f14
          refine rg ctNo_ok ?_
          simp only [go_sem, Nat.reduceLeDiff, Nat.reduceLT, f14]
          repeat ((with_reducible refine And.intro ?_ ?_); focus (first | (and_intros <;> first | (with_reducible trivial) | omega | assumption | exact nfc | first | exact rfl | exact trivial | exact fitI | exact .inr rfl | exact .inl rfl | exact fun x hx => absurd hx (by omega)) | grind))
          refine rg ctNo_ok ?_
          simp only [go_sem]
          refine ⟨_, (Option.some.inj H).symm, ?_⟩
          refine SubF_of ⟨[some 0, some 1, some 2, some 3, some 4, some 5, some 6], ?_, ?_, by rfl, by rfl⟩
          · simp [CvL, Cv, getM]
          · exact ⟨(by simp [CvB, CvL, Cv, blkAt, geth]), (by simp [CvB, CvL, Cv, blkAt, geth]), (by simp [CvB, CvL, Cv, blkAt, geth]), CvB_dead, (by simp [CvB, CvL, Cv, blkAt, geth]), CvB_dead, (by simp [CvB, CvL, Cv, blkAt, geth]), trivial⟩
        · try dsimp only at H ⊢
          try simp only [tp]
          try simp only [m_normal]
          refine seqM ?_
          refine sq ctNo_ok ?_
          simp only [go_sem]
          refine condM rfl trivial (fun hc => ?_) (fun hc => ?_)
          · replace H := cond_t hc H
            refine sq ctNo_ok ?_
            simp only [go_sem]
            refine rg ctNo_ok ?_
            simp only [go_sem]
            have H := hn2_2 _ (Option.some.inj H).symm
            obtain rfl := Option.some.inj H
            first | rfl | simp only [Bool.and_false, Bool.false_and, Bool.and_true, Bool.true_and]
          replace H := cond_f hc H
          refine rg ctNo_ok ?_
          simp only [go_sem]
          refine draw_rule shT_ok ctNo_ok 0 (by kernel_rfl) (by kernel_rfl) ?_
          intro an han
          simp only [d_nil, d_cons, nxtD, xrD, xoD, roEq, minL, List.append_nil, refsOp, refs, mask, maskF, place, placeF, okLog, pairOk, hit, inL, slotsF, nrH, nrB, nrL, nr, List.replicate_zero, Nat.sub_self, Nat.add_zero, Nat.zero_add, Nat.reduceSub, Nat.lt_add_one, go_sem, Nat.reduceLeDiff, Nat.reduceLT, Nat.reduceAdd, Nat.reduceSub, Nat.reduceBEq]
          repeat ((with_reducible refine And.intro ?_ ?_); focus (and_intros <;> first | (with_reducible trivial) | (show anB _ _ _ = true; subst han; kernel_rfl) | (show (anB _ _ _ && _) = true; subst han; kernel_rfl) | omega | assumption | exact nrc | exact nfc | first | exact rfl | exact trivial | exact fitI | exact .inr rfl | exact .inl rfl | exact fun x hx => absurd hx (by omega)))
          refine seqM ?_
          refine sq ctNo_ok ?_
          simp only [go_sem, Nat.reduceLT, Nat.reduceAdd]
          repeat ((with_reducible refine And.intro ?_ ?_); focus (first | (with_reducible trivial) | omega | grind))
          refine rg ctNo_ok ?_
          simp only [go_sem, Nat.reduceAdd]
          repeat ((with_reducible refine And.intro ?_ ?_); focus (first | (with_reducible trivial) | omega | grind))
          refine rg ctNo_ok ?_
          simp only [go_sem]
          refine ⟨_, (Option.some.inj H).symm, ?_⟩
          refine SubF_of ⟨[some 0, some 1, some 2, some 3, some 7], ?_, ?_, by rfl, by rfl⟩
          · simp [CvL, Cv, getM]
          · exact ⟨(by simp [CvB, CvL, Cv, blkAt, geth]), (by simp [CvB, CvL, Cv, blkAt, geth]), (by simp [CvB, CvL, Cv, blkAt, geth]), CvB_dead, (by simp [CvB, CvL, Cv, blkAt, geth]), trivial⟩
      · try dsimp only at H ⊢
        try simp only [tp]
        try simp only [m_normal]
        refine seqM ?_
        obtain ⟨r15, e16, H⟩ := bsi H
        refine rg ct4t5_ok ?_
        simp only [go_sem, Nat.reduceLT, Nat.reduceAdd, ct4t5_24, body24, e16]
        repeat ((with_reducible refine And.intro ?_ ?_); focus (first | (and_intros <;> first | (with_reducible trivial) | omega | assumption | exact nfc | first | exact rfl | exact trivial | exact fitI | exact .inr rfl | exact .inl rfl | exact fun x hx => absurd hx (by omega)) | grind))
        refine seqM ?_
        obtain ⟨f17, H⟩ := need_some.1 H
        replace f17 := g_iff.1 f17
        replace f17 := fun g => inb_iff.1 (f17 g)
        obtain ⟨f18, H⟩ := need_some.1 H
        replace f18 := g_iff.1 f18
        refine rg ct4t6_ok ?_
        simp only [go_sem, Nat.reduceLeDiff, Nat.reduceLT, Nat.reduceAdd, reduceCtorEq, ct4t6_16, body16]
        repeat ((with_reducible refine And.intro ?_ ?_); focus (first | (with_reducible trivial) | omega | exact f17 | exact f18 | (intro g; have q := f17 (by first | exact g | (rw [g]; rfl) | simpa using g); first | exact q | exact ⟨q.1, q.2.1⟩ | exact q.2.2 | omega | exact ⟨g, q⟩ | exact ⟨trivial, q⟩ | exact ⟨g, q.1, q.2.1⟩ | exact ⟨g, q.2.2⟩) | (intro g; have q := f18 (by first | exact g | (rw [g]; rfl) | simpa using g); first | exact q | exact ⟨q.1, q.2.1⟩ | exact q.2.2 | omega | exact ⟨g, q⟩ | exact ⟨trivial, q⟩ | exact ⟨g, q.1, q.2.1⟩ | exact ⟨g, q.2.2⟩) | (intro g; (try have q0 := f17 (by first | exact g | (rw [g]; rfl) | simpa using g)); (try have q1 := f18 (by first | exact g | (rw [g]; rfl) | simpa using g)); and_intros <;> first | (with_reducible trivial) | assumption | exact nfc | (intro g2; rw [g, g2]; rfl) | (intro g2; assumption) | (simp only [g, Bool.true_and, Bool.and_true, Bool.not_false, Bool.not_true]; assumption) | grind) | (and_intros <;> first | (with_reducible trivial) | omega | assumption | exact nfc | first | exact rfl | exact trivial | exact fitI | exact .inr rfl | exact .inl rfl | exact fun x hx => absurd hx (by omega)) | grind))
        refine seqM ?_
        obtain ⟨f19, H⟩ := need_some.1 H
        replace f19 := inb_iff.1 f19
        refine rg ctNo_ok ?_
        simp only [go_sem, Nat.reduceLeDiff, Nat.reduceLT, Nat.reduceAdd, f19]
        repeat ((with_reducible refine And.intro ?_ ?_); focus (first | (with_reducible trivial) | omega | grind))
        refine sq ctNo_ok ?_
        simp only [go_sem]
        repeat ((with_reducible refine And.intro ?_ ?_); focus (first | (with_reducible trivial) | omega | (intro g; and_intros <;> first | (with_reducible trivial) | assumption | exact nfc | (intro g2; rw [g, g2]; rfl) | (intro g2; assumption) | (simp only [g, Bool.true_and, Bool.and_true, Bool.not_false, Bool.not_true]; assumption) | grind) | (and_intros <;> first | (with_reducible trivial) | omega | assumption | exact nfc | first | exact rfl | exact trivial | exact fitI | exact .inr rfl | exact .inl rfl | exact fun x hx => absurd hx (by omega)) | grind))
        refine rg ctNo_ok ?_
        simp only [go_sem]
        obtain rfl := Option.some.inj H
        first | rfl | simp only [Bool.and_false, Bool.false_and, Bool.and_true, Bool.true_and]
  · cases hb
end Go.Proofs.Ytefiemaoacmdkaa
