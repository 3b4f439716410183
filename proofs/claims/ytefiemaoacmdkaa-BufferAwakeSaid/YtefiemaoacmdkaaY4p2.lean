/-
  What BufferAwake reaches.
-/
import Derived.Test.YtefiemaoacmdkaaY4p1
namespace Go.Proofs.Ytefiemaoacmdkaa
open Go.Am
set_option maxHeartbeats 4000000
set_option maxRecDepth 20000
set_option linter.unusedVariables false
set_option linter.unusedSimpArgs false
noncomputable def F52_0_L1 (p0 : List TFrame) (v1_1 : List TFrame) (v1_2 : Int) : Option (Lp ((List TFrame) × Int) ((List TFrame) ⊕ (List TFrame))) :=
  bif (bLt v1_2 (p0.length : Nat)) then (need (inb v1_2 v1_1.length) <| some (.next ((v1_1.set v1_2.toNat (TFrame.mk (THeader.mk (((gd v1_1 v1_2.toNat).Head).Kind) (((gd v1_1 v1_2.toNat).Head).Sub) (((gd v1_1 v1_2.toNat).Head).ToDs) (((gd v1_1 v1_2.toNat).Head).FromDs) (((gd v1_1 v1_2.toNat).Head).More) (((gd v1_1 v1_2.toNat).Head).Retry) (((gd v1_1 v1_2.toNat).Head).Sleep) (bLt (wr .i64 (v1_2 + 1)) (v1_1.length : Nat)) (((gd v1_1 v1_2.toNat).Head).Protected) (((gd v1_1 v1_2.toNat).Head).Duration) (A6u8.mk ((((gd v1_1 v1_2.toNat).Head).A1).x0) ((((gd v1_1 v1_2.toNat).Head).A1).x1) ((((gd v1_1 v1_2.toNat).Head).A1).x2) ((((gd v1_1 v1_2.toNat).Head).A1).x3) ((((gd v1_1 v1_2.toNat).Head).A1).x4) ((((gd v1_1 v1_2.toNat).Head).A1).x5)) (A6u8.mk ((((gd v1_1 v1_2.toNat).Head).A2).x0) ((((gd v1_1 v1_2.toNat).Head).A2).x1) ((((gd v1_1 v1_2.toNat).Head).A2).x2) ((((gd v1_1 v1_2.toNat).Head).A2).x3) ((((gd v1_1 v1_2.toNat).Head).A2).x4) ((((gd v1_1 v1_2.toNat).Head).A2).x5)) (A6u8.mk ((((gd v1_1 v1_2.toNat).Head).A3).x0) ((((gd v1_1 v1_2.toNat).Head).A3).x1) ((((gd v1_1 v1_2.toNat).Head).A3).x2) ((((gd v1_1 v1_2.toNat).Head).A3).x3) ((((gd v1_1 v1_2.toNat).Head).A3).x4) ((((gd v1_1 v1_2.toNat).Head).A3).x5)) (A6u8.mk ((((gd v1_1 v1_2.toNat).Head).A4).x0) ((((gd v1_1 v1_2.toNat).Head).A4).x1) ((((gd v1_1 v1_2.toNat).Head).A4).x2) ((((gd v1_1 v1_2.toNat).Head).A4).x3) ((((gd v1_1 v1_2.toNat).Head).A4).x4) ((((gd v1_1 v1_2.toNat).Head).A4).x5)) (((gd v1_1 v1_2.toNat).Head).Seq) (((gd v1_1 v1_2.toNat).Head).Frag) (((gd v1_1 v1_2.toNat).Head).Tid) (((gd v1_1 v1_2.toNat).Head).Ack) (((gd v1_1 v1_2.toNat).Head).Amsdu) (((gd v1_1 v1_2.toNat).Head).Eosp)) ((gd v1_1 v1_2.toNat).Body))), wr .i64 (v1_2 + 1)))) else (some (.done (.inl v1_1)))
noncomputable def F52_0 (p0 : List TFrame) : Option (List TFrame) :=
  lp (loopD (fun s => F52_0_L1 p0 s.1 s.2) (p0, 0)) (fun w1_3 => some w1_3) some
noncomputable def body52_0 : List AV -> List ABlk -> ED
  | [v0], h => .ed [slN v0] (oS 33 41 h v0 /\ lK k_TFrame 41 (roW h v0) /\ (F52_0 (lA g_TFrame (roW h v0))).isSome = true) (.sl 1 41 0 ((gt (F52_0 (lA g_TFrame (roW h v0)))).length) false) [.dead, .row 33 41 ((gt (F52_0 (lA g_TFrame (roW h v0)))).length) (enR c_TFrame (gt (F52_0 (lA g_TFrame (roW h v0)))))]
  | _, _ => .fail
theorem ok52_0 : FnOk Try.prog 52 (edC body52_0) := by
  refine edit_fnM body52_0 (rs := [.tmp 2]) Try.func52 (by kernel_rfl) rfl rfl ?_
  intro l h bs ob q0 g0 hb hob
  unfold body52_0 at hb
  split at hb
  · rename_i v0
    injection hb with q1 q2 q3 q4; subst q1 q2 q3 q4
    obtain ⟨hk0_0, hk0_1, hob⟩ := hob
    obtain ⟨r, H⟩ := Option.isSome_iff_exists.1 hob
    rw [H, gt_some]
    obtain ⟨p0, hp0⟩ : ∃ p0, p0 = lA g_TFrame (roW h v0) := ⟨_, rfl⟩
    rw [← hp0] at H
    obtain ⟨ev0, eb0⟩ := own_row2 (f := c_TFrame) (g := g_TFrame) (bs := [slN v0]) (i := 0) (fun hr => w_TFrame hr) hk0_0 hk0_1 (L := p0) (by rw [hp0]) rfl
    refine ⟨[.sl 0 41 0 p0.length false], [.row 33 41 p0.length (enR c_TFrame p0)], rfl, ⟨ev0, trivial⟩, ⟨eb0, trivial⟩, ⟨trivial, ⟨(nfB_en nr_TFrame), trivial⟩⟩, ?_⟩
    rw [Try.ntmps52]
    simp only [List.length_cons, List.length_nil, Nat.reduceAdd, Nat.reduceSub, List.replicate_succ, List.replicate_zero, List.cons_append, List.nil_append]
    unfold F52_0 at H
    refine sq ctNo_ok ?_
    simp only [go_sem]
    refine seqM ?_
    refine sq ctNo_ok ?_
    simp only [go_sem]
    refine blkM ?_
    refine loop_den (fun s : (List TFrame) × Int => (.sl 1 41 0 s.1.length false :: tp 4 (.int .i64 (p0.length : Nat) :: .int .i64 s.2 :: tp 14 []))) (fun s => [.dead, .row 33 41 s.1.length (enR c_TFrame s.1)]) (fun e : List TFrame => (.sl 1 41 0 e.length false :: tp 20 [])) (fun e => [.dead, .row 33 41 e.length (enR c_TFrame e)]) H ?_ (fun s o H hn1_1 hn2_1 => ?_) (fun w1_3 H => ?_)
    · refine SubF_of ⟨[some 0, some 0], ?_, ?_, by rfl, by rfl⟩
      · simp [CvL, Cv, getM, tp]
      · exact ⟨CvB_dead, CvB_row nr_TFrame (by first | rfl | (simp; done) | (simp; omega)) (fun _ _ _ _ => rfl), trivial⟩
    · obtain ⟨v1_1, v1_2⟩ := s
      unfold F52_0_L1 at H
      try simp only [tp]
      refine sq ctNo_ok ?_
      simp only [go_sem]
      refine seqM ?_
      refine condM' rfl trivial (fun hc => ?_) (fun hc => ?_)
      · replace H := cond_f hc H
        refine rg ctNo_ok ?_
        simp only [go_sem]
        refine ⟨_, (Option.some.inj H).symm, ?_⟩
        refine SubF_of ⟨[some 0, some 1], ?_, ?_, by rfl, by rfl⟩
        · simp [CvL, Cv, getM]
        · exact ⟨CvB_dead, CvB_row nr_TFrame (by first | rfl | (simp; done) | (simp; omega)) (fun _ _ _ _ => rfl), trivial⟩
      replace H := cond_t hc H
      refine rg ctNo_ok ?_
      simp only [go_sem]
      refine seqM ?_
      refine blkM ?_
      refine sq ctNo_ok ?_
      simp only [go_sem]
      obtain ⟨f1, H⟩ := need_some.1 H
      replace f1 := inb_iff.1 f1
      refine rg ctNo_ok ?_
      simp only [go_sem, Nat.reduceLeDiff, Nat.reduceAdd, reduceCtorEq, f1]
      refine rg ctNo_ok ?_
      simp only [go_sem]
      refine ⟨_, (Option.some.inj H).symm, ?_⟩
      refine SubF_of ⟨[some 0, some 1], ?_, ?_, by rfl, by rfl⟩
      · simp [CvL, Cv, getM]
      · exact ⟨CvB_dead, CvB_row nr_TFrame (by first | rfl | (simp; done) | (simp; omega)) (upc_row (f := c_TFrame) v1_1 v1_2.toNat 7 (TFrame.mk (THeader.mk (((gd v1_1 v1_2.toNat).Head).Kind) (((gd v1_1 v1_2.toNat).Head).Sub) (((gd v1_1 v1_2.toNat).Head).ToDs) (((gd v1_1 v1_2.toNat).Head).FromDs) (((gd v1_1 v1_2.toNat).Head).More) (((gd v1_1 v1_2.toNat).Head).Retry) (((gd v1_1 v1_2.toNat).Head).Sleep) (bLt (wr .i64 (v1_2 + 1)) (v1_1.length : Nat)) (((gd v1_1 v1_2.toNat).Head).Protected) (((gd v1_1 v1_2.toNat).Head).Duration) (A6u8.mk ((((gd v1_1 v1_2.toNat).Head).A1).x0) ((((gd v1_1 v1_2.toNat).Head).A1).x1) ((((gd v1_1 v1_2.toNat).Head).A1).x2) ((((gd v1_1 v1_2.toNat).Head).A1).x3) ((((gd v1_1 v1_2.toNat).Head).A1).x4) ((((gd v1_1 v1_2.toNat).Head).A1).x5)) (A6u8.mk ((((gd v1_1 v1_2.toNat).Head).A2).x0) ((((gd v1_1 v1_2.toNat).Head).A2).x1) ((((gd v1_1 v1_2.toNat).Head).A2).x2) ((((gd v1_1 v1_2.toNat).Head).A2).x3) ((((gd v1_1 v1_2.toNat).Head).A2).x4) ((((gd v1_1 v1_2.toNat).Head).A2).x5)) (A6u8.mk ((((gd v1_1 v1_2.toNat).Head).A3).x0) ((((gd v1_1 v1_2.toNat).Head).A3).x1) ((((gd v1_1 v1_2.toNat).Head).A3).x2) ((((gd v1_1 v1_2.toNat).Head).A3).x3) ((((gd v1_1 v1_2.toNat).Head).A3).x4) ((((gd v1_1 v1_2.toNat).Head).A3).x5)) (A6u8.mk ((((gd v1_1 v1_2.toNat).Head).A4).x0) ((((gd v1_1 v1_2.toNat).Head).A4).x1) ((((gd v1_1 v1_2.toNat).Head).A4).x2) ((((gd v1_1 v1_2.toNat).Head).A4).x3) ((((gd v1_1 v1_2.toNat).Head).A4).x4) ((((gd v1_1 v1_2.toNat).Head).A4).x5)) (((gd v1_1 v1_2.toNat).Head).Seq) (((gd v1_1 v1_2.toNat).Head).Frag) (((gd v1_1 v1_2.toNat).Head).Tid) (((gd v1_1 v1_2.toNat).Head).Ack) (((gd v1_1 v1_2.toNat).Head).Amsdu) (((gd v1_1 v1_2.toNat).Head).Eosp)) ((gd v1_1 v1_2.toNat).Body)) (fun _ _ _ _ => rfl) (fun y hy => match y, hy with | 0, _ => rfl | 1, _ => rfl | 2, _ => rfl | 3, _ => rfl | 4, _ => rfl | 5, _ => rfl | 6, _ => rfl | 7, _ => rfl | 8, _ => rfl | 9, _ => rfl | 10, _ => rfl | 11, _ => rfl | 12, _ => rfl | 13, _ => rfl | 14, _ => rfl | 15, _ => rfl | 16, _ => rfl | 17, _ => rfl | 18, _ => rfl | 19, _ => rfl | 20, _ => rfl | 21, _ => rfl | 22, _ => rfl | 23, _ => rfl | 24, _ => rfl | 25, _ => rfl | 26, _ => rfl | 27, _ => rfl | 28, _ => rfl | 29, _ => rfl | 30, _ => rfl | 31, _ => rfl | 32, _ => rfl | 33, _ => rfl | 34, _ => rfl | 35, _ => rfl | 36, _ => rfl | 37, _ => rfl | 38, _ => rfl | 39, _ => rfl | 40, _ => rfl | (y+41), h => absurd h (by omega))), trivial⟩
    · try dsimp only at H ⊢
      try simp only [tp]
      try simp only [m_normal]
      refine sq ctNo_ok ?_
      simp only [go_sem]
      refine rg ctNo_ok ?_
      simp only [go_sem]
      obtain rfl := Option.some.inj H
      refine RetE_mk [] [some 0, some 1] ?_ ?_ ?_ ?_ (by rfl) (by rfl)
      · simp only [go_sem]
      · simp only [go_sem]
      · simp only [go_sem]
        exact (by first | (simp [Cv, getM]; done) | (simp [Cv, CvL, getM, gt_some]; omega))
      · simp only [go_sem, CvH]
        first | exact ⟨CvB_dead, CvB_row nr_TFrame (by first | rfl | (simp; done) | (simp; omega)) (fun _ _ _ _ => rfl)⟩ | trivial
  · cases hb
noncomputable def ct24t0 : Ct := tab [(18, pureC body18)]
theorem ct24t0_ok : CtOk Try.prog ct24t0 := tab_cons ok18 <| tab_nil
theorem ct24t0_18 (l : List AV) (h : List ABlk) : ct24t0 18 l h = pureC body18 l h := rfl
noncomputable def ct24t1 : Ct := tab [(61, pureC body61)]
theorem ct24t1_ok : CtOk Try.prog ct24t1 := tab_cons ok61 <| tab_nil
theorem ct24t1_61 (l : List AV) (h : List ABlk) : ct24t1 61 l h = pureC body61 l h := rfl
noncomputable def ct24t2 : Ct := tab [(81, pureC body81)]
theorem ct24t2_ok : CtOk Try.prog ct24t2 := tab_cons ok81 <| tab_nil
theorem ct24t2_81 (l : List AV) (h : List ABlk) : ct24t2 81 l h = pureC body81 l h := rfl
noncomputable def ct24t3 (gi : Nat) : Ct := tab [(65, genC (body65f gi))]
theorem ct24t3_ok (gi : Nat) : CtOk Try.prog (ct24t3 gi) := tab_cons (ok65f gi) <| tab_nil
theorem ct24t3_65 (gi : Nat) (l : List AV) (h : List ABlk) : (ct24t3 gi) 65 l h = genC (body65f gi) l h := rfl
noncomputable def ct24t4 : Ct := tab [(62, pureC body62)]
theorem ct24t4_ok : CtOk Try.prog ct24t4 := tab_cons ok62 <| tab_nil
theorem ct24t4_62 (l : List AV) (h : List ABlk) : ct24t4 62 l h = pureC body62 l h := rfl
noncomputable def ct24t5 : Ct := tab [(63, edC body63)]
theorem ct24t5_ok : CtOk Try.prog ct24t5 := tab_cons ok63 <| tab_nil
theorem ct24t5_63 (l : List AV) (h : List ABlk) : ct24t5 63 l h = edC body63 l h := rfl
noncomputable def ct24t6 : Ct := tab [(90, pureC body90)]
theorem ct24t6_ok : CtOk Try.prog ct24t6 := tab_cons ok90 <| tab_nil
theorem ct24t6_90 (l : List AV) (h : List ABlk) : ct24t6 90 l h = pureC body90 l h := rfl
noncomputable def ct24t7 : Ct := tab [(58, pureC body58_0)]
theorem ct24t7_ok : CtOk Try.prog ct24t7 := tab_cons ok58_0 <| tab_nil
theorem ct24t7_58 (l : List AV) (h : List ABlk) : ct24t7 58 l h = pureC body58_0 l h := rfl
noncomputable def ct24t8 : Ct := tab [(60, delN 61 43)]
theorem ct24t8_ok : CtOk Try.prog ct24t8 := tab_cons ok60 <| tab_nil
theorem ct24t8_60 (l : List AV) (h : List ABlk) : ct24t8 60 l h = delN 61 43 l h := rfl
noncomputable def ct24t9 : Ct := tab [(52, edC body52_0)]
theorem ct24t9_ok : CtOk Try.prog ct24t9 := tab_cons ok52_0 <| tab_nil
theorem ct24t9_52 (l : List AV) (h : List ABlk) : ct24t9 52 l h = edC body52_0 l h := rfl
noncomputable def F24_L1 (r4 : Int × Bool) (r6 : TBuffer) (v1_1 : Int) (v1_2 : TStored) : Option (Lp (Int × TStored) ((TStored) ⊕ ((List TFrame) × (List TFrame) × TBuffer × Int))) :=
  bif (bLt v1_1 (((gd r6.List r4.1.toNat).Held).length : Nat)) then (need (inb v1_1 (((gd r6.List r4.1.toNat).Held).length)) <| (F90 (TStored.mk ((gd ((gd r6.List r4.1.toNat).Held) v1_1.toNat).Cat) ((gd ((gd r6.List r4.1.toNat).Held) v1_1.toNat).At) (TFrame.mk (THeader.mk ((((gd ((gd r6.List r4.1.toNat).Held) v1_1.toNat).Frame).Head).Kind) ((((gd ((gd r6.List r4.1.toNat).Held) v1_1.toNat).Frame).Head).Sub) ((((gd ((gd r6.List r4.1.toNat).Held) v1_1.toNat).Frame).Head).ToDs) ((((gd ((gd r6.List r4.1.toNat).Held) v1_1.toNat).Frame).Head).FromDs) ((((gd ((gd r6.List r4.1.toNat).Held) v1_1.toNat).Frame).Head).More) ((((gd ((gd r6.List r4.1.toNat).Held) v1_1.toNat).Frame).Head).Retry) ((((gd ((gd r6.List r4.1.toNat).Held) v1_1.toNat).Frame).Head).Sleep) ((((gd ((gd r6.List r4.1.toNat).Held) v1_1.toNat).Frame).Head).MoreData) ((((gd ((gd r6.List r4.1.toNat).Held) v1_1.toNat).Frame).Head).Protected) ((((gd ((gd r6.List r4.1.toNat).Held) v1_1.toNat).Frame).Head).Duration) (A6u8.mk (((((gd ((gd r6.List r4.1.toNat).Held) v1_1.toNat).Frame).Head).A1).x0) (((((gd ((gd r6.List r4.1.toNat).Held) v1_1.toNat).Frame).Head).A1).x1) (((((gd ((gd r6.List r4.1.toNat).Held) v1_1.toNat).Frame).Head).A1).x2) (((((gd ((gd r6.List r4.1.toNat).Held) v1_1.toNat).Frame).Head).A1).x3) (((((gd ((gd r6.List r4.1.toNat).Held) v1_1.toNat).Frame).Head).A1).x4) (((((gd ((gd r6.List r4.1.toNat).Held) v1_1.toNat).Frame).Head).A1).x5)) (A6u8.mk (((((gd ((gd r6.List r4.1.toNat).Held) v1_1.toNat).Frame).Head).A2).x0) (((((gd ((gd r6.List r4.1.toNat).Held) v1_1.toNat).Frame).Head).A2).x1) (((((gd ((gd r6.List r4.1.toNat).Held) v1_1.toNat).Frame).Head).A2).x2) (((((gd ((gd r6.List r4.1.toNat).Held) v1_1.toNat).Frame).Head).A2).x3) (((((gd ((gd r6.List r4.1.toNat).Held) v1_1.toNat).Frame).Head).A2).x4) (((((gd ((gd r6.List r4.1.toNat).Held) v1_1.toNat).Frame).Head).A2).x5)) (A6u8.mk (((((gd ((gd r6.List r4.1.toNat).Held) v1_1.toNat).Frame).Head).A3).x0) (((((gd ((gd r6.List r4.1.toNat).Held) v1_1.toNat).Frame).Head).A3).x1) (((((gd ((gd r6.List r4.1.toNat).Held) v1_1.toNat).Frame).Head).A3).x2) (((((gd ((gd r6.List r4.1.toNat).Held) v1_1.toNat).Frame).Head).A3).x3) (((((gd ((gd r6.List r4.1.toNat).Held) v1_1.toNat).Frame).Head).A3).x4) (((((gd ((gd r6.List r4.1.toNat).Held) v1_1.toNat).Frame).Head).A3).x5)) (A6u8.mk (((((gd ((gd r6.List r4.1.toNat).Held) v1_1.toNat).Frame).Head).A4).x0) (((((gd ((gd r6.List r4.1.toNat).Held) v1_1.toNat).Frame).Head).A4).x1) (((((gd ((gd r6.List r4.1.toNat).Held) v1_1.toNat).Frame).Head).A4).x2) (((((gd ((gd r6.List r4.1.toNat).Held) v1_1.toNat).Frame).Head).A4).x3) (((((gd ((gd r6.List r4.1.toNat).Held) v1_1.toNat).Frame).Head).A4).x4) (((((gd ((gd r6.List r4.1.toNat).Held) v1_1.toNat).Frame).Head).A4).x5)) ((((gd ((gd r6.List r4.1.toNat).Held) v1_1.toNat).Frame).Head).Seq) ((((gd ((gd r6.List r4.1.toNat).Held) v1_1.toNat).Frame).Head).Frag) ((((gd ((gd r6.List r4.1.toNat).Held) v1_1.toNat).Frame).Head).Tid) ((((gd ((gd r6.List r4.1.toNat).Held) v1_1.toNat).Frame).Head).Ack) ((((gd ((gd r6.List r4.1.toNat).Held) v1_1.toNat).Frame).Head).Amsdu) ((((gd ((gd r6.List r4.1.toNat).Held) v1_1.toNat).Frame).Head).Eosp)) (((gd ((gd r6.List r4.1.toNat).Held) v1_1.toNat).Frame).Body))) v1_2).bind fun r16 => bif (bLt r16 0) then (need (inb v1_1 (((gd r6.List r4.1.toNat).Held).length)) <| some (.next (wr .i64 (v1_1 + 1), (TStored.mk ((gd ((gd r6.List r4.1.toNat).Held) v1_1.toNat).Cat) ((gd ((gd r6.List r4.1.toNat).Held) v1_1.toNat).At) (TFrame.mk (THeader.mk ((((gd ((gd r6.List r4.1.toNat).Held) v1_1.toNat).Frame).Head).Kind) ((((gd ((gd r6.List r4.1.toNat).Held) v1_1.toNat).Frame).Head).Sub) ((((gd ((gd r6.List r4.1.toNat).Held) v1_1.toNat).Frame).Head).ToDs) ((((gd ((gd r6.List r4.1.toNat).Held) v1_1.toNat).Frame).Head).FromDs) ((((gd ((gd r6.List r4.1.toNat).Held) v1_1.toNat).Frame).Head).More) ((((gd ((gd r6.List r4.1.toNat).Held) v1_1.toNat).Frame).Head).Retry) ((((gd ((gd r6.List r4.1.toNat).Held) v1_1.toNat).Frame).Head).Sleep) ((((gd ((gd r6.List r4.1.toNat).Held) v1_1.toNat).Frame).Head).MoreData) ((((gd ((gd r6.List r4.1.toNat).Held) v1_1.toNat).Frame).Head).Protected) ((((gd ((gd r6.List r4.1.toNat).Held) v1_1.toNat).Frame).Head).Duration) (A6u8.mk (((((gd ((gd r6.List r4.1.toNat).Held) v1_1.toNat).Frame).Head).A1).x0) (((((gd ((gd r6.List r4.1.toNat).Held) v1_1.toNat).Frame).Head).A1).x1) (((((gd ((gd r6.List r4.1.toNat).Held) v1_1.toNat).Frame).Head).A1).x2) (((((gd ((gd r6.List r4.1.toNat).Held) v1_1.toNat).Frame).Head).A1).x3) (((((gd ((gd r6.List r4.1.toNat).Held) v1_1.toNat).Frame).Head).A1).x4) (((((gd ((gd r6.List r4.1.toNat).Held) v1_1.toNat).Frame).Head).A1).x5)) (A6u8.mk (((((gd ((gd r6.List r4.1.toNat).Held) v1_1.toNat).Frame).Head).A2).x0) (((((gd ((gd r6.List r4.1.toNat).Held) v1_1.toNat).Frame).Head).A2).x1) (((((gd ((gd r6.List r4.1.toNat).Held) v1_1.toNat).Frame).Head).A2).x2) (((((gd ((gd r6.List r4.1.toNat).Held) v1_1.toNat).Frame).Head).A2).x3) (((((gd ((gd r6.List r4.1.toNat).Held) v1_1.toNat).Frame).Head).A2).x4) (((((gd ((gd r6.List r4.1.toNat).Held) v1_1.toNat).Frame).Head).A2).x5)) (A6u8.mk (((((gd ((gd r6.List r4.1.toNat).Held) v1_1.toNat).Frame).Head).A3).x0) (((((gd ((gd r6.List r4.1.toNat).Held) v1_1.toNat).Frame).Head).A3).x1) (((((gd ((gd r6.List r4.1.toNat).Held) v1_1.toNat).Frame).Head).A3).x2) (((((gd ((gd r6.List r4.1.toNat).Held) v1_1.toNat).Frame).Head).A3).x3) (((((gd ((gd r6.List r4.1.toNat).Held) v1_1.toNat).Frame).Head).A3).x4) (((((gd ((gd r6.List r4.1.toNat).Held) v1_1.toNat).Frame).Head).A3).x5)) (A6u8.mk (((((gd ((gd r6.List r4.1.toNat).Held) v1_1.toNat).Frame).Head).A4).x0) (((((gd ((gd r6.List r4.1.toNat).Held) v1_1.toNat).Frame).Head).A4).x1) (((((gd ((gd r6.List r4.1.toNat).Held) v1_1.toNat).Frame).Head).A4).x2) (((((gd ((gd r6.List r4.1.toNat).Held) v1_1.toNat).Frame).Head).A4).x3) (((((gd ((gd r6.List r4.1.toNat).Held) v1_1.toNat).Frame).Head).A4).x4) (((((gd ((gd r6.List r4.1.toNat).Held) v1_1.toNat).Frame).Head).A4).x5)) ((((gd ((gd r6.List r4.1.toNat).Held) v1_1.toNat).Frame).Head).Seq) ((((gd ((gd r6.List r4.1.toNat).Held) v1_1.toNat).Frame).Head).Frag) ((((gd ((gd r6.List r4.1.toNat).Held) v1_1.toNat).Frame).Head).Tid) ((((gd ((gd r6.List r4.1.toNat).Held) v1_1.toNat).Frame).Head).Ack) ((((gd ((gd r6.List r4.1.toNat).Held) v1_1.toNat).Frame).Head).Amsdu) ((((gd ((gd r6.List r4.1.toNat).Held) v1_1.toNat).Frame).Head).Eosp)) (((gd ((gd r6.List r4.1.toNat).Held) v1_1.toNat).Frame).Body)))))) else (some (.next (wr .i64 (v1_1 + 1), v1_2)))) else (some (.done (.inl v1_2)))
noncomputable def F24 (p0 : TBuffer) (p1 : Int) (p2 : Int) (p3 : TFrame) (p4 : Int) : Option ((List TFrame) × (List TFrame) × TBuffer × Int) :=
  (F18 p0).bind fun r1 => bif (!bEq r1 0) then (bif (!bEq r1 0) then (some ([], [], (TBuffer.mk 0 0 [] []), r1)) else (need (bif (!(bLt 3 p2)) then ((F61 p4).isSome) else true) <| bif ((bLt 3 p2) || (!(gt (F61 p4)))) then (some ([], [], (TBuffer.mk 0 0 [] []), 2)) else (none))) else (bif ((bLt p1 1) || (bLt 255 p1)) then (some ([], [], (TBuffer.mk 0 0 [] []), 2)) else ((F81 p0 p1).bind fun r4 => bif (!r4.2) then (some ([], [], (TBuffer.mk 0 0 [] []), 6)) else ((F65f r4.1.toNat p0).bind fun r6 => need (inb r4.1 r6.List.length) <| need (bif (!(bLt 3 p2)) then ((F61 p4).isSome) else true) <| bif ((bLt 3 p2) || (!(gt (F61 p4)))) then (some ([], [], (TBuffer.mk 0 0 [] []), 2)) else ((F62 ((gd r6.List r4.1.toNat).Held) p4).bind fun r10 => bif r10 then (some ([], [], (TBuffer.mk 0 0 [] []), 20)) else ((F63 p3).bind fun r12 => bif (gd r6.List r4.1.toNat).Asleep then (bif (bEq (((gd r6.List r4.1.toNat).Held).length : Nat) r6.Limit) then (bif (bLt (((gd r6.List r4.1.toNat).Held).length : Nat) 1) then (none) else (need (inb 0 (((gd r6.List r4.1.toNat).Held).length)) <| lp (loopD (fun s => F24_L1 r4 r6 s.1 s.2) (1, (TStored.mk ((gd ((gd r6.List r4.1.toNat).Held) 0).Cat) ((gd ((gd r6.List r4.1.toNat).Held) 0).At) (TFrame.mk (THeader.mk ((((gd ((gd r6.List r4.1.toNat).Held) 0).Frame).Head).Kind) ((((gd ((gd r6.List r4.1.toNat).Held) 0).Frame).Head).Sub) ((((gd ((gd r6.List r4.1.toNat).Held) 0).Frame).Head).ToDs) ((((gd ((gd r6.List r4.1.toNat).Held) 0).Frame).Head).FromDs) ((((gd ((gd r6.List r4.1.toNat).Held) 0).Frame).Head).More) ((((gd ((gd r6.List r4.1.toNat).Held) 0).Frame).Head).Retry) ((((gd ((gd r6.List r4.1.toNat).Held) 0).Frame).Head).Sleep) ((((gd ((gd r6.List r4.1.toNat).Held) 0).Frame).Head).MoreData) ((((gd ((gd r6.List r4.1.toNat).Held) 0).Frame).Head).Protected) ((((gd ((gd r6.List r4.1.toNat).Held) 0).Frame).Head).Duration) (A6u8.mk (((((gd ((gd r6.List r4.1.toNat).Held) 0).Frame).Head).A1).x0) (((((gd ((gd r6.List r4.1.toNat).Held) 0).Frame).Head).A1).x1) (((((gd ((gd r6.List r4.1.toNat).Held) 0).Frame).Head).A1).x2) (((((gd ((gd r6.List r4.1.toNat).Held) 0).Frame).Head).A1).x3) (((((gd ((gd r6.List r4.1.toNat).Held) 0).Frame).Head).A1).x4) (((((gd ((gd r6.List r4.1.toNat).Held) 0).Frame).Head).A1).x5)) (A6u8.mk (((((gd ((gd r6.List r4.1.toNat).Held) 0).Frame).Head).A2).x0) (((((gd ((gd r6.List r4.1.toNat).Held) 0).Frame).Head).A2).x1) (((((gd ((gd r6.List r4.1.toNat).Held) 0).Frame).Head).A2).x2) (((((gd ((gd r6.List r4.1.toNat).Held) 0).Frame).Head).A2).x3) (((((gd ((gd r6.List r4.1.toNat).Held) 0).Frame).Head).A2).x4) (((((gd ((gd r6.List r4.1.toNat).Held) 0).Frame).Head).A2).x5)) (A6u8.mk (((((gd ((gd r6.List r4.1.toNat).Held) 0).Frame).Head).A3).x0) (((((gd ((gd r6.List r4.1.toNat).Held) 0).Frame).Head).A3).x1) (((((gd ((gd r6.List r4.1.toNat).Held) 0).Frame).Head).A3).x2) (((((gd ((gd r6.List r4.1.toNat).Held) 0).Frame).Head).A3).x3) (((((gd ((gd r6.List r4.1.toNat).Held) 0).Frame).Head).A3).x4) (((((gd ((gd r6.List r4.1.toNat).Held) 0).Frame).Head).A3).x5)) (A6u8.mk (((((gd ((gd r6.List r4.1.toNat).Held) 0).Frame).Head).A4).x0) (((((gd ((gd r6.List r4.1.toNat).Held) 0).Frame).Head).A4).x1) (((((gd ((gd r6.List r4.1.toNat).Held) 0).Frame).Head).A4).x2) (((((gd ((gd r6.List r4.1.toNat).Held) 0).Frame).Head).A4).x3) (((((gd ((gd r6.List r4.1.toNat).Held) 0).Frame).Head).A4).x4) (((((gd ((gd r6.List r4.1.toNat).Held) 0).Frame).Head).A4).x5)) ((((gd ((gd r6.List r4.1.toNat).Held) 0).Frame).Head).Seq) ((((gd ((gd r6.List r4.1.toNat).Held) 0).Frame).Head).Frag) ((((gd ((gd r6.List r4.1.toNat).Held) 0).Frame).Head).Tid) ((((gd ((gd r6.List r4.1.toNat).Held) 0).Frame).Head).Ack) ((((gd ((gd r6.List r4.1.toNat).Held) 0).Frame).Head).Amsdu) ((((gd ((gd r6.List r4.1.toNat).Held) 0).Frame).Head).Eosp)) (((gd ((gd r6.List r4.1.toNat).Held) 0).Frame).Body))))) (fun w1_6 => bif (bLt p2 w1_6.Cat) then ((some (r6.List.set r4.1.toNat (TSleeper.mk ((gd r6.List r4.1.toNat).Aid) ((gd r6.List r4.1.toNat).Asleep) ((gd r6.List r4.1.toNat).Held)))).bind fun w19 => (some [r12]).bind fun w21 => some ([], w21, (TBuffer.mk r6.Limit r6.Stay w19 r6.Group), 0)) else ((F58_0 ((gd r6.List r4.1.toNat).Held) w1_6.Cat).bind fun r23 => need (inb r23 (((gd r6.List r4.1.toNat).Held).length)) <| need (delb r23 (wr .i64 (r23 + 1)) (((gd r6.List r4.1.toNat).Held).length)) <| (some [(TFrame.mk (THeader.mk ((((gd ((gd r6.List r4.1.toNat).Held) r23.toNat).Frame).Head).Kind) ((((gd ((gd r6.List r4.1.toNat).Held) r23.toNat).Frame).Head).Sub) ((((gd ((gd r6.List r4.1.toNat).Held) r23.toNat).Frame).Head).ToDs) ((((gd ((gd r6.List r4.1.toNat).Held) r23.toNat).Frame).Head).FromDs) ((((gd ((gd r6.List r4.1.toNat).Held) r23.toNat).Frame).Head).More) ((((gd ((gd r6.List r4.1.toNat).Held) r23.toNat).Frame).Head).Retry) ((((gd ((gd r6.List r4.1.toNat).Held) r23.toNat).Frame).Head).Sleep) ((((gd ((gd r6.List r4.1.toNat).Held) r23.toNat).Frame).Head).MoreData) ((((gd ((gd r6.List r4.1.toNat).Held) r23.toNat).Frame).Head).Protected) ((((gd ((gd r6.List r4.1.toNat).Held) r23.toNat).Frame).Head).Duration) (A6u8.mk (((((gd ((gd r6.List r4.1.toNat).Held) r23.toNat).Frame).Head).A1).x0) (((((gd ((gd r6.List r4.1.toNat).Held) r23.toNat).Frame).Head).A1).x1) (((((gd ((gd r6.List r4.1.toNat).Held) r23.toNat).Frame).Head).A1).x2) (((((gd ((gd r6.List r4.1.toNat).Held) r23.toNat).Frame).Head).A1).x3) (((((gd ((gd r6.List r4.1.toNat).Held) r23.toNat).Frame).Head).A1).x4) (((((gd ((gd r6.List r4.1.toNat).Held) r23.toNat).Frame).Head).A1).x5)) (A6u8.mk (((((gd ((gd r6.List r4.1.toNat).Held) r23.toNat).Frame).Head).A2).x0) (((((gd ((gd r6.List r4.1.toNat).Held) r23.toNat).Frame).Head).A2).x1) (((((gd ((gd r6.List r4.1.toNat).Held) r23.toNat).Frame).Head).A2).x2) (((((gd ((gd r6.List r4.1.toNat).Held) r23.toNat).Frame).Head).A2).x3) (((((gd ((gd r6.List r4.1.toNat).Held) r23.toNat).Frame).Head).A2).x4) (((((gd ((gd r6.List r4.1.toNat).Held) r23.toNat).Frame).Head).A2).x5)) (A6u8.mk (((((gd ((gd r6.List r4.1.toNat).Held) r23.toNat).Frame).Head).A3).x0) (((((gd ((gd r6.List r4.1.toNat).Held) r23.toNat).Frame).Head).A3).x1) (((((gd ((gd r6.List r4.1.toNat).Held) r23.toNat).Frame).Head).A3).x2) (((((gd ((gd r6.List r4.1.toNat).Held) r23.toNat).Frame).Head).A3).x3) (((((gd ((gd r6.List r4.1.toNat).Held) r23.toNat).Frame).Head).A3).x4) (((((gd ((gd r6.List r4.1.toNat).Held) r23.toNat).Frame).Head).A3).x5)) (A6u8.mk (((((gd ((gd r6.List r4.1.toNat).Held) r23.toNat).Frame).Head).A4).x0) (((((gd ((gd r6.List r4.1.toNat).Held) r23.toNat).Frame).Head).A4).x1) (((((gd ((gd r6.List r4.1.toNat).Held) r23.toNat).Frame).Head).A4).x2) (((((gd ((gd r6.List r4.1.toNat).Held) r23.toNat).Frame).Head).A4).x3) (((((gd ((gd r6.List r4.1.toNat).Held) r23.toNat).Frame).Head).A4).x4) (((((gd ((gd r6.List r4.1.toNat).Held) r23.toNat).Frame).Head).A4).x5)) ((((gd ((gd r6.List r4.1.toNat).Held) r23.toNat).Frame).Head).Seq) ((((gd ((gd r6.List r4.1.toNat).Held) r23.toNat).Frame).Head).Frag) ((((gd ((gd r6.List r4.1.toNat).Held) r23.toNat).Frame).Head).Tid) ((((gd ((gd r6.List r4.1.toNat).Held) r23.toNat).Frame).Head).Ack) ((((gd ((gd r6.List r4.1.toNat).Held) r23.toNat).Frame).Head).Amsdu) ((((gd ((gd r6.List r4.1.toNat).Held) r23.toNat).Frame).Head).Eosp)) (((gd ((gd r6.List r4.1.toNat).Held) r23.toNat).Frame).Body))]).bind fun w27 => (some (delL ((gd r6.List r4.1.toNat).Held) r23 (wr .i64 (r23 + 1)))).bind fun w29 => need (capb 120 (w29.length + 1)) <| (some [(TStored.mk p2 p4 (TFrame.mk (THeader.mk r12.Head.Kind r12.Head.Sub r12.Head.ToDs r12.Head.FromDs r12.Head.More r12.Head.Retry r12.Head.Sleep r12.Head.MoreData r12.Head.Protected r12.Head.Duration (A6u8.mk r12.Head.A1.x0 r12.Head.A1.x1 r12.Head.A1.x2 r12.Head.A1.x3 r12.Head.A1.x4 r12.Head.A1.x5) (A6u8.mk r12.Head.A2.x0 r12.Head.A2.x1 r12.Head.A2.x2 r12.Head.A2.x3 r12.Head.A2.x4 r12.Head.A2.x5) (A6u8.mk r12.Head.A3.x0 r12.Head.A3.x1 r12.Head.A3.x2 r12.Head.A3.x3 r12.Head.A3.x4 r12.Head.A3.x5) (A6u8.mk r12.Head.A4.x0 r12.Head.A4.x1 r12.Head.A4.x2 r12.Head.A4.x3 r12.Head.A4.x4 r12.Head.A4.x5) r12.Head.Seq r12.Head.Frag r12.Head.Tid r12.Head.Ack r12.Head.Amsdu r12.Head.Eosp) r12.Body))]).bind fun w32 => (some (w29 ++ [(TStored.mk p2 p4 (TFrame.mk (THeader.mk r12.Head.Kind r12.Head.Sub r12.Head.ToDs r12.Head.FromDs r12.Head.More r12.Head.Retry r12.Head.Sleep r12.Head.MoreData r12.Head.Protected r12.Head.Duration (A6u8.mk r12.Head.A1.x0 r12.Head.A1.x1 r12.Head.A1.x2 r12.Head.A1.x3 r12.Head.A1.x4 r12.Head.A1.x5) (A6u8.mk r12.Head.A2.x0 r12.Head.A2.x1 r12.Head.A2.x2 r12.Head.A2.x3 r12.Head.A2.x4 r12.Head.A2.x5) (A6u8.mk r12.Head.A3.x0 r12.Head.A3.x1 r12.Head.A3.x2 r12.Head.A3.x3 r12.Head.A3.x4 r12.Head.A3.x5) (A6u8.mk r12.Head.A4.x0 r12.Head.A4.x1 r12.Head.A4.x2 r12.Head.A4.x3 r12.Head.A4.x4 r12.Head.A4.x5) r12.Head.Seq r12.Head.Frag r12.Head.Tid r12.Head.Ack r12.Head.Amsdu r12.Head.Eosp) r12.Body))])).bind fun w34 => (some (r6.List.set r4.1.toNat (TSleeper.mk ((gd r6.List r4.1.toNat).Aid) ((gd r6.List r4.1.toNat).Asleep) w34))).bind fun w36 => some ([], w27, (TBuffer.mk r6.Limit r6.Stay w36 r6.Group), 0))) some)) else (need (capb 120 (((gd r6.List r4.1.toNat).Held).length + 1)) <| (some [(TStored.mk p2 p4 (TFrame.mk (THeader.mk r12.Head.Kind r12.Head.Sub r12.Head.ToDs r12.Head.FromDs r12.Head.More r12.Head.Retry r12.Head.Sleep r12.Head.MoreData r12.Head.Protected r12.Head.Duration (A6u8.mk r12.Head.A1.x0 r12.Head.A1.x1 r12.Head.A1.x2 r12.Head.A1.x3 r12.Head.A1.x4 r12.Head.A1.x5) (A6u8.mk r12.Head.A2.x0 r12.Head.A2.x1 r12.Head.A2.x2 r12.Head.A2.x3 r12.Head.A2.x4 r12.Head.A2.x5) (A6u8.mk r12.Head.A3.x0 r12.Head.A3.x1 r12.Head.A3.x2 r12.Head.A3.x3 r12.Head.A3.x4 r12.Head.A3.x5) (A6u8.mk r12.Head.A4.x0 r12.Head.A4.x1 r12.Head.A4.x2 r12.Head.A4.x3 r12.Head.A4.x4 r12.Head.A4.x5) r12.Head.Seq r12.Head.Frag r12.Head.Tid r12.Head.Ack r12.Head.Amsdu r12.Head.Eosp) r12.Body))]).bind fun w39 => (some ((gd r6.List r4.1.toNat).Held ++ [(TStored.mk p2 p4 (TFrame.mk (THeader.mk r12.Head.Kind r12.Head.Sub r12.Head.ToDs r12.Head.FromDs r12.Head.More r12.Head.Retry r12.Head.Sleep r12.Head.MoreData r12.Head.Protected r12.Head.Duration (A6u8.mk r12.Head.A1.x0 r12.Head.A1.x1 r12.Head.A1.x2 r12.Head.A1.x3 r12.Head.A1.x4 r12.Head.A1.x5) (A6u8.mk r12.Head.A2.x0 r12.Head.A2.x1 r12.Head.A2.x2 r12.Head.A2.x3 r12.Head.A2.x4 r12.Head.A2.x5) (A6u8.mk r12.Head.A3.x0 r12.Head.A3.x1 r12.Head.A3.x2 r12.Head.A3.x3 r12.Head.A3.x4 r12.Head.A3.x5) (A6u8.mk r12.Head.A4.x0 r12.Head.A4.x1 r12.Head.A4.x2 r12.Head.A4.x3 r12.Head.A4.x4 r12.Head.A4.x5) r12.Head.Seq r12.Head.Frag r12.Head.Tid r12.Head.Ack r12.Head.Amsdu r12.Head.Eosp) r12.Body))])).bind fun w41 => (some (r6.List.set r4.1.toNat (TSleeper.mk ((gd r6.List r4.1.toNat).Aid) ((gd r6.List r4.1.toNat).Asleep) w41))).bind fun w43 => some ([], [], (TBuffer.mk r6.Limit r6.Stay w43 r6.Group), 0))) else ((F52_0 [r12]).bind fun r45 => (some (r6.List.set r4.1.toNat (TSleeper.mk ((gd r6.List r4.1.toNat).Aid) ((gd r6.List r4.1.toNat).Asleep) ((gd r6.List r4.1.toNat).Held)))).bind fun w47 => some (r45, [], (TBuffer.mk r6.Limit r6.Stay w47 r6.Group), 0)))))))
noncomputable def body24 : List AV -> Nat -> AR
  | [v0, v1, v2, v3, v4], _ => .pure (aK 4 k_TBuffer v0 /\ iK .i64 v1 /\ iK .u8 v2 /\ aK 41 k_TFrame v3 /\ iK .i64 v4 /\ (F24 (g_TBuffer (aL v0)) (iA v1) (iA v2) (g_TFrame (aL v3)) (iA v4)).isSome = true) (.tup [.ro 41 (((gt (F24 (g_TBuffer (aL v0)) (iA v1) (iA v2) (g_TFrame (aL v3)) (iA v4))).1).length) false (enR c_TFrame ((gt (F24 (g_TBuffer (aL v0)) (iA v1) (iA v2) (g_TFrame (aL v3)) (iA v4))).1)), .ro 41 (((gt (F24 (g_TBuffer (aL v0)) (iA v1) (iA v2) (g_TFrame (aL v3)) (iA v4))).2.1).length) false (enR c_TFrame ((gt (F24 (g_TBuffer (aL v0)) (iA v1) (iA v2) (g_TFrame (aL v3)) (iA v4))).2.1)), .agg [.int .i64 (((gt (F24 (g_TBuffer (aL v0)) (iA v1) (iA v2) (g_TFrame (aL v3)) (iA v4))).2.2.1).Limit), .int .i64 (((gt (F24 (g_TBuffer (aL v0)) (iA v1) (iA v2) (g_TFrame (aL v3)) (iA v4))).2.2.1).Stay), .ro 3 ((((gt (F24 (g_TBuffer (aL v0)) (iA v1) (iA v2) (g_TFrame (aL v3)) (iA v4))).2.2.1).List).length) false (enR c_TSleeper (((gt (F24 (g_TBuffer (aL v0)) (iA v1) (iA v2) (g_TFrame (aL v3)) (iA v4))).2.2.1).List)), .ro 43 ((((gt (F24 (g_TBuffer (aL v0)) (iA v1) (iA v2) (g_TFrame (aL v3)) (iA v4))).2.2.1).Group).length) false (enR c_TStored (((gt (F24 (g_TBuffer (aL v0)) (iA v1) (iA v2) (g_TFrame (aL v3)) (iA v4))).2.2.1).Group))], .int .i64 ((gt (F24 (g_TBuffer (aL v0)) (iA v1) (iA v2) (g_TFrame (aL v3)) (iA v4))).2.2.2)])
  | _, _ => .fail
theorem ok24 : FnOk Try.prog 24 (genC body24) := by
  refine gen_fn body24 (rs := [.tmp 10, .tmp 11, .cell 12 25, .tmp 13]) Try.func24 (by kernel_rfl) rfl rfl ?_
  intro l s ob v ns hb hob
  rcases hb with ⟨hb, rfl⟩ | hb
  · unfold body24 at hb
    split at hb
    · rename_i v0 v1 v2 v3 v4
      injection hb with q1 q2; subst q1 q2
      obtain ⟨hk0_0, hk1_0, hk2_0, hk3_0, hk4_0, hob⟩ := hob
      obtain ⟨r, H⟩ := Option.isSome_iff_exists.1 hob
      rw [H, gt_some]
      have hw0 := wA_TBuffer hk0_0
      have hw1 := iK_wk hk1_0
      have hw2 := iK_wk hk2_0
      have hw3 := wA_TFrame hk3_0
      have hw4 := iK_wk hk4_0
      generalize g_TBuffer (aL v0) = p0 at H hw0
      generalize iA v1 = p1 at H hw1
      generalize iA v2 = p2 at H hw2
      generalize g_TFrame (aL v3) = p3 at H hw3
      generalize iA v4 = p4 at H hw4
      refine ⟨[.agg [.int .i64 p0.Limit, .int .i64 p0.Stay, .ro 3 p0.List.length false (enR c_TSleeper p0.List), .ro 43 p0.Group.length false (enR c_TStored p0.Group)], .int .i64 p1, .int .u8 p2, .agg (.int .u8 p3.Head.Kind :: .int .u8 p3.Head.Sub :: .bool p3.Head.ToDs :: .bool p3.Head.FromDs :: .bool p3.Head.More :: .bool p3.Head.Retry :: .bool p3.Head.Sleep :: .bool p3.Head.MoreData :: .bool p3.Head.Protected :: .int .i64 p3.Head.Duration :: .int .u8 p3.Head.A1.x0 :: .int .u8 p3.Head.A1.x1 :: .int .u8 p3.Head.A1.x2 :: .int .u8 p3.Head.A1.x3 :: .int .u8 p3.Head.A1.x4 :: .int .u8 p3.Head.A1.x5 :: .int .u8 p3.Head.A2.x0 :: .int .u8 p3.Head.A2.x1 :: .int .u8 p3.Head.A2.x2 :: .int .u8 p3.Head.A2.x3 :: .int .u8 p3.Head.A2.x4 :: .int .u8 p3.Head.A2.x5 :: .int .u8 p3.Head.A3.x0 :: .int .u8 p3.Head.A3.x1 :: .int .u8 p3.Head.A3.x2 :: .int .u8 p3.Head.A3.x3 :: .int .u8 p3.Head.A3.x4 :: .int .u8 p3.Head.A3.x5 :: .int .u8 p3.Head.A4.x0 :: .int .u8 p3.Head.A4.x1 :: .int .u8 p3.Head.A4.x2 :: .int .u8 p3.Head.A4.x3 :: .int .u8 p3.Head.A4.x4 :: .int .u8 p3.Head.A4.x5 :: .int .i64 p3.Head.Seq :: .int .i64 p3.Head.Frag :: .int .i64 p3.Head.Tid :: .int .u8 p3.Head.Ack :: .bool p3.Head.Amsdu :: .bool p3.Head.Eosp :: .ro 1 p3.Body.length false (enR c_u8 p3.Body) :: []), .int .i64 p4], .tup [.ro 41 r.1.length false (enR c_TFrame r.1), .ro 41 r.2.1.length false (enR c_TFrame r.2.1), .agg [.int .i64 r.2.2.1.Limit, .int .i64 r.2.2.1.Stay, .ro 3 r.2.2.1.List.length false (enR c_TSleeper r.2.2.1.List), .ro 43 r.2.2.1.Group.length false (enR c_TStored r.2.2.1.Group)], .int .i64 r.2.2.2], [], (fun E vs F => FR_wk1 hw0.1 F (fun vs F => FR_wk1 hw1.1 F (fun vs F => FR_wk1 hw2.1 F (fun vs F => FR_wk1 hw3.1 F (fun vs F => FR_wk1 hw4.1 F (fun vs F => F)))))), by simp only [ren, renL], trivial, ?_⟩
      rw [Try.ntmps24]
      simp only [List.length_cons, List.length_nil, Nat.reduceAdd, Nat.reduceSub, List.replicate_succ, List.replicate_zero, List.cons_append, List.nil_append]
      unfold F24 at H
      try dsimp only at H
      refine sq ctNo_ok ?_
      simp only [go_sem, Nat.reduceAdd]
      refine seqM ?_
      refine regO ?_
      refine cutO shT_ok ctNo_ok 2 ?_
      simp only [kO_normal, List.take_succ_cons, List.take_zero, List.drop_succ_cons, List.drop_zero, go_sem, Nat.reduceLT, Nat.reduceAdd]
      repeat ((with_reducible refine And.intro ?_ ?_); focus (first | (and_intros <;> first | (with_reducible trivial) | omega | assumption | exact nfc | first | exact rfl | exact trivial | exact fitI | exact .inr rfl | exact .inl rfl | exact fun x hx => absurd hx (by omega)) | grind))
      refine inlO (rs := [.tmp 4, .tmp 5, .tmp 6]) Try.func51 (by kernel_rfl) rfl rfl Try.ntmps51 (caps := []) (tc := [.agg [.int .i64 p0.Limit, .int .i64 p0.Stay, .ro 3 p0.List.length false (enR c_TSleeper p0.List), .ro 43 p0.Group.length false (enR c_TStored p0.Group)], .int .i64 p1]) rfl (by simp only [go_sem]) rfl ?_
      simp only [List.length_cons, List.length_nil, Nat.reduceAdd, Nat.reduceSub, List.replicate_succ, List.replicate_zero, List.cons_append, List.nil_append]
      refine sq ctNo_ok ?_
      simp only [go_sem, Nat.reduceAdd]
      refine seqM ?_
      refine seqM ?_
      obtain ⟨r1, e2, H⟩ := bsi H
      refine rg ct24t0_ok ?_
      simp only [go_sem, Nat.reduceLT, Nat.reduceAdd, ct24t0_18, body18, e2]
      repeat ((with_reducible refine And.intro ?_ ?_); focus (first | (and_intros <;> first | (with_reducible trivial) | omega | assumption | exact nfc | first | exact rfl | exact trivial | exact fitI | exact .inr rfl | exact .inl rfl | exact fun x hx => absurd hx (by omega)) | grind))
      refine sq ctNo_ok ?_
      simp only [go_sem]
      refine condM rfl trivial (fun hc => ?_) (fun hc => ?_)
      · replace H := cond_t hc H
        refine sq ctNo_ok ?_
        simp only [go_sem]
        refine rg ctNo_ok ?_
        simp only [go_sem]
        refine cutO shT_ok ctNo_ok 7 ?_
        simp only [kO_normal, List.take_succ_cons, List.take_zero, List.drop_succ_cons, List.drop_zero, go_sem, Nat.reduceLT, Nat.reduceAdd]
        repeat ((with_reducible refine And.intro ?_ ?_); focus (first | (and_intros <;> first | (with_reducible trivial) | omega | assumption | exact nfc | first | exact rfl | exact trivial | exact fitI | exact .inr rfl | exact .inl rfl | exact fun x hx => absurd hx (by omega)) | grind))
        refine endO ?_
        refine seqM ?_
        refine blkM ?_
        refine sq ctNo_ok ?_
        simp only [go_sem]
        refine condM rfl trivial (fun hc => ?_) (fun hc => ?_)
        · replace H := cond_t hc H
          refine sq ctNo_ok ?_
          simp only [go_sem, Nat.reduceAdd]
          repeat ((with_reducible refine And.intro ?_ ?_); focus (first | (with_reducible trivial) | omega | grind))
          refine rg ctNo_ok ?_
          simp only [go_sem, Nat.reduceLT, Nat.reduceAdd]
          obtain rfl := Option.some.inj H
          refine ⟨[0, 1, 2, 3], ?_, ?_, [], ?_, ?_, rfl⟩
          · simp only [go_sem]
            try (and_intros <;> first | (with_reducible trivial) | omega | exact nfc | trivial)
          · simp only [go_sem]
            try (and_intros <;> first | (with_reducible trivial) | omega | exact nfc | trivial)
          · simp only [go_sem]
            exact Cv_tup (CvL_cons (Cv_ronil (α := TFrame)) (CvL_cons (Cv_ronil (α := TFrame)) (CvL_cons (Cv_agg (CvL_cons Cv_int (CvL_cons Cv_int (CvL_cons (Cv_ronil (α := TSleeper)) (CvL_cons (Cv_ronil (α := TStored)) CvL_nil))))) (CvL_cons Cv_int CvL_nil))))
          · simp only [go_sem, CvH]
        replace H := cond_f hc H
        refine seqM ?_
        obtain ⟨f3, H⟩ := need_some.1 H
        replace f3 := g_iff.1 f3
        refine rg ct24t1_ok ?_
        simp only [go_sem, ct24t1_61, body61]
        repeat ((with_reducible refine And.intro ?_ ?_); focus (first | (with_reducible trivial) | omega | exact f3 | (intro g; have q := f3 (by first | exact g | (rw [g]; rfl) | simpa using g); first | exact q | exact ⟨q.1, q.2.1⟩ | exact q.2.2 | omega | exact ⟨g, q⟩ | exact ⟨trivial, q⟩ | exact ⟨g, q.1, q.2.1⟩ | exact ⟨g, q.2.2⟩) | (intro g; (try have q0 := f3 (by first | exact g | (rw [g]; rfl) | simpa using g)); and_intros <;> first | (with_reducible trivial) | assumption | exact nfc | (intro g2; rw [g, g2]; rfl) | (intro g2; assumption) | (simp only [g, Bool.true_and, Bool.and_true, Bool.not_false, Bool.not_true]; assumption) | grind) | (and_intros <;> first | (with_reducible trivial) | omega | assumption | exact nfc | first | exact rfl | exact trivial | exact fitI | exact .inr rfl | exact .inl rfl | exact fun x hx => absurd hx (by omega)) | grind))
        refine condM' rfl trivial (fun hc => ?_) (fun hc => ?_)
        · replace H := cond_f hc H
          refine seqM ?_
          cases H
        replace H := cond_t hc H
        refine sq ctNo_ok ?_
        simp only [go_sem, Nat.reduceAdd]
        repeat ((with_reducible refine And.intro ?_ ?_); focus (first | (with_reducible trivial) | omega | grind))
        refine rg ctNo_ok ?_
        simp only [go_sem, Nat.reduceLT, Nat.reduceAdd]
        obtain rfl := Option.some.inj H
        refine ⟨[0, 1, 2, 3], ?_, ?_, [], ?_, ?_, rfl⟩
        · simp only [go_sem]
          try (and_intros <;> first | (with_reducible trivial) | omega | exact nfc | trivial)
        · simp only [go_sem]
          try (and_intros <;> first | (with_reducible trivial) | omega | exact nfc | trivial)
        · simp only [go_sem]
          exact Cv_tup (CvL_cons (Cv_ronil (α := TFrame)) (CvL_cons (Cv_ronil (α := TFrame)) (CvL_cons (Cv_agg (CvL_cons Cv_int (CvL_cons Cv_int (CvL_cons (Cv_ronil (α := TSleeper)) (CvL_cons (Cv_ronil (α := TStored)) CvL_nil))))) (CvL_cons Cv_int CvL_nil))))
        · simp only [go_sem, CvH]
      replace H := cond_f hc H
      refine rg ctNo_ok ?_
      simp only [go_sem]
      refine seqM ?_
      refine sq ctNo_ok ?_
      simp only [go_sem]
      repeat ((with_reducible refine And.intro ?_ ?_); focus (first | (with_reducible trivial) | omega | grind))
      refine condM rfl trivial (fun hc => ?_) (fun hc => ?_)
      · replace H := cond_t hc H
        refine sq ctNo_ok ?_
        simp only [go_sem]
        refine rg ctNo_ok ?_
        simp only [go_sem]
        refine cutO shT_ok ctNo_ok 7 ?_
        simp only [kO_normal, List.take_succ_cons, List.take_zero, List.drop_succ_cons, List.drop_zero, go_sem, Nat.reduceLT, Nat.reduceAdd]
        repeat ((with_reducible refine And.intro ?_ ?_); focus (first | (and_intros <;> first | (with_reducible trivial) | omega | assumption | exact nfc | first | exact rfl | exact trivial | exact fitI | exact .inr rfl | exact .inl rfl | exact fun x hx => absurd hx (by omega)) | grind))
        refine endO ?_
        refine seqM ?_
        refine blkM ?_
        refine sq ctNo_ok ?_
        simp only [go_sem, (by decide : bEq (2) (0) = false)]
        refine condM rfl trivial (fun hc => ?_) (fun hc => ?_)
        rotate_left
        · cases hc
        refine sq ctNo_ok ?_
        simp only [go_sem, Nat.reduceAdd]
        repeat ((with_reducible refine And.intro ?_ ?_); focus (first | (with_reducible trivial) | omega | grind))
        refine rg ctNo_ok ?_
        simp only [go_sem, Nat.reduceLT, Nat.reduceAdd]
        obtain rfl := Option.some.inj H
        refine ⟨[0, 1, 2, 3], ?_, ?_, [], ?_, ?_, rfl⟩
        · simp only [go_sem]
          try (and_intros <;> first | (with_reducible trivial) | omega | exact nfc | trivial)
        · simp only [go_sem]
          try (and_intros <;> first | (with_reducible trivial) | omega | exact nfc | trivial)
        · simp only [go_sem]
          exact Cv_tup (CvL_cons (Cv_ronil (α := TFrame)) (CvL_cons (Cv_ronil (α := TFrame)) (CvL_cons (Cv_agg (CvL_cons Cv_int (CvL_cons Cv_int (CvL_cons (Cv_ronil (α := TSleeper)) (CvL_cons (Cv_ronil (α := TStored)) CvL_nil))))) (CvL_cons Cv_int CvL_nil))))
        · simp only [go_sem, CvH]
      replace H := cond_f hc H
      refine rg ctNo_ok ?_
      simp only [go_sem]
      refine seqM ?_
      obtain ⟨r4, e5, H⟩ := bsi H
      refine rg ct24t2_ok ?_
      simp only [go_sem, Nat.reduceLT, Nat.reduceAdd, ct24t2_81, body81, e5]
      repeat ((with_reducible refine And.intro ?_ ?_); focus (first | (and_intros <;> first | (with_reducible trivial) | omega | assumption | exact nfc | first | exact rfl | exact trivial | exact fitI | exact .inr rfl | exact .inl rfl | exact fun x hx => absurd hx (by omega)) | grind))
      refine seqM ?_
      refine sq ctNo_ok ?_
      simp only [go_sem]
      refine condM rfl trivial (fun hc => ?_) (fun hc => ?_)
      · replace H := cond_t hc H
        refine sq ctNo_ok ?_
        simp only [go_sem]
        refine rg ctNo_ok ?_
        simp only [go_sem]
        refine cutO shT_ok ctNo_ok 7 ?_
        simp only [kO_normal, List.take_succ_cons, List.take_zero, List.drop_succ_cons, List.drop_zero, go_sem, Nat.reduceLT, Nat.reduceAdd]
        repeat ((with_reducible refine And.intro ?_ ?_); focus (first | (and_intros <;> first | (with_reducible trivial) | omega | assumption | exact nfc | first | exact rfl | exact trivial | exact fitI | exact .inr rfl | exact .inl rfl | exact fun x hx => absurd hx (by omega)) | grind))
        refine endO ?_
        refine seqM ?_
        refine blkM ?_
        refine sq ctNo_ok ?_
        simp only [go_sem, (by decide : bEq (6) (0) = false)]
        refine condM rfl trivial (fun hc => ?_) (fun hc => ?_)
        rotate_left
        · cases hc
        refine sq ctNo_ok ?_
        simp only [go_sem, Nat.reduceAdd]
        repeat ((with_reducible refine And.intro ?_ ?_); focus (first | (with_reducible trivial) | omega | grind))
        refine rg ctNo_ok ?_
        simp only [go_sem, Nat.reduceLT, Nat.reduceAdd]
        obtain rfl := Option.some.inj H
        refine ⟨[0, 1, 2, 3], ?_, ?_, [], ?_, ?_, rfl⟩
        · simp only [go_sem]
          try (and_intros <;> first | (with_reducible trivial) | omega | exact nfc | trivial)
        · simp only [go_sem]
          try (and_intros <;> first | (with_reducible trivial) | omega | exact nfc | trivial)
        · simp only [go_sem]
          exact Cv_tup (CvL_cons (Cv_ronil (α := TFrame)) (CvL_cons (Cv_ronil (α := TFrame)) (CvL_cons (Cv_agg (CvL_cons Cv_int (CvL_cons Cv_int (CvL_cons (Cv_ronil (α := TSleeper)) (CvL_cons (Cv_ronil (α := TStored)) CvL_nil))))) (CvL_cons Cv_int CvL_nil))))
        · simp only [go_sem, CvH]
      replace H := cond_f hc H
      refine rg ctNo_ok ?_
      simp only [go_sem]
      refine seqM ?_
      obtain ⟨r6, e7, H⟩ := bsi H
      refine rg (ct24t3_ok r4.1.toNat) ?_
      simp only [go_sem, Nat.reduceLT, Nat.reduceAdd, ct24t3_65, body65f, e7]
      repeat ((with_reducible refine And.intro ?_ ?_); focus (first | (and_intros <;> first | (with_reducible trivial) | omega | assumption | exact nfc | first | exact rfl | exact trivial | exact fitI | exact .inr rfl | exact .inl rfl | exact fun x hx => absurd hx (by omega)) | grind))
      refine seqM ?_
      obtain ⟨f8, H⟩ := need_some.1 H
      replace f8 := inb_iff.1 f8
      refine draw_quiet shT_ok ctNo_ok (by kernel_rfl) (by kernel_rfl) ?_
      simp only [go_sem, Nat.reduceLeDiff, Nat.reduceLT, Nat.reduceAdd, f8]
      repeat ((with_reducible refine And.intro ?_ ?_); focus (first | (with_reducible trivial) | omega | grind))
      refine rg ctNo_ok ?_
      simp only [go_sem]
      refine cutO shT_ok ctNo_ok 7 ?_
      simp only [kO_normal, List.take_succ_cons, List.take_zero, List.drop_succ_cons, List.drop_zero, go_sem, Nat.reduceLT, Nat.reduceAdd]
      repeat ((with_reducible refine And.intro ?_ ?_); focus (first | (and_intros <;> first | (with_reducible trivial) | omega | assumption | exact nfc | first | exact rfl | exact trivial | exact fitI | exact .inr rfl | exact .inl rfl | exact fun x hx => absurd hx (by omega)) | grind))
      refine endO ?_
      refine seqM ?_
      refine blkM ?_
      refine sq ctNo_ok ?_
      simp only [go_sem, (by decide : bEq (0) (0) = true)]
      refine condM rfl trivial (fun hc => ?_) (fun hc => ?_)
      · cases hc
      refine seqM ?_
      obtain ⟨f9, H⟩ := need_some.1 H
      replace f9 := g_iff.1 f9
      refine rg ct24t1_ok ?_
      simp only [go_sem, ct24t1_61, body61]
      repeat ((with_reducible refine And.intro ?_ ?_); focus (first | (with_reducible trivial) | omega | exact f9 | (intro g; have q := f9 (by first | exact g | (rw [g]; rfl) | simpa using g); first | exact q | exact ⟨q.1, q.2.1⟩ | exact q.2.2 | omega | exact ⟨g, q⟩ | exact ⟨trivial, q⟩ | exact ⟨g, q.1, q.2.1⟩ | exact ⟨g, q.2.2⟩) | (intro g; (try have q0 := f9 (by first | exact g | (rw [g]; rfl) | simpa using g)); and_intros <;> first | (with_reducible trivial) | assumption | exact nfc | (intro g2; rw [g, g2]; rfl) | (intro g2; assumption) | (simp only [g, Bool.true_and, Bool.and_true, Bool.not_false, Bool.not_true]; assumption) | grind) | (and_intros <;> first | (with_reducible trivial) | omega | assumption | exact nfc | first | exact rfl | exact trivial | exact fitI | exact .inr rfl | exact .inl rfl | exact fun x hx => absurd hx (by omega)) | grind))
      refine condM rfl trivial (fun hc => ?_) (fun hc => ?_)
      · replace H := cond_t hc H
        refine sq ctNo_ok ?_
        simp only [go_sem, Nat.reduceAdd]
        repeat ((with_reducible refine And.intro ?_ ?_); focus (first | (with_reducible trivial) | omega | grind))
        refine rg ctNo_ok ?_
        simp only [go_sem, Nat.reduceLT, Nat.reduceAdd]
        obtain rfl := Option.some.inj H
        refine ⟨[0, 1, 2, 3], ?_, ?_, [], ?_, ?_, rfl⟩
        · simp only [go_sem]
          try (and_intros <;> first | (with_reducible trivial) | omega | exact nfc | trivial)
        · simp only [go_sem, Nat.reduceBEq]
          try (and_intros <;> first | (with_reducible trivial) | omega | exact nfc | trivial)
        · simp only [go_sem]
          exact Cv_tup (CvL_cons (Cv_ronil (α := TFrame)) (CvL_cons (Cv_ronil (α := TFrame)) (CvL_cons (Cv_agg (CvL_cons Cv_int (CvL_cons Cv_int (CvL_cons (Cv_ronil (α := TSleeper)) (CvL_cons (Cv_ronil (α := TStored)) CvL_nil))))) (CvL_cons Cv_int CvL_nil))))
        · simp only [go_sem, CvH]
      replace H := cond_f hc H
      refine seqM ?_
      obtain ⟨r10, e11, H⟩ := bsi H
      refine rg ct24t4_ok ?_
      simp only [go_sem, Nat.reduceLT, Nat.reduceAdd, Nat.reduceSub, upc_ii, ct24t4_62, body62, e11]
      repeat ((with_reducible refine And.intro ?_ ?_); focus (first | (and_intros <;> first | (with_reducible trivial) | omega | assumption | exact nfc | first | exact rfl | exact trivial | exact fitI | exact .inr rfl | exact .inl rfl | exact fun x hx => absurd hx (by omega)) | grind))
      refine condM rfl trivial (fun hc => ?_) (fun hc => ?_)
      · replace H := cond_t hc H
        refine sq ctNo_ok ?_
        simp only [go_sem, Nat.reduceAdd]
        repeat ((with_reducible refine And.intro ?_ ?_); focus (first | (with_reducible trivial) | omega | grind))
        refine rg ctNo_ok ?_
        simp only [go_sem, Nat.reduceLT, Nat.reduceAdd]
        obtain rfl := Option.some.inj H
        refine ⟨[0, 1, 2, 3], ?_, ?_, [], ?_, ?_, rfl⟩
        · simp only [go_sem]
          try (and_intros <;> first | (with_reducible trivial) | omega | exact nfc | trivial)
        · simp only [go_sem, Nat.reduceBEq]
          try (and_intros <;> first | (with_reducible trivial) | omega | exact nfc | trivial)
        · simp only [go_sem]
          exact Cv_tup (CvL_cons (Cv_ronil (α := TFrame)) (CvL_cons (Cv_ronil (α := TFrame)) (CvL_cons (Cv_agg (CvL_cons Cv_int (CvL_cons Cv_int (CvL_cons (Cv_ronil (α := TSleeper)) (CvL_cons (Cv_ronil (α := TStored)) CvL_nil))))) (CvL_cons Cv_int CvL_nil))))
        · simp only [go_sem, CvH]
      replace H := cond_f hc H
      refine rg ctNo_ok ?_
      simp only [go_sem]
      refine seqM ?_
      obtain ⟨r12, e13, H⟩ := bsi H
      refine rg ct24t5_ok ?_
      simp only [go_sem, Nat.reduceLT, Nat.reduceAdd, ct24t5_63, body63, e13]
      repeat ((with_reducible refine And.intro ?_ ?_); focus (first | (and_intros <;> first | (with_reducible trivial) | omega | assumption | exact nfc | first | exact rfl | exact trivial | exact fitI | exact .inr rfl | exact .inl rfl | exact fun x hx => absurd hx (by omega)) | grind))
      refine seqM ?_
      refine sq ctNo_ok ?_
      simp only [go_sem, Nat.reduceLeDiff, Nat.reduceLT, Nat.reduceAdd, Nat.reduceSub, upc_ii]
      repeat ((with_reducible refine And.intro ?_ ?_); focus (first | (with_reducible trivial) | omega | grind))
      refine condM' rfl trivial (fun hc => ?_) (fun hc => ?_)
      · replace H := cond_f hc H
        refine regO ?_
        refine cutO shT_ok ctNo_ok 1 ?_
        simp only [kO_normal, List.take_succ_cons, List.take_zero, List.drop_succ_cons, List.drop_zero, go_sem, Nat.reduceLT, Nat.reduceAdd]
        repeat ((with_reducible refine And.intro ?_ ?_); focus (first | (and_intros <;> first | (with_reducible trivial) | omega | assumption | exact nfc | first | exact rfl | exact trivial | exact fitI | exact .inr rfl | exact .inl rfl | exact fun x hx => absurd hx (by omega) | (intro x hx; (repeat (first | (and_intros <;> (first | exact rfl | exact trivial | exact fitI | exact .inr rfl | exact .inl rfl | exact fun x hx => absurd hx (by omega))) | (exfalso; omega) | (rcases x with _ | x))); done)) | grind))
        refine fzO [7] ?_ ?_
        · simp only [go_sem, Nat.reduceBEq]
          try (and_intros <;> first | (with_reducible trivial) | omega | exact nfc | trivial)
        simp only [go_sem, Nat.reduceBEq, Nat.reduceAdd]
        obtain ⟨r45, e46, H⟩ := bsi H
        refine cutO shT_ok ct24t9_ok 3 ?_
        simp only [kO_normal, List.take_succ_cons, List.take_zero, List.drop_succ_cons, List.drop_zero, go_sem, Nat.reduceLeDiff, Nat.reduceAdd, ct24t9_52, body52_0, e46]
        repeat ((with_reducible refine And.intro ?_ ?_); focus (first | (and_intros <;> first | (with_reducible trivial) | omega | assumption | exact nfc | first | exact rfl | exact trivial | exact fitI | exact .inr rfl | exact .inl rfl | exact fun x hx => absurd hx (by omega) | (intro x hx; (repeat (first | (and_intros <;> (first | exact rfl | exact trivial | exact fitI | exact .inr rfl | exact .inl rfl | exact fun x hx => absurd hx (by omega))) | (exfalso; omega) | (rcases x with _ | x))); done)) | grind))
        refine endO ?_
        refine seqM ?_
        refine draw_rule shT_ok ctNo_ok 0 (by kernel_rfl) (by kernel_rfl) ?_
        intro an han
        simp only [d_nil, d_cons, nxtD, xrD, xoD, roEq, minL, List.append_nil, refsOp, refs, mask, maskF, place, placeF, okLog, pairOk, hit, inL, slotsF, nrH, nrB, nrL, nr, List.replicate_zero, Nat.sub_self, Nat.add_zero, Nat.zero_add, Nat.reduceSub, Nat.lt_add_one, go_sem, Nat.reduceLeDiff, Nat.reduceLT, Nat.reduceAdd, Nat.reduceSub, Nat.reduceBEq]
        repeat ((with_reducible refine And.intro ?_ ?_); focus (and_intros <;> first | (with_reducible trivial) | (show anB _ _ _ = true; subst han; kernel_rfl) | (show (anB _ _ _ && _) = true; subst han; kernel_rfl) | omega | assumption | exact nrc | exact nfc | first | exact rfl | exact trivial | exact fitI | exact .inr rfl | exact .inl rfl | exact fun x hx => absurd hx (by omega)))
        refine fz2_mean [5] [4] ?_ ?_
        · simp only [go_sem, Nat.reduceBEq, Nat.reduceAdd, fzObHF2, fzObB2]
          first | exact (foc_ob (L := r6.List) (i := r4.1.toNat) (fun a y => nrefL_getL (nr_TSleeper a) y) (fun x y hx => by simp only [upc_ne hx]) (fun y hy => match y, hy with | 0, _ => (by (simp [upc_ii, getL, fzOb, inL, geth, rowOb, enR, c_TSleeper]; all_goals (first | (with_reducible trivial) | (intros; exact nrefL_getL (NRf.h _) _) | (intros; exact nfc)))) | 1, _ => (by (simp [upc_ii, getL, fzOb, inL, geth, rowOb, enR, c_TSleeper]; all_goals (first | (with_reducible trivial) | (intros; exact nrefL_getL (NRf.h _) _) | (intros; exact nfc)))) | 2, _ => (by (simp [upc_ii, getL, fzOb, inL, geth, rowOb, enR, c_TSleeper]; all_goals (first | (with_reducible trivial) | (intros; exact nrefL_getL (NRf.h _) _) | (intros; exact nfc)))) | (y+3), h => absurd h (by omega))) | (and_intros <;> first | exact (foc_ob (L := r6.List) (i := r4.1.toNat) (fun a y => nrefL_getL (nr_TSleeper a) y) (fun x y hx => by simp only [upc_ne hx]) (fun y hy => match y, hy with | 0, _ => (by (simp [upc_ii, getL, fzOb, enR, c_TSleeper]; all_goals (first | (with_reducible trivial) | (intros; exact nrefL_getL (NRf.h _) _) | (intros; exact nfc)))) | 1, _ => (by (simp [upc_ii, getL, fzOb, enR, c_TSleeper]; all_goals (first | (with_reducible trivial) | (intros; exact nrefL_getL (NRf.h _) _) | (intros; exact nfc)))) | 2, _ => (by (simp [upc_ii, getL, fzOb, inL, geth, rowOb, enR, c_TSleeper]; all_goals (first | (with_reducible trivial) | (intros; exact nrefL_getL (NRf.h _) _) | (intros; exact nfc)))) | (y+3), h => absurd h (by omega))) | (with_reducible trivial) | omega | exact nfc | trivial)
        simp only [go_sem, Nat.reduceBEq, Nat.reduceAdd, fzH2, fzHF2, fzB2]
        obtain ⟨w47, hw48, H⟩ := bsi H
        replace hw48 := Option.some.inj hw48
        have lhw48 : w47.length = r6.List.length := by rw [← hw48]; exact (by simp only [List.length_set])
        refine subF_mean (t2 := (tp 10 (.sl 9 41 0 r45.length false :: .ro 0 0 true (fun _ _ => .top) :: .ptr 2 0 0 0 :: .int .i64 0 :: tp 57 []))) (h2 := [.lit 25 [.int .i64 p0.Limit, .int .i64 p0.Stay, .ro 3 p0.List.length false (enR c_TSleeper p0.List), .ro 43 p0.Group.length false (enR c_TStored p0.Group)], .lit 33 (.int .u8 r12.Head.Kind :: .int .u8 r12.Head.Sub :: .bool r12.Head.ToDs :: .bool r12.Head.FromDs :: .bool r12.Head.More :: .bool r12.Head.Retry :: .bool r12.Head.Sleep :: .bool r12.Head.MoreData :: .bool r12.Head.Protected :: .int .i64 r12.Head.Duration :: .int .u8 r12.Head.A1.x0 :: .int .u8 r12.Head.A1.x1 :: .int .u8 r12.Head.A1.x2 :: .int .u8 r12.Head.A1.x3 :: .int .u8 r12.Head.A1.x4 :: .int .u8 r12.Head.A1.x5 :: .int .u8 r12.Head.A2.x0 :: .int .u8 r12.Head.A2.x1 :: .int .u8 r12.Head.A2.x2 :: .int .u8 r12.Head.A2.x3 :: .int .u8 r12.Head.A2.x4 :: .int .u8 r12.Head.A2.x5 :: .int .u8 r12.Head.A3.x0 :: .int .u8 r12.Head.A3.x1 :: .int .u8 r12.Head.A3.x2 :: .int .u8 r12.Head.A3.x3 :: .int .u8 r12.Head.A3.x4 :: .int .u8 r12.Head.A3.x5 :: .int .u8 r12.Head.A4.x0 :: .int .u8 r12.Head.A4.x1 :: .int .u8 r12.Head.A4.x2 :: .int .u8 r12.Head.A4.x3 :: .int .u8 r12.Head.A4.x4 :: .int .u8 r12.Head.A4.x5 :: .int .i64 r12.Head.Seq :: .int .i64 r12.Head.Frag :: .int .i64 r12.Head.Tid :: .int .u8 r12.Head.Ack :: .bool r12.Head.Amsdu :: .bool r12.Head.Eosp :: .ro 1 r12.Body.length false (enR c_u8 r12.Body) :: []), .lit 25 [.int .i64 r6.Limit, .int .i64 r6.Stay, .sl 4 3 0 w47.length false, .sl 6 43 0 r6.Group.length false], .lit 25 [.int .i64 r6.Limit, .int .i64 r6.Stay, .sl 4 3 0 w47.length false, .sl 6 43 0 r6.Group.length false], .row 57 3 w47.length (enR c_TSleeper w47), .dead, .row 61 43 r6.Group.length (enR c_TStored r6.Group), .dead, .dead, .row 33 41 r45.length (enR c_TFrame r45)]) ?_ ?_
        · refine SubF_of ⟨[some 0, some 1, some 2, some 3, some 4, some 5, some 6, some 7, some 8, some 9], ?_, ?_, by rfl, by rfl⟩
          · simp [CvL, Cv, getM, tp]
          · exact ⟨(by simp [CvB, CvL, Cv, blkAt, geth]), (by simp [CvB, CvL, Cv, blkAt, geth]), (by simp [CvB, CvL, Cv, blkAt, geth, getM, lhw48]), (by simp [CvB, CvL, Cv, blkAt, geth, getM, lhw48]), CvB_row nr_TSleeper lhw48 (hw48 ▸ (foc_row (L := r6.List) (i := r4.1.toNat) (fun a y => nrefL_getL (nr_TSleeper a) y) (fun x y hx => by simp only [upc_ne hx]) (fun y hy => match y, hy with | 0, _ => by simp [upc_ii, getL, fzV, enR, c_TSleeper] | 1, _ => by simp [upc_ii, getL, fzV, enR, c_TSleeper] | 2, _ => by simp [upc_ii, getL, fzV, inL, geth, enR, c_TSleeper, sub_enR0] | (y+3), h => absurd h (by omega)))), CvB_dead, CvB_row nr_TStored rfl (fun _ _ _ _ => rfl), CvB_dead, CvB_dead, CvB_row nr_TFrame rfl (fun _ _ _ _ => rfl), trivial⟩
        simp only [tp]
        refine rg ctNo_ok ?_
        simp only [go_sem, Nat.reduceLT, Nat.reduceAdd]
        obtain rfl := Option.some.inj H
        refine ⟨[9, 4, 6, 0, 1, 2, 3], ?_, ?_, [], ?_, ?_, rfl⟩
        · simp only [go_sem, Nat.reduceBEq]
          try (and_intros <;> first | (with_reducible trivial) | omega | exact nfc | trivial)
        · simp only [go_sem, Nat.reduceBEq]
          try (and_intros <;> first | (with_reducible trivial) | omega | exact nfc | trivial)
        · simp only [go_sem, Nat.reduceBEq]
          exact Cv_tup (CvL_cons (ro_row (by first | rfl | simp) (fun _ _ _ _ => rfl)) (CvL_cons (Cv_ronil (α := TFrame)) (CvL_cons (Cv_agg (CvL_cons Cv_int (CvL_cons Cv_int (CvL_cons (ro_row (by first | rfl | simp) (fun _ _ _ _ => rfl)) (CvL_cons (ro_row (by first | rfl | simp) (fun _ _ _ _ => rfl)) CvL_nil))))) (CvL_cons Cv_int CvL_nil))))
        · simp only [go_sem, CvH]
      replace H := cond_t hc H
      refine draw_tail shT_ok ctNo_ok 11 (by kernel_rfl) (by kernel_rfl) (by kernel_rfl) ?_
      simp only [kO_normal, List.take_succ_cons, List.take_zero, List.drop_succ_cons, List.drop_zero, go_sem, Nat.reduceLeDiff, Nat.reduceLT, Nat.reduceAdd]
      repeat ((with_reducible refine And.intro ?_ ?_); focus (first | (and_intros <;> first | (with_reducible trivial) | omega | assumption | exact nfc | first | exact rfl | exact trivial | exact fitI | exact .inr rfl | exact .inl rfl | exact fun x hx => absurd hx (by omega)) | grind))
      refine inlO (rs := [.tmp 6]) Try.func64 (by kernel_rfl) rfl rfl Try.ntmps64 (caps := []) (tc := [.ptr 4 3 r4.1.toNat 2, .int .i64 r6.Limit, .agg (.int .u8 p2 :: .int .i64 p4 :: .int .u8 r12.Head.Kind :: .int .u8 r12.Head.Sub :: .bool r12.Head.ToDs :: .bool r12.Head.FromDs :: .bool r12.Head.More :: .bool r12.Head.Retry :: .bool r12.Head.Sleep :: .bool r12.Head.MoreData :: .bool r12.Head.Protected :: .int .i64 r12.Head.Duration :: .int .u8 r12.Head.A1.x0 :: .int .u8 r12.Head.A1.x1 :: .int .u8 r12.Head.A1.x2 :: .int .u8 r12.Head.A1.x3 :: .int .u8 r12.Head.A1.x4 :: .int .u8 r12.Head.A1.x5 :: .int .u8 r12.Head.A2.x0 :: .int .u8 r12.Head.A2.x1 :: .int .u8 r12.Head.A2.x2 :: .int .u8 r12.Head.A2.x3 :: .int .u8 r12.Head.A2.x4 :: .int .u8 r12.Head.A2.x5 :: .int .u8 r12.Head.A3.x0 :: .int .u8 r12.Head.A3.x1 :: .int .u8 r12.Head.A3.x2 :: .int .u8 r12.Head.A3.x3 :: .int .u8 r12.Head.A3.x4 :: .int .u8 r12.Head.A3.x5 :: .int .u8 r12.Head.A4.x0 :: .int .u8 r12.Head.A4.x1 :: .int .u8 r12.Head.A4.x2 :: .int .u8 r12.Head.A4.x3 :: .int .u8 r12.Head.A4.x4 :: .int .u8 r12.Head.A4.x5 :: .int .i64 r12.Head.Seq :: .int .i64 r12.Head.Frag :: .int .i64 r12.Head.Tid :: .int .u8 r12.Head.Ack :: .bool r12.Head.Amsdu :: .bool r12.Head.Eosp :: .sl 7 1 0 r12.Body.length false :: [])]) rfl (by simp only [go_sem]) rfl ?_
      simp only [List.length_cons, List.length_nil, Nat.reduceAdd, Nat.reduceSub, List.replicate_succ, List.replicate_zero, List.cons_append, List.nil_append]
      refine sq ctNo_ok ?_
      simp only [go_sem, Nat.reduceAdd]
      refine seqM ?_
      refine sq ctNo_ok ?_
      simp only [go_sem, Nat.reduceLT, Nat.reduceAdd, Nat.reduceSub, upc_ii]
      repeat ((with_reducible refine And.intro ?_ ?_); focus (first | (and_intros <;> first | (with_reducible trivial) | omega | assumption | exact nfc | first | exact rfl | exact trivial | exact fitI | exact .inr rfl | exact .inl rfl | exact fun x hx => absurd hx (by omega)) | grind))
      refine condM' rfl trivial (fun hc => ?_) (fun hc => ?_)
      · replace H := cond_f hc H
        refine rg ctNo_ok ?_
        simp only [go_sem]
        refine seqM ?_
        refine fz_mean [7] ?_ ?_
        · simp only [go_sem, Nat.reduceBEq]
          try (and_intros <;> first | (with_reducible trivial) | omega | exact nfc | trivial)
        simp only [go_sem, Nat.reduceBEq, Nat.reduceAdd]
        obtain ⟨f38, H⟩ := need_some.1 H
        replace f38 := capb_iff.1 f38
        refine draw_rule shT_ok ctNo_ok 2 (by kernel_rfl) (by kernel_rfl) ?_
        intro an han
        simp only [d_nil, d_cons, nxtD, xrD, xoD, roEq, minL, List.append_nil, refsOp, refs, refsL, mask, maskF, place, placeF, okLog, pairOk, hit, inL, slotsF, ren, rnN, nrH, nrB, List.replicate_zero, List.replicate_succ, Nat.sub_self, Nat.add_zero, Nat.zero_add, Nat.reduceSub, Nat.lt_add_one, go_sem, Nat.reduceLeDiff, Nat.reduceLT, Nat.reduceAdd, Nat.reduceSub, Nat.reduceBEq, upc_ii, f38]
        repeat ((with_reducible refine And.intro ?_ ?_); focus (and_intros <;> first | (with_reducible trivial) | (show anB _ _ _ = true; subst han; kernel_rfl) | (show (anB _ _ _ && _) = true; subst han; kernel_rfl) | omega | assumption | exact nrc | exact nfc | first | exact rfl | exact trivial | exact fitI | exact .inr rfl | exact .inl rfl | exact fun x hx => absurd hx (by omega) | (intro x hx; (repeat (first | (and_intros <;> (first | exact rfl | exact trivial | exact fitI | exact .inr rfl | exact .inl rfl | exact fun x hx => absurd hx (by omega))) | (exfalso; omega) | (rcases x with _ | x))); done) | (refine Fit_app ?_ ?_ <;> first | exact fitI | (intro x hx; (repeat (first | (and_intros <;> (first | exact rfl | exact trivial | exact fitI | exact .inr rfl | exact .inl rfl | exact fun x hx => absurd hx (by omega))) | (exfalso; omega) | (rcases x with _ | x))); done) | (refine Fit_app ?_ ?_ <;> first | exact fitI | (intro x hx; (repeat (first | (and_intros <;> (first | exact rfl | exact trivial | exact fitI | exact .inr rfl | exact .inl rfl | exact fun x hx => absurd hx (by omega))) | (exfalso; omega) | (rcases x with _ | x))); done)))))
        refine sq ctNo_ok ?_
        simp only [go_sem]
        refine rg ctNo_ok ?_
        simp only [go_sem]
        refine cutO shT_ok ctNo_ok 1 ?_
        simp only [kO_normal, List.take_succ_cons, List.take_zero, List.drop_succ_cons, List.drop_zero, go_sem]
        repeat ((with_reducible refine And.intro ?_ ?_); focus (first | (and_intros <;> first | (with_reducible trivial) | omega | assumption | exact nfc | first | exact rfl | exact trivial | exact fitI | exact .inr rfl | exact .inl rfl | exact fun x hx => absurd hx (by omega) | (intro x hx; (repeat (first | (and_intros <;> (first | exact rfl | exact trivial | exact fitI | exact .inr rfl | exact .inl rfl | exact fun x hx => absurd hx (by omega))) | (exfalso; omega) | (rcases x with _ | x))); done) | (refine Fit_app ?_ ?_ <;> first | exact fitI | (intro x hx; (repeat (first | (and_intros <;> (first | exact rfl | exact trivial | exact fitI | exact .inr rfl | exact .inl rfl | exact fun x hx => absurd hx (by omega))) | (exfalso; omega) | (rcases x with _ | x))); done) | (refine Fit_app ?_ ?_ <;> first | exact fitI | (intro x hx; (repeat (first | (and_intros <;> (first | exact rfl | exact trivial | exact fitI | exact .inr rfl | exact .inl rfl | exact fun x hx => absurd hx (by omega))) | (exfalso; omega) | (rcases x with _ | x))); done)))) | grind))
        refine endO ?_
        refine seqM ?_
        refine draw_rule shT_ok ctNo_ok 0 (by kernel_rfl) (by kernel_rfl) ?_
        intro an han
        simp only [d_nil, d_cons, nxtD, xrD, xoD, roEq, minL, List.append_nil, refsOp, refs, mask, maskF, place, placeF, okLog, pairOk, hit, inL, slotsF, nrH, nrB, nrL, nr, List.replicate_zero, Nat.sub_self, Nat.add_zero, Nat.zero_add, Nat.reduceSub, Nat.lt_add_one, go_sem, Nat.reduceLeDiff, Nat.reduceLT, Nat.reduceAdd, Nat.reduceSub, Nat.reduceBEq]
        repeat ((with_reducible refine And.intro ?_ ?_); focus (and_intros <;> first | (with_reducible trivial) | (show anB _ _ _ = true; subst han; kernel_rfl) | (show (anB _ _ _ && _) = true; subst han; kernel_rfl) | omega | assumption | exact nrc | exact nfc | first | exact rfl | exact trivial | exact fitI | exact .inr rfl | exact .inl rfl | exact fun x hx => absurd hx (by omega) | (intro x hx; (repeat (first | (and_intros <;> (first | exact rfl | exact trivial | exact fitI | exact .inr rfl | exact .inl rfl | exact fun x hx => absurd hx (by omega))) | (exfalso; omega) | (rcases x with _ | x))); done) | (refine Fit_app ?_ ?_ <;> first | exact fitI | (intro x hx; (repeat (first | (and_intros <;> (first | exact rfl | exact trivial | exact fitI | exact .inr rfl | exact .inl rfl | exact fun x hx => absurd hx (by omega))) | (exfalso; omega) | (rcases x with _ | x))); done) | (refine Fit_app ?_ ?_ <;> first | exact fitI | (intro x hx; (repeat (first | (and_intros <;> (first | exact rfl | exact trivial | exact fitI | exact .inr rfl | exact .inl rfl | exact fun x hx => absurd hx (by omega))) | (exfalso; omega) | (rcases x with _ | x))); done)))))
        obtain ⟨w39, hw40, H⟩ := bsi H
        replace hw40 := Option.some.inj hw40
        have lhw40 : w39.length = 1 := by rw [← hw40]; exact (by first | rfl | (simp; done) | (simp; omega))
        obtain ⟨w41, hw42, H⟩ := bsi H
        replace hw42 := Option.some.inj hw42
        have lhw42 : w41.length = ((gd r6.List r4.1.toNat).Held).length + 1 := by rw [← hw42]; exact (by first | rfl | (simp; done) | (simp; omega))
        refine subF_mean (t2 := (tp 10 (.ro 0 0 true (fun _ _ => .top) :: .ro 0 0 true (fun _ _ => .top) :: .ptr 2 0 0 0 :: .int .i64 0 :: tp 57 []))) (h2 := [.lit 25 [.int .i64 p0.Limit, .int .i64 p0.Stay, .ro 3 p0.List.length false (enR c_TSleeper p0.List), .ro 43 p0.Group.length false (enR c_TStored p0.Group)], .lit 33 (.int .u8 r12.Head.Kind :: .int .u8 r12.Head.Sub :: .bool r12.Head.ToDs :: .bool r12.Head.FromDs :: .bool r12.Head.More :: .bool r12.Head.Retry :: .bool r12.Head.Sleep :: .bool r12.Head.MoreData :: .bool r12.Head.Protected :: .int .i64 r12.Head.Duration :: .int .u8 r12.Head.A1.x0 :: .int .u8 r12.Head.A1.x1 :: .int .u8 r12.Head.A1.x2 :: .int .u8 r12.Head.A1.x3 :: .int .u8 r12.Head.A1.x4 :: .int .u8 r12.Head.A1.x5 :: .int .u8 r12.Head.A2.x0 :: .int .u8 r12.Head.A2.x1 :: .int .u8 r12.Head.A2.x2 :: .int .u8 r12.Head.A2.x3 :: .int .u8 r12.Head.A2.x4 :: .int .u8 r12.Head.A2.x5 :: .int .u8 r12.Head.A3.x0 :: .int .u8 r12.Head.A3.x1 :: .int .u8 r12.Head.A3.x2 :: .int .u8 r12.Head.A3.x3 :: .int .u8 r12.Head.A3.x4 :: .int .u8 r12.Head.A3.x5 :: .int .u8 r12.Head.A4.x0 :: .int .u8 r12.Head.A4.x1 :: .int .u8 r12.Head.A4.x2 :: .int .u8 r12.Head.A4.x3 :: .int .u8 r12.Head.A4.x4 :: .int .u8 r12.Head.A4.x5 :: .int .i64 r12.Head.Seq :: .int .i64 r12.Head.Frag :: .int .i64 r12.Head.Tid :: .int .u8 r12.Head.Ack :: .bool r12.Head.Amsdu :: .bool r12.Head.Eosp :: .ro 1 r12.Body.length false (enR c_u8 r12.Body) :: []), .lit 25 [.int .i64 r6.Limit, .int .i64 r6.Stay, .sl 4 3 0 r6.List.length false, .sl 6 43 0 r6.Group.length false], .lit 25 [.int .i64 r6.Limit, .int .i64 r6.Stay, .sl 4 3 0 r6.List.length false, .sl 6 43 0 r6.Group.length false], .row 57 3 r6.List.length (upc (enR c_TSleeper r6.List) r4.1.toNat 0 [.int .i64 ((gd r6.List r4.1.toNat).Aid), .bool ((gd r6.List r4.1.toNat).Asleep), .sl 10 43 0 w41.length false]), .dead, .row 61 43 r6.Group.length (enR c_TStored r6.Group), .dead, .lit 61 (.int .u8 p2 :: .int .i64 p4 :: .int .u8 r12.Head.Kind :: .int .u8 r12.Head.Sub :: .bool r12.Head.ToDs :: .bool r12.Head.FromDs :: .bool r12.Head.More :: .bool r12.Head.Retry :: .bool r12.Head.Sleep :: .bool r12.Head.MoreData :: .bool r12.Head.Protected :: .int .i64 r12.Head.Duration :: .int .u8 r12.Head.A1.x0 :: .int .u8 r12.Head.A1.x1 :: .int .u8 r12.Head.A1.x2 :: .int .u8 r12.Head.A1.x3 :: .int .u8 r12.Head.A1.x4 :: .int .u8 r12.Head.A1.x5 :: .int .u8 r12.Head.A2.x0 :: .int .u8 r12.Head.A2.x1 :: .int .u8 r12.Head.A2.x2 :: .int .u8 r12.Head.A2.x3 :: .int .u8 r12.Head.A2.x4 :: .int .u8 r12.Head.A2.x5 :: .int .u8 r12.Head.A3.x0 :: .int .u8 r12.Head.A3.x1 :: .int .u8 r12.Head.A3.x2 :: .int .u8 r12.Head.A3.x3 :: .int .u8 r12.Head.A3.x4 :: .int .u8 r12.Head.A3.x5 :: .int .u8 r12.Head.A4.x0 :: .int .u8 r12.Head.A4.x1 :: .int .u8 r12.Head.A4.x2 :: .int .u8 r12.Head.A4.x3 :: .int .u8 r12.Head.A4.x4 :: .int .u8 r12.Head.A4.x5 :: .int .i64 r12.Head.Seq :: .int .i64 r12.Head.Frag :: .int .i64 r12.Head.Tid :: .int .u8 r12.Head.Ack :: .bool r12.Head.Amsdu :: .bool r12.Head.Eosp :: .ro 1 r12.Body.length false (enR c_u8 r12.Body) :: []), .row 61 43 w39.length (enR c_TStored w39), .row 61 43 w41.length (enR c_TStored w41)]) ?_ ?_
        · refine SubF_of ⟨[some 0, some 1, some 2, some 3, some 4, some 5, some 6, some 7, some 8, some 9, some 10], ?_, ?_, by rfl, by rfl⟩
          · simp [CvL, Cv, getM, tp]
          · exact ⟨(by simp [CvB, CvL, Cv, blkAt, geth]), (by simp [CvB, CvL, Cv, blkAt, geth]), (by simp [CvB, CvL, Cv, blkAt, geth, getM]), (by simp [CvB, CvL, Cv, blkAt, geth, getM]), (CvB_focG2 (i := r4.1.toNat) (L := r6.List) nr_TSleeper (fun x y hx => by simp only [upc_ne hx]) (fun x y hx => by simp only [upc_ne hx]) (fun y hy => match y, hy with | 0, _ => by simp [upc_ii, getL, Cv, enR, c_TSleeper, lhw42] | 1, _ => by simp [upc_ii, getL, Cv, enR, c_TSleeper, lhw42] | 2, _ => by simp [upc_ii, getL, Cv, getM, enR, c_TSleeper, lhw42] | (y+3), h => absurd h (by omega))), CvB_dead, CvB_row nr_TStored rfl (fun _ _ _ _ => rfl), CvB_dead, (by simp [CvB, CvL, Cv, blkAt, geth]), CvB_row nr_TStored lhw40 (hw40 ▸ (lit_row (f := c_TStored) [(TStored.mk p2 p4 (TFrame.mk (THeader.mk r12.Head.Kind r12.Head.Sub r12.Head.ToDs r12.Head.FromDs r12.Head.More r12.Head.Retry r12.Head.Sleep r12.Head.MoreData r12.Head.Protected r12.Head.Duration (A6u8.mk r12.Head.A1.x0 r12.Head.A1.x1 r12.Head.A1.x2 r12.Head.A1.x3 r12.Head.A1.x4 r12.Head.A1.x5) (A6u8.mk r12.Head.A2.x0 r12.Head.A2.x1 r12.Head.A2.x2 r12.Head.A2.x3 r12.Head.A2.x4 r12.Head.A2.x5) (A6u8.mk r12.Head.A3.x0 r12.Head.A3.x1 r12.Head.A3.x2 r12.Head.A3.x3 r12.Head.A3.x4 r12.Head.A3.x5) (A6u8.mk r12.Head.A4.x0 r12.Head.A4.x1 r12.Head.A4.x2 r12.Head.A4.x3 r12.Head.A4.x4 r12.Head.A4.x5) r12.Head.Seq r12.Head.Frag r12.Head.Tid r12.Head.Ack r12.Head.Amsdu r12.Head.Eosp) r12.Body))] (fun _ _ => rfl) rfl)), CvB_row nr_TStored lhw42 (hw42 ▸ (app_row (f := c_TStored) ((gd r6.List r4.1.toNat).Held) [(TStored.mk p2 p4 (TFrame.mk (THeader.mk r12.Head.Kind r12.Head.Sub r12.Head.ToDs r12.Head.FromDs r12.Head.More r12.Head.Retry r12.Head.Sleep r12.Head.MoreData r12.Head.Protected r12.Head.Duration (A6u8.mk r12.Head.A1.x0 r12.Head.A1.x1 r12.Head.A1.x2 r12.Head.A1.x3 r12.Head.A1.x4 r12.Head.A1.x5) (A6u8.mk r12.Head.A2.x0 r12.Head.A2.x1 r12.Head.A2.x2 r12.Head.A2.x3 r12.Head.A2.x4 r12.Head.A2.x5) (A6u8.mk r12.Head.A3.x0 r12.Head.A3.x1 r12.Head.A3.x2 r12.Head.A3.x3 r12.Head.A3.x4 r12.Head.A3.x5) (A6u8.mk r12.Head.A4.x0 r12.Head.A4.x1 r12.Head.A4.x2 r12.Head.A4.x3 r12.Head.A4.x4 r12.Head.A4.x5) r12.Head.Seq r12.Head.Frag r12.Head.Tid r12.Head.Ack r12.Head.Amsdu r12.Head.Eosp) r12.Body))] (fun _ _ _ _ => rfl) (lit_row (f := c_TStored) [(TStored.mk p2 p4 (TFrame.mk (THeader.mk r12.Head.Kind r12.Head.Sub r12.Head.ToDs r12.Head.FromDs r12.Head.More r12.Head.Retry r12.Head.Sleep r12.Head.MoreData r12.Head.Protected r12.Head.Duration (A6u8.mk r12.Head.A1.x0 r12.Head.A1.x1 r12.Head.A1.x2 r12.Head.A1.x3 r12.Head.A1.x4 r12.Head.A1.x5) (A6u8.mk r12.Head.A2.x0 r12.Head.A2.x1 r12.Head.A2.x2 r12.Head.A2.x3 r12.Head.A2.x4 r12.Head.A2.x5) (A6u8.mk r12.Head.A3.x0 r12.Head.A3.x1 r12.Head.A3.x2 r12.Head.A3.x3 r12.Head.A3.x4 r12.Head.A3.x5) (A6u8.mk r12.Head.A4.x0 r12.Head.A4.x1 r12.Head.A4.x2 r12.Head.A4.x3 r12.Head.A4.x4 r12.Head.A4.x5) r12.Head.Seq r12.Head.Frag r12.Head.Tid r12.Head.Ack r12.Head.Amsdu r12.Head.Eosp) r12.Body))] (fun _ _ => rfl) rfl))), trivial⟩
        simp only [tp]
        refine fz2_mean [10] [4] ?_ ?_
        · simp only [go_sem, Nat.reduceBEq, Nat.reduceAdd, fzObHF2, fzObB2]
          first | exact (foc_ob (L := r6.List) (i := r4.1.toNat) (fun a y => nrefL_getL (nr_TSleeper a) y) (fun x y hx => by simp only [upc_ne hx]) (fun y hy => match y, hy with | 0, _ => (by (simp [upc_ii, getL, fzOb, enR, c_TSleeper]; all_goals (first | (with_reducible trivial) | (intros; exact nrefL_getL (NRf.h _) _) | (intros; exact nfc)))) | 1, _ => (by (simp [upc_ii, getL, fzOb, enR, c_TSleeper]; all_goals (first | (with_reducible trivial) | (intros; exact nrefL_getL (NRf.h _) _) | (intros; exact nfc)))) | 2, _ => (by (simp [upc_ii, getL, fzOb, inL, geth, rowOb, enR, c_TSleeper]; all_goals (first | (with_reducible trivial) | (intros; exact nrefL_getL (NRf.h _) _) | (intros; exact nfc)))) | (y+3), h => absurd h (by omega))) | (and_intros <;> first | exact (foc_ob (L := r6.List) (i := r4.1.toNat) (fun a y => nrefL_getL (nr_TSleeper a) y) (fun x y hx => by simp only [upc_ne hx]) (fun y hy => match y, hy with | 0, _ => (by (simp [upc_ii, getL, fzOb, inL, geth, rowOb, enR, c_TSleeper]; all_goals (first | (with_reducible trivial) | (intros; exact nrefL_getL (NRf.h _) _) | (intros; exact nfc)))) | 1, _ => (by (simp [upc_ii, getL, fzOb, inL, geth, rowOb, enR, c_TSleeper]; all_goals (first | (with_reducible trivial) | (intros; exact nrefL_getL (NRf.h _) _) | (intros; exact nfc)))) | 2, _ => (by (simp [upc_ii, getL, fzOb, inL, geth, rowOb, enR, c_TSleeper]; all_goals (first | (with_reducible trivial) | (intros; exact nrefL_getL (NRf.h _) _) | (intros; exact nfc)))) | (y+3), h => absurd h (by omega))) | (with_reducible trivial) | omega | exact nfc | trivial)
        simp only [go_sem, Nat.reduceBEq, Nat.reduceAdd, fzH2, fzHF2, fzB2]
        obtain ⟨w43, hw44, H⟩ := bsi H
        replace hw44 := Option.some.inj hw44
        have lhw44 : w43.length = r6.List.length := by rw [← hw44]; exact (by simp only [List.length_set])
        refine subF_mean (t2 := (tp 10 (.ro 0 0 true (fun _ _ => .top) :: .ro 0 0 true (fun _ _ => .top) :: .ptr 2 0 0 0 :: .int .i64 0 :: tp 57 []))) (h2 := [.lit 25 [.int .i64 p0.Limit, .int .i64 p0.Stay, .ro 3 p0.List.length false (enR c_TSleeper p0.List), .ro 43 p0.Group.length false (enR c_TStored p0.Group)], .lit 33 (.int .u8 r12.Head.Kind :: .int .u8 r12.Head.Sub :: .bool r12.Head.ToDs :: .bool r12.Head.FromDs :: .bool r12.Head.More :: .bool r12.Head.Retry :: .bool r12.Head.Sleep :: .bool r12.Head.MoreData :: .bool r12.Head.Protected :: .int .i64 r12.Head.Duration :: .int .u8 r12.Head.A1.x0 :: .int .u8 r12.Head.A1.x1 :: .int .u8 r12.Head.A1.x2 :: .int .u8 r12.Head.A1.x3 :: .int .u8 r12.Head.A1.x4 :: .int .u8 r12.Head.A1.x5 :: .int .u8 r12.Head.A2.x0 :: .int .u8 r12.Head.A2.x1 :: .int .u8 r12.Head.A2.x2 :: .int .u8 r12.Head.A2.x3 :: .int .u8 r12.Head.A2.x4 :: .int .u8 r12.Head.A2.x5 :: .int .u8 r12.Head.A3.x0 :: .int .u8 r12.Head.A3.x1 :: .int .u8 r12.Head.A3.x2 :: .int .u8 r12.Head.A3.x3 :: .int .u8 r12.Head.A3.x4 :: .int .u8 r12.Head.A3.x5 :: .int .u8 r12.Head.A4.x0 :: .int .u8 r12.Head.A4.x1 :: .int .u8 r12.Head.A4.x2 :: .int .u8 r12.Head.A4.x3 :: .int .u8 r12.Head.A4.x4 :: .int .u8 r12.Head.A4.x5 :: .int .i64 r12.Head.Seq :: .int .i64 r12.Head.Frag :: .int .i64 r12.Head.Tid :: .int .u8 r12.Head.Ack :: .bool r12.Head.Amsdu :: .bool r12.Head.Eosp :: .ro 1 r12.Body.length false (enR c_u8 r12.Body) :: []), .lit 25 [.int .i64 r6.Limit, .int .i64 r6.Stay, .sl 4 3 0 w43.length false, .sl 6 43 0 r6.Group.length false], .lit 25 [.int .i64 r6.Limit, .int .i64 r6.Stay, .sl 4 3 0 w43.length false, .sl 6 43 0 r6.Group.length false], .row 57 3 w43.length (enR c_TSleeper w43), .dead, .row 61 43 r6.Group.length (enR c_TStored r6.Group), .dead, .lit 61 (.int .u8 p2 :: .int .i64 p4 :: .int .u8 r12.Head.Kind :: .int .u8 r12.Head.Sub :: .bool r12.Head.ToDs :: .bool r12.Head.FromDs :: .bool r12.Head.More :: .bool r12.Head.Retry :: .bool r12.Head.Sleep :: .bool r12.Head.MoreData :: .bool r12.Head.Protected :: .int .i64 r12.Head.Duration :: .int .u8 r12.Head.A1.x0 :: .int .u8 r12.Head.A1.x1 :: .int .u8 r12.Head.A1.x2 :: .int .u8 r12.Head.A1.x3 :: .int .u8 r12.Head.A1.x4 :: .int .u8 r12.Head.A1.x5 :: .int .u8 r12.Head.A2.x0 :: .int .u8 r12.Head.A2.x1 :: .int .u8 r12.Head.A2.x2 :: .int .u8 r12.Head.A2.x3 :: .int .u8 r12.Head.A2.x4 :: .int .u8 r12.Head.A2.x5 :: .int .u8 r12.Head.A3.x0 :: .int .u8 r12.Head.A3.x1 :: .int .u8 r12.Head.A3.x2 :: .int .u8 r12.Head.A3.x3 :: .int .u8 r12.Head.A3.x4 :: .int .u8 r12.Head.A3.x5 :: .int .u8 r12.Head.A4.x0 :: .int .u8 r12.Head.A4.x1 :: .int .u8 r12.Head.A4.x2 :: .int .u8 r12.Head.A4.x3 :: .int .u8 r12.Head.A4.x4 :: .int .u8 r12.Head.A4.x5 :: .int .i64 r12.Head.Seq :: .int .i64 r12.Head.Frag :: .int .i64 r12.Head.Tid :: .int .u8 r12.Head.Ack :: .bool r12.Head.Amsdu :: .bool r12.Head.Eosp :: .ro 1 r12.Body.length false (enR c_u8 r12.Body) :: []), .row 61 43 w39.length (enR c_TStored w39), .dead]) ?_ ?_
        · refine SubF_of ⟨[some 0, some 1, some 2, some 3, some 4, some 5, some 6, some 7, some 8, some 9, some 10], ?_, ?_, by rfl, by rfl⟩
          · simp [CvL, Cv, getM, tp]
          · exact ⟨(by simp [CvB, CvL, Cv, blkAt, geth]), (by simp [CvB, CvL, Cv, blkAt, geth]), (by simp [CvB, CvL, Cv, blkAt, geth, getM, lhw44]), (by simp [CvB, CvL, Cv, blkAt, geth, getM, lhw44]), CvB_row nr_TSleeper lhw44 (hw44 ▸ (foc_row (L := r6.List) (i := r4.1.toNat) (fun a y => nrefL_getL (nr_TSleeper a) y) (fun x y hx => by simp only [upc_ne hx]) (fun y hy => match y, hy with | 0, _ => by simp [upc_ii, getL, fzV, enR, c_TSleeper] | 1, _ => by simp [upc_ii, getL, fzV, enR, c_TSleeper] | 2, _ => by simp [upc_ii, getL, fzV, inL, geth, enR, c_TSleeper, sub_enR0] | (y+3), h => absurd h (by omega)))), CvB_dead, CvB_row nr_TStored rfl (fun _ _ _ _ => rfl), CvB_dead, (by simp [CvB, CvL, Cv, blkAt, geth]), CvB_row nr_TStored rfl (fun _ _ _ _ => rfl), CvB_dead, trivial⟩
        simp only [tp]
        refine rg ctNo_ok ?_
        simp only [go_sem, Nat.reduceLT, Nat.reduceAdd]
        obtain rfl := Option.some.inj H
        refine ⟨[4, 6, 0, 1, 2, 3, 8], ?_, ?_, [], ?_, ?_, rfl⟩
        · simp only [go_sem, Nat.reduceBEq]
          try (and_intros <;> first | (with_reducible trivial) | omega | exact nfc | trivial)
        · simp only [go_sem, Nat.reduceBEq]
          try (and_intros <;> first | (with_reducible trivial) | omega | exact nfc | trivial)
        · simp only [go_sem, Nat.reduceBEq]
          exact Cv_tup (CvL_cons (Cv_ronil (α := TFrame)) (CvL_cons (Cv_ronil (α := TFrame)) (CvL_cons (Cv_agg (CvL_cons Cv_int (CvL_cons Cv_int (CvL_cons (ro_row (by first | rfl | simp) (fun _ _ _ _ => rfl)) (CvL_cons (ro_row (by first | rfl | simp) (fun _ _ _ _ => rfl)) CvL_nil))))) (CvL_cons Cv_int CvL_nil))))
        · simp only [go_sem, CvH]
      replace H := cond_t hc H
      refine seqM ?_
      refine regO ?_
      refine cutO shT_ok ctNo_ok 3 ?_
      simp only [kO_normal, List.take_succ_cons, List.take_zero, List.drop_succ_cons, List.drop_zero, go_sem, Nat.reduceLT, Nat.reduceAdd, Nat.reduceSub, upc_ii]
      repeat ((with_reducible refine And.intro ?_ ?_); focus (first | (and_intros <;> first | (with_reducible trivial) | omega | assumption | exact nfc | first | exact rfl | exact trivial | exact fitI | exact .inr rfl | exact .inl rfl | exact fun x hx => absurd hx (by omega)) | grind))
      refine inlO (rs := [.cell 4 61]) Try.func89 (by kernel_rfl) rfl rfl Try.ntmps89 (caps := []) (tc := [.sl 5 43 0 (((gd r6.List r4.1.toNat).Held).length) false, .fn 90 []]) rfl (by simp only [go_sem]) rfl ?_
      simp only [List.length_cons, List.length_nil, Nat.reduceAdd, Nat.reduceSub, List.replicate_succ, List.replicate_zero, List.cons_append, List.nil_append]
      refine sq ctNo_ok ?_
      simp only [go_sem, Nat.reduceAdd]
      refine seqM ?_
      refine sq ctNo_ok ?_
      simp only [go_sem]
      repeat ((with_reducible refine And.intro ?_ ?_); focus (first | (and_intros <;> first | (with_reducible trivial) | omega | assumption | exact nfc | first | exact rfl | exact trivial | exact fitI | exact .inr rfl | exact .inl rfl | exact fun x hx => absurd hx (by omega)) | grind))
      refine condM rfl trivial (fun hc => ?_) (fun hc => ?_)
      · replace H := cond_t hc H
        cases H
      replace H := cond_f hc H
      refine rg ctNo_ok ?_
      simp only [go_sem]
      refine seqM ?_
      obtain ⟨f14, H⟩ := need_some.1 H
      replace f14 := inb_iff.1 f14
      refine rg ctNo_ok ?_
      simp only [go_sem, Nat.reduceLT, Nat.reduceAdd, f14]
      repeat ((with_reducible refine And.intro ?_ ?_); focus (first | (with_reducible trivial) | omega | grind))
      refine seqM ?_
      refine sq ctNo_ok ?_
      simp only [go_sem]
      refine blkM ?_
      refine loop_den (fun s : Int × TStored => (.sl 5 43 0 (((gd r6.List r4.1.toNat).Held).length) false :: .fn 90 [] :: .top :: .top :: .ptr 9 0 0 0 :: .ptr 10 0 0 0 :: .int .i64 s.1 :: tp 26 [])) (fun s => [.dead, .dead, .lit 25 [.int .i64 0, .int .i64 0, .ro 0 0 true (fun _ _ => .top), .ro 0 0 true (fun _ _ => .top)], .lit 25 [.int .i64 r6.Limit, .int .i64 r6.Stay, .sl 4 3 0 r6.List.length false, .sl 6 43 0 r6.Group.length false], .row 57 3 r6.List.length (upc (enR c_TSleeper r6.List) r4.1.toNat 2 [.sl 5 43 0 (((gd r6.List r4.1.toNat).Held).length) false]), .row 61 43 (((gd r6.List r4.1.toNat).Held).length) (enR c_TStored ((gd r6.List r4.1.toNat).Held)), .row 61 43 r6.Group.length (enR c_TStored r6.Group), .row 5 1 r12.Body.length (enR c_u8 r12.Body), .lit 61 (.int .u8 p2 :: .int .i64 p4 :: .int .u8 r12.Head.Kind :: .int .u8 r12.Head.Sub :: .bool r12.Head.ToDs :: .bool r12.Head.FromDs :: .bool r12.Head.More :: .bool r12.Head.Retry :: .bool r12.Head.Sleep :: .bool r12.Head.MoreData :: .bool r12.Head.Protected :: .int .i64 r12.Head.Duration :: .int .u8 r12.Head.A1.x0 :: .int .u8 r12.Head.A1.x1 :: .int .u8 r12.Head.A1.x2 :: .int .u8 r12.Head.A1.x3 :: .int .u8 r12.Head.A1.x4 :: .int .u8 r12.Head.A1.x5 :: .int .u8 r12.Head.A2.x0 :: .int .u8 r12.Head.A2.x1 :: .int .u8 r12.Head.A2.x2 :: .int .u8 r12.Head.A2.x3 :: .int .u8 r12.Head.A2.x4 :: .int .u8 r12.Head.A2.x5 :: .int .u8 r12.Head.A3.x0 :: .int .u8 r12.Head.A3.x1 :: .int .u8 r12.Head.A3.x2 :: .int .u8 r12.Head.A3.x3 :: .int .u8 r12.Head.A3.x4 :: .int .u8 r12.Head.A3.x5 :: .int .u8 r12.Head.A4.x0 :: .int .u8 r12.Head.A4.x1 :: .int .u8 r12.Head.A4.x2 :: .int .u8 r12.Head.A4.x3 :: .int .u8 r12.Head.A4.x4 :: .int .u8 r12.Head.A4.x5 :: .int .i64 r12.Head.Seq :: .int .i64 r12.Head.Frag :: .int .i64 r12.Head.Tid :: .int .u8 r12.Head.Ack :: .bool r12.Head.Amsdu :: .bool r12.Head.Eosp :: .sl 7 1 0 r12.Body.length false :: []), .lit 61 (.int .u8 0 :: .int .i64 0 :: .int .u8 0 :: .int .u8 0 :: .bool false :: .bool false :: .bool false :: .bool false :: .bool false :: .bool false :: .bool false :: .int .i64 0 :: .int .u8 0 :: .int .u8 0 :: .int .u8 0 :: .int .u8 0 :: .int .u8 0 :: .int .u8 0 :: .int .u8 0 :: .int .u8 0 :: .int .u8 0 :: .int .u8 0 :: .int .u8 0 :: .int .u8 0 :: .int .u8 0 :: .int .u8 0 :: .int .u8 0 :: .int .u8 0 :: .int .u8 0 :: .int .u8 0 :: .int .u8 0 :: .int .u8 0 :: .int .u8 0 :: .int .u8 0 :: .int .u8 0 :: .int .u8 0 :: .int .i64 0 :: .int .i64 0 :: .int .i64 0 :: .int .u8 0 :: .bool false :: .bool false :: .ro 0 0 true (fun _ _ => .top) :: []), .lit 61 (.int .u8 s.2.Cat :: .int .i64 s.2.At :: .int .u8 s.2.Frame.Head.Kind :: .int .u8 s.2.Frame.Head.Sub :: .bool s.2.Frame.Head.ToDs :: .bool s.2.Frame.Head.FromDs :: .bool s.2.Frame.Head.More :: .bool s.2.Frame.Head.Retry :: .bool s.2.Frame.Head.Sleep :: .bool s.2.Frame.Head.MoreData :: .bool s.2.Frame.Head.Protected :: .int .i64 s.2.Frame.Head.Duration :: .int .u8 s.2.Frame.Head.A1.x0 :: .int .u8 s.2.Frame.Head.A1.x1 :: .int .u8 s.2.Frame.Head.A1.x2 :: .int .u8 s.2.Frame.Head.A1.x3 :: .int .u8 s.2.Frame.Head.A1.x4 :: .int .u8 s.2.Frame.Head.A1.x5 :: .int .u8 s.2.Frame.Head.A2.x0 :: .int .u8 s.2.Frame.Head.A2.x1 :: .int .u8 s.2.Frame.Head.A2.x2 :: .int .u8 s.2.Frame.Head.A2.x3 :: .int .u8 s.2.Frame.Head.A2.x4 :: .int .u8 s.2.Frame.Head.A2.x5 :: .int .u8 s.2.Frame.Head.A3.x0 :: .int .u8 s.2.Frame.Head.A3.x1 :: .int .u8 s.2.Frame.Head.A3.x2 :: .int .u8 s.2.Frame.Head.A3.x3 :: .int .u8 s.2.Frame.Head.A3.x4 :: .int .u8 s.2.Frame.Head.A3.x5 :: .int .u8 s.2.Frame.Head.A4.x0 :: .int .u8 s.2.Frame.Head.A4.x1 :: .int .u8 s.2.Frame.Head.A4.x2 :: .int .u8 s.2.Frame.Head.A4.x3 :: .int .u8 s.2.Frame.Head.A4.x4 :: .int .u8 s.2.Frame.Head.A4.x5 :: .int .i64 s.2.Frame.Head.Seq :: .int .i64 s.2.Frame.Head.Frag :: .int .i64 s.2.Frame.Head.Tid :: .int .u8 s.2.Frame.Head.Ack :: .bool s.2.Frame.Head.Amsdu :: .bool s.2.Frame.Head.Eosp :: .ro 1 s.2.Frame.Body.length false (enR c_u8 s.2.Frame.Body) :: [])]) (fun e : TStored => (tp 4 (.ptr 9 0 0 0 :: .ptr 10 0 0 0 :: tp 27 []))) (fun e => [.dead, .dead, .lit 25 [.int .i64 0, .int .i64 0, .ro 0 0 true (fun _ _ => .top), .ro 0 0 true (fun _ _ => .top)], .lit 25 [.int .i64 r6.Limit, .int .i64 r6.Stay, .sl 4 3 0 r6.List.length false, .sl 6 43 0 r6.Group.length false], .row 57 3 r6.List.length (upc (enR c_TSleeper r6.List) r4.1.toNat 2 [.sl 5 43 0 (((gd r6.List r4.1.toNat).Held).length) false]), .row 61 43 (((gd r6.List r4.1.toNat).Held).length) (enR c_TStored ((gd r6.List r4.1.toNat).Held)), .row 61 43 r6.Group.length (enR c_TStored r6.Group), .row 5 1 r12.Body.length (enR c_u8 r12.Body), .lit 61 (.int .u8 p2 :: .int .i64 p4 :: .int .u8 r12.Head.Kind :: .int .u8 r12.Head.Sub :: .bool r12.Head.ToDs :: .bool r12.Head.FromDs :: .bool r12.Head.More :: .bool r12.Head.Retry :: .bool r12.Head.Sleep :: .bool r12.Head.MoreData :: .bool r12.Head.Protected :: .int .i64 r12.Head.Duration :: .int .u8 r12.Head.A1.x0 :: .int .u8 r12.Head.A1.x1 :: .int .u8 r12.Head.A1.x2 :: .int .u8 r12.Head.A1.x3 :: .int .u8 r12.Head.A1.x4 :: .int .u8 r12.Head.A1.x5 :: .int .u8 r12.Head.A2.x0 :: .int .u8 r12.Head.A2.x1 :: .int .u8 r12.Head.A2.x2 :: .int .u8 r12.Head.A2.x3 :: .int .u8 r12.Head.A2.x4 :: .int .u8 r12.Head.A2.x5 :: .int .u8 r12.Head.A3.x0 :: .int .u8 r12.Head.A3.x1 :: .int .u8 r12.Head.A3.x2 :: .int .u8 r12.Head.A3.x3 :: .int .u8 r12.Head.A3.x4 :: .int .u8 r12.Head.A3.x5 :: .int .u8 r12.Head.A4.x0 :: .int .u8 r12.Head.A4.x1 :: .int .u8 r12.Head.A4.x2 :: .int .u8 r12.Head.A4.x3 :: .int .u8 r12.Head.A4.x4 :: .int .u8 r12.Head.A4.x5 :: .int .i64 r12.Head.Seq :: .int .i64 r12.Head.Frag :: .int .i64 r12.Head.Tid :: .int .u8 r12.Head.Ack :: .bool r12.Head.Amsdu :: .bool r12.Head.Eosp :: .sl 7 1 0 r12.Body.length false :: []), .lit 61 (.int .u8 0 :: .int .i64 0 :: .int .u8 0 :: .int .u8 0 :: .bool false :: .bool false :: .bool false :: .bool false :: .bool false :: .bool false :: .bool false :: .int .i64 0 :: .int .u8 0 :: .int .u8 0 :: .int .u8 0 :: .int .u8 0 :: .int .u8 0 :: .int .u8 0 :: .int .u8 0 :: .int .u8 0 :: .int .u8 0 :: .int .u8 0 :: .int .u8 0 :: .int .u8 0 :: .int .u8 0 :: .int .u8 0 :: .int .u8 0 :: .int .u8 0 :: .int .u8 0 :: .int .u8 0 :: .int .u8 0 :: .int .u8 0 :: .int .u8 0 :: .int .u8 0 :: .int .u8 0 :: .int .u8 0 :: .int .i64 0 :: .int .i64 0 :: .int .i64 0 :: .int .u8 0 :: .bool false :: .bool false :: .ro 0 0 true (fun _ _ => .top) :: []), .lit 61 (.int .u8 e.Cat :: .int .i64 e.At :: .int .u8 e.Frame.Head.Kind :: .int .u8 e.Frame.Head.Sub :: .bool e.Frame.Head.ToDs :: .bool e.Frame.Head.FromDs :: .bool e.Frame.Head.More :: .bool e.Frame.Head.Retry :: .bool e.Frame.Head.Sleep :: .bool e.Frame.Head.MoreData :: .bool e.Frame.Head.Protected :: .int .i64 e.Frame.Head.Duration :: .int .u8 e.Frame.Head.A1.x0 :: .int .u8 e.Frame.Head.A1.x1 :: .int .u8 e.Frame.Head.A1.x2 :: .int .u8 e.Frame.Head.A1.x3 :: .int .u8 e.Frame.Head.A1.x4 :: .int .u8 e.Frame.Head.A1.x5 :: .int .u8 e.Frame.Head.A2.x0 :: .int .u8 e.Frame.Head.A2.x1 :: .int .u8 e.Frame.Head.A2.x2 :: .int .u8 e.Frame.Head.A2.x3 :: .int .u8 e.Frame.Head.A2.x4 :: .int .u8 e.Frame.Head.A2.x5 :: .int .u8 e.Frame.Head.A3.x0 :: .int .u8 e.Frame.Head.A3.x1 :: .int .u8 e.Frame.Head.A3.x2 :: .int .u8 e.Frame.Head.A3.x3 :: .int .u8 e.Frame.Head.A3.x4 :: .int .u8 e.Frame.Head.A3.x5 :: .int .u8 e.Frame.Head.A4.x0 :: .int .u8 e.Frame.Head.A4.x1 :: .int .u8 e.Frame.Head.A4.x2 :: .int .u8 e.Frame.Head.A4.x3 :: .int .u8 e.Frame.Head.A4.x4 :: .int .u8 e.Frame.Head.A4.x5 :: .int .i64 e.Frame.Head.Seq :: .int .i64 e.Frame.Head.Frag :: .int .i64 e.Frame.Head.Tid :: .int .u8 e.Frame.Head.Ack :: .bool e.Frame.Head.Amsdu :: .bool e.Frame.Head.Eosp :: .ro 1 e.Frame.Body.length false (enR c_u8 e.Frame.Body) :: [])]) H ?_ (fun s o H hn1_1 hn2_1 => ?_) (fun w1_6 H => ?_)
      · refine SubF_of ⟨[some 0, some 1, some 2, some 3, some 4, some 5, some 6, some 7, some 8, some 9, some 10], ?_, ?_, by rfl, by rfl⟩
        · simp [CvL, Cv, getM, tp]
        · exact ⟨CvB_dead, CvB_dead, (by simp [CvB, CvL, Cv, blkAt, geth]), (by simp [CvB, CvL, Cv, blkAt, geth, getM]), (CvB_focG (i := r4.1.toNat) (L := r6.List) nr_TSleeper (fun x y hx => by simp only [upc_ne hx]) (fun y hy => match y, hy with | 0, _ => by simp [upc_ii, getL, Cv, enR, c_TSleeper] | 1, _ => by simp [upc_ii, getL, Cv, enR, c_TSleeper] | 2, _ => by simp [upc_ii, getL, Cv, getM, enR, c_TSleeper] | (y+3), h => absurd h (by omega))), (CvB_same nfA), (CvB_same nfA), (CvB_same nfA), (by simp [CvB, CvL, Cv, blkAt, geth, getM]), (by simp [CvB, CvL, Cv, blkAt, geth]), (by simp [CvB, CvL, Cv, blkAt, geth]), trivial⟩
      · obtain ⟨v1_1, v1_2⟩ := s
        unfold F24_L1 at H
        try dsimp only at H ⊢
        try simp only [tp]
        refine seqM ?_
        refine sq ctNo_ok ?_
        simp only [go_sem, Nat.reduceAdd]
        repeat ((with_reducible refine And.intro ?_ ?_); focus (first | (and_intros <;> first | (with_reducible trivial) | omega | assumption | exact nfc | first | exact rfl | exact trivial | exact fitI | exact .inr rfl | exact .inl rfl | exact fun x hx => absurd hx (by omega)) | grind))
        refine condM' rfl trivial (fun hc => ?_) (fun hc => ?_)
        · replace H := cond_f hc H
          refine rg ctNo_ok ?_
          simp only [go_sem]
          refine ⟨_, (Option.some.inj H).symm, ?_⟩
          refine SubF_of ⟨[some 0, some 1, some 2, some 3, some 4, some 5, some 6, some 7, some 8, some 9, some 10], ?_, ?_, by rfl, by rfl⟩
          · simp [CvL, Cv, getM]
          · exact ⟨CvB_dead, CvB_dead, (by simp [CvB, CvL, Cv, blkAt, geth]), (by simp [CvB, CvL, Cv, blkAt, geth, getM]), (CvB_focG (i := r4.1.toNat) (L := r6.List) nr_TSleeper (fun x y hx => by simp only [upc_ne hx]) (fun y hy => match y, hy with | 0, _ => by simp [upc_ii, getL, Cv, enR, c_TSleeper] | 1, _ => by simp [upc_ii, getL, Cv, enR, c_TSleeper] | 2, _ => by simp [upc_ii, getL, Cv, getM, enR, c_TSleeper] | (y+3), h => absurd h (by omega))), (CvB_same nfA), (CvB_same nfA), (CvB_same nfA), (by simp [CvB, CvL, Cv, blkAt, geth, getM]), (by simp [CvB, CvL, Cv, blkAt, geth]), (by simp [CvB, CvL, Cv, blkAt, geth]), trivial⟩
        replace H := cond_t hc H
        refine rg ctNo_ok ?_
        simp only [go_sem]
        refine seqM ?_
        refine blkM ?_
        refine seqM ?_
        obtain ⟨f15, H⟩ := need_some.1 H
        replace f15 := inb_iff.1 f15
        obtain ⟨r16, e17, H⟩ := bsi H
        refine draw_quiet shT_ok ct24t6_ok (by kernel_rfl) (by kernel_rfl) ?_
        simp only [go_sem, Nat.reduceLT, Nat.reduceAdd, ct24t6_90, body90, f15, e17]
        repeat ((with_reducible refine And.intro ?_ ?_); focus (first | (and_intros <;> first | (with_reducible trivial) | omega | assumption | exact nfc | first | exact rfl | exact trivial | exact fitI | exact .inr rfl | exact .inl rfl | exact fun x hx => absurd hx (by omega)) | grind))
        refine condM' rfl trivial (fun hc => ?_) (fun hc => ?_)
        · replace H := cond_f hc H
          refine rg ctNo_ok ?_
          simp only [go_sem]
          refine rg ctNo_ok ?_
          simp only [go_sem]
          refine ⟨_, (Option.some.inj H).symm, ?_⟩
          refine SubF_of ⟨[some 0, some 1, some 2, some 3, some 4, some 5, some 6, some 7, some 8, some 9, some 10], ?_, ?_, by rfl, by rfl⟩
          · simp [CvL, Cv, getM]
          · exact ⟨CvB_dead, CvB_dead, (by simp [CvB, CvL, Cv, blkAt, geth]), (by simp [CvB, CvL, Cv, blkAt, geth, getM]), (CvB_focG (i := r4.1.toNat) (L := r6.List) nr_TSleeper (fun x y hx => by simp only [upc_ne hx]) (fun y hy => match y, hy with | 0, _ => by simp [upc_ii, getL, Cv, enR, c_TSleeper] | 1, _ => by simp [upc_ii, getL, Cv, enR, c_TSleeper] | 2, _ => by simp [upc_ii, getL, Cv, getM, enR, c_TSleeper] | (y+3), h => absurd h (by omega))), (CvB_same nfA), (CvB_same nfA), (CvB_same nfA), (by simp [CvB, CvL, Cv, blkAt, geth, getM]), (by simp [CvB, CvL, Cv, blkAt, geth]), (by simp [CvB, CvL, Cv, blkAt, geth]), trivial⟩
        replace H := cond_t hc H
        obtain ⟨f18, H⟩ := need_some.1 H
        replace f18 := inb_iff.1 f18
        refine rg ctNo_ok ?_
        simp only [go_sem, Nat.reduceLT, Nat.reduceAdd, f18]
        repeat ((with_reducible refine And.intro ?_ ?_); focus (first | (with_reducible trivial) | omega | grind))
        refine rg ctNo_ok ?_
        simp only [go_sem]
        refine ⟨_, (Option.some.inj H).symm, ?_⟩
        refine SubF_of ⟨[some 0, some 1, some 2, some 3, some 4, some 5, some 6, some 7, some 8, some 9, some 10], ?_, ?_, by rfl, by rfl⟩
        · simp [CvL, Cv, getM]
        · exact ⟨CvB_dead, CvB_dead, (by simp [CvB, CvL, Cv, blkAt, geth]), (by simp [CvB, CvL, Cv, blkAt, geth, getM]), (CvB_focG (i := r4.1.toNat) (L := r6.List) nr_TSleeper (fun x y hx => by simp only [upc_ne hx]) (fun y hy => match y, hy with | 0, _ => by simp [upc_ii, getL, Cv, enR, c_TSleeper] | 1, _ => by simp [upc_ii, getL, Cv, enR, c_TSleeper] | 2, _ => by simp [upc_ii, getL, Cv, getM, enR, c_TSleeper] | (y+3), h => absurd h (by omega))), (CvB_same nfA), (CvB_same nfA), (CvB_same nfA), (by simp [CvB, CvL, Cv, blkAt, geth, getM]), (by simp [CvB, CvL, Cv, blkAt, geth]), (by simp [CvB, CvL, Cv, blkAt, geth]), trivial⟩
      · try dsimp only at H ⊢
        try simp only [tp]
        try simp only [m_normal]
        refine sq ctNo_ok ?_
        simp only [go_sem, Nat.reduceLT, Nat.reduceAdd]
        repeat ((with_reducible refine And.intro ?_ ?_); focus (first | (with_reducible trivial) | omega | grind))
        refine rg ctNo_ok ?_
        simp only [go_sem, Nat.reduceLT, Nat.reduceAdd]
        refine cutO shT_ok ctNo_ok 3 ?_
        simp only [kO_normal, List.take_succ_cons, List.take_zero, List.drop_succ_cons, List.drop_zero, go_sem, Nat.reduceLeDiff, Nat.reduceLT, Nat.reduceAdd]
        repeat ((with_reducible refine And.intro ?_ ?_); focus (first | (and_intros <;> first | (with_reducible trivial) | omega | assumption | exact nfc | first | exact rfl | exact trivial | exact fitI | exact .inr rfl | exact .inl rfl | exact fun x hx => absurd hx (by omega)) | grind))
        refine endO ?_
        refine seqM ?_
        refine sq ctNo_ok ?_
        simp only [go_sem, Nat.reduceLeDiff, Nat.reduceLT, Nat.reduceAdd]
        repeat ((with_reducible refine And.intro ?_ ?_); focus (first | (with_reducible trivial) | omega | grind))
        refine condM rfl trivial (fun hc => ?_) (fun hc => ?_)
        · replace H := cond_t hc H
          refine seqM ?_
          refine regO ?_
          refine cutO shT_ok ctNo_ok 2 ?_
          simp only [kO_normal, List.take_succ_cons, List.take_zero, List.drop_succ_cons, List.drop_zero, go_sem, Nat.reduceLT, Nat.reduceAdd, reduceCtorEq]
          repeat ((with_reducible refine And.intro ?_ ?_); focus (first | (with_reducible trivial) | omega | grind))
          refine fzO [7] ?_ ?_
          · simp only [go_sem, Nat.reduceBEq]
            try (and_intros <;> first | (with_reducible trivial) | omega | exact nfc | trivial)
          simp only [go_sem, Nat.reduceBEq, Nat.reduceAdd]
          refine cutO shT_ok ctNo_ok 2 ?_
          simp only [kO_normal, List.take_succ_cons, List.take_zero, List.drop_succ_cons, List.drop_zero, go_sem, Nat.reduceLeDiff, Nat.reduceAdd]
          repeat ((with_reducible refine And.intro ?_ ?_); focus (first | (with_reducible trivial) | omega | grind))
          refine endO ?_
          refine rg ctNo_ok ?_
          simp only [go_sem]
          refine cutO shT_ok ctNo_ok 1 ?_
          simp only [kO_normal, List.take_succ_cons, List.take_zero, List.drop_succ_cons, List.drop_zero, go_sem]
          repeat ((with_reducible refine And.intro ?_ ?_); focus (first | (and_intros <;> first | (with_reducible trivial) | omega | assumption | exact nfc | first | exact rfl | exact trivial | exact fitI | exact .inr rfl | exact .inl rfl | exact fun x hx => absurd hx (by omega) | (intro x hx; (repeat (first | (and_intros <;> (first | exact rfl | exact trivial | exact fitI | exact .inr rfl | exact .inl rfl | exact fun x hx => absurd hx (by omega))) | (exfalso; omega) | (rcases x with _ | x))); done)) | grind))
          refine endO ?_
          refine seqM ?_
          refine draw_rule shT_ok ctNo_ok 0 (by kernel_rfl) (by kernel_rfl) ?_
          intro an han
          simp only [d_nil, d_cons, nxtD, xrD, xoD, roEq, minL, List.append_nil, refsOp, refs, mask, maskF, place, placeF, okLog, pairOk, hit, inL, slotsF, nrH, nrB, nrL, nr, List.replicate_zero, Nat.sub_self, Nat.add_zero, Nat.zero_add, Nat.reduceSub, Nat.lt_add_one, go_sem, Nat.reduceLeDiff, Nat.reduceLT, Nat.reduceAdd, Nat.reduceSub, Nat.reduceBEq]
          repeat ((with_reducible refine And.intro ?_ ?_); focus (and_intros <;> first | (with_reducible trivial) | (show anB _ _ _ = true; subst han; kernel_rfl) | (show (anB _ _ _ && _) = true; subst han; kernel_rfl) | omega | assumption | exact nrc | exact nfc | first | exact rfl | exact trivial | exact fitI | exact .inr rfl | exact .inl rfl | exact fun x hx => absurd hx (by omega) | (intro x hx; (repeat (first | (and_intros <;> (first | exact rfl | exact trivial | exact fitI | exact .inr rfl | exact .inl rfl | exact fun x hx => absurd hx (by omega))) | (exfalso; omega) | (rcases x with _ | x))); done)))
          refine fz2_mean [5] [4] ?_ ?_
          · simp only [go_sem, Nat.reduceBEq, Nat.reduceAdd, fzObHF2, fzObB2]
            first | exact (foc_ob (L := r6.List) (i := r4.1.toNat) (fun a y => nrefL_getL (nr_TSleeper a) y) (fun x y hx => by simp only [upc_ne hx]) (fun y hy => match y, hy with | 0, _ => (by (simp [upc_ii, getL, fzOb, inL, geth, rowOb, enR, c_TSleeper]; all_goals (first | (with_reducible trivial) | (intros; exact nrefL_getL (NRf.h _) _) | (intros; exact nfc)))) | 1, _ => (by (simp [upc_ii, getL, fzOb, inL, geth, rowOb, enR, c_TSleeper]; all_goals (first | (with_reducible trivial) | (intros; exact nrefL_getL (NRf.h _) _) | (intros; exact nfc)))) | 2, _ => (by (simp [upc_ii, getL, fzOb, inL, geth, rowOb, enR, c_TSleeper]; all_goals (first | (with_reducible trivial) | (intros; exact nrefL_getL (NRf.h _) _) | (intros; exact nfc)))) | (y+3), h => absurd h (by omega))) | (and_intros <;> first | exact (foc_ob (L := r6.List) (i := r4.1.toNat) (fun a y => nrefL_getL (nr_TSleeper a) y) (fun x y hx => by simp only [upc_ne hx]) (fun y hy => match y, hy with | 0, _ => (by (simp [upc_ii, getL, fzOb, enR, c_TSleeper]; all_goals (first | (with_reducible trivial) | (intros; exact nrefL_getL (NRf.h _) _) | (intros; exact nfc)))) | 1, _ => (by (simp [upc_ii, getL, fzOb, enR, c_TSleeper]; all_goals (first | (with_reducible trivial) | (intros; exact nrefL_getL (NRf.h _) _) | (intros; exact nfc)))) | 2, _ => (by (simp [upc_ii, getL, fzOb, inL, geth, rowOb, enR, c_TSleeper]; all_goals (first | (with_reducible trivial) | (intros; exact nrefL_getL (NRf.h _) _) | (intros; exact nfc)))) | (y+3), h => absurd h (by omega))) | (with_reducible trivial) | omega | exact nfc | trivial)
          simp only [go_sem, Nat.reduceBEq, Nat.reduceAdd, fzH2, fzHF2, fzB2]
          obtain ⟨w19, hw20, H⟩ := bsi H
          replace hw20 := Option.some.inj hw20
          have lhw20 : w19.length = r6.List.length := by rw [← hw20]; exact (by simp only [List.length_set])
          obtain ⟨w21, hw22, H⟩ := bsi H
          replace hw22 := Option.some.inj hw22
          have lhw22 : w21.length = 1 := by rw [← hw22]; exact (by first | rfl | (simp; done) | (simp; omega))
          refine subF_mean (t2 := (tp 10 (.ro 0 0 true (fun _ _ => .top) :: .sl 12 41 0 w21.length false :: .ptr 2 0 0 0 :: .int .i64 0 :: tp 57 []))) (h2 := [.dead, .dead, .lit 25 [.int .i64 r6.Limit, .int .i64 r6.Stay, .sl 4 3 0 w19.length false, .sl 6 43 0 r6.Group.length false], .lit 25 [.int .i64 r6.Limit, .int .i64 r6.Stay, .sl 4 3 0 w19.length false, .sl 6 43 0 r6.Group.length false], .row 57 3 w19.length (enR c_TSleeper w19), .dead, .row 61 43 r6.Group.length (enR c_TStored r6.Group), .dead, .lit 61 (.int .u8 p2 :: .int .i64 p4 :: .int .u8 r12.Head.Kind :: .int .u8 r12.Head.Sub :: .bool r12.Head.ToDs :: .bool r12.Head.FromDs :: .bool r12.Head.More :: .bool r12.Head.Retry :: .bool r12.Head.Sleep :: .bool r12.Head.MoreData :: .bool r12.Head.Protected :: .int .i64 r12.Head.Duration :: .int .u8 r12.Head.A1.x0 :: .int .u8 r12.Head.A1.x1 :: .int .u8 r12.Head.A1.x2 :: .int .u8 r12.Head.A1.x3 :: .int .u8 r12.Head.A1.x4 :: .int .u8 r12.Head.A1.x5 :: .int .u8 r12.Head.A2.x0 :: .int .u8 r12.Head.A2.x1 :: .int .u8 r12.Head.A2.x2 :: .int .u8 r12.Head.A2.x3 :: .int .u8 r12.Head.A2.x4 :: .int .u8 r12.Head.A2.x5 :: .int .u8 r12.Head.A3.x0 :: .int .u8 r12.Head.A3.x1 :: .int .u8 r12.Head.A3.x2 :: .int .u8 r12.Head.A3.x3 :: .int .u8 r12.Head.A3.x4 :: .int .u8 r12.Head.A3.x5 :: .int .u8 r12.Head.A4.x0 :: .int .u8 r12.Head.A4.x1 :: .int .u8 r12.Head.A4.x2 :: .int .u8 r12.Head.A4.x3 :: .int .u8 r12.Head.A4.x4 :: .int .u8 r12.Head.A4.x5 :: .int .i64 r12.Head.Seq :: .int .i64 r12.Head.Frag :: .int .i64 r12.Head.Tid :: .int .u8 r12.Head.Ack :: .bool r12.Head.Amsdu :: .bool r12.Head.Eosp :: .ro 1 r12.Body.length false (enR c_u8 r12.Body) :: []), .lit 61 (.int .u8 w1_6.Cat :: .int .i64 w1_6.At :: .int .u8 w1_6.Frame.Head.Kind :: .int .u8 w1_6.Frame.Head.Sub :: .bool w1_6.Frame.Head.ToDs :: .bool w1_6.Frame.Head.FromDs :: .bool w1_6.Frame.Head.More :: .bool w1_6.Frame.Head.Retry :: .bool w1_6.Frame.Head.Sleep :: .bool w1_6.Frame.Head.MoreData :: .bool w1_6.Frame.Head.Protected :: .int .i64 w1_6.Frame.Head.Duration :: .int .u8 w1_6.Frame.Head.A1.x0 :: .int .u8 w1_6.Frame.Head.A1.x1 :: .int .u8 w1_6.Frame.Head.A1.x2 :: .int .u8 w1_6.Frame.Head.A1.x3 :: .int .u8 w1_6.Frame.Head.A1.x4 :: .int .u8 w1_6.Frame.Head.A1.x5 :: .int .u8 w1_6.Frame.Head.A2.x0 :: .int .u8 w1_6.Frame.Head.A2.x1 :: .int .u8 w1_6.Frame.Head.A2.x2 :: .int .u8 w1_6.Frame.Head.A2.x3 :: .int .u8 w1_6.Frame.Head.A2.x4 :: .int .u8 w1_6.Frame.Head.A2.x5 :: .int .u8 w1_6.Frame.Head.A3.x0 :: .int .u8 w1_6.Frame.Head.A3.x1 :: .int .u8 w1_6.Frame.Head.A3.x2 :: .int .u8 w1_6.Frame.Head.A3.x3 :: .int .u8 w1_6.Frame.Head.A3.x4 :: .int .u8 w1_6.Frame.Head.A3.x5 :: .int .u8 w1_6.Frame.Head.A4.x0 :: .int .u8 w1_6.Frame.Head.A4.x1 :: .int .u8 w1_6.Frame.Head.A4.x2 :: .int .u8 w1_6.Frame.Head.A4.x3 :: .int .u8 w1_6.Frame.Head.A4.x4 :: .int .u8 w1_6.Frame.Head.A4.x5 :: .int .i64 w1_6.Frame.Head.Seq :: .int .i64 w1_6.Frame.Head.Frag :: .int .i64 w1_6.Frame.Head.Tid :: .int .u8 w1_6.Frame.Head.Ack :: .bool w1_6.Frame.Head.Amsdu :: .bool w1_6.Frame.Head.Eosp :: .ro 1 w1_6.Frame.Body.length false (enR c_u8 w1_6.Frame.Body) :: []), .lit 61 (.int .u8 w1_6.Cat :: .int .i64 w1_6.At :: .int .u8 w1_6.Frame.Head.Kind :: .int .u8 w1_6.Frame.Head.Sub :: .bool w1_6.Frame.Head.ToDs :: .bool w1_6.Frame.Head.FromDs :: .bool w1_6.Frame.Head.More :: .bool w1_6.Frame.Head.Retry :: .bool w1_6.Frame.Head.Sleep :: .bool w1_6.Frame.Head.MoreData :: .bool w1_6.Frame.Head.Protected :: .int .i64 w1_6.Frame.Head.Duration :: .int .u8 w1_6.Frame.Head.A1.x0 :: .int .u8 w1_6.Frame.Head.A1.x1 :: .int .u8 w1_6.Frame.Head.A1.x2 :: .int .u8 w1_6.Frame.Head.A1.x3 :: .int .u8 w1_6.Frame.Head.A1.x4 :: .int .u8 w1_6.Frame.Head.A1.x5 :: .int .u8 w1_6.Frame.Head.A2.x0 :: .int .u8 w1_6.Frame.Head.A2.x1 :: .int .u8 w1_6.Frame.Head.A2.x2 :: .int .u8 w1_6.Frame.Head.A2.x3 :: .int .u8 w1_6.Frame.Head.A2.x4 :: .int .u8 w1_6.Frame.Head.A2.x5 :: .int .u8 w1_6.Frame.Head.A3.x0 :: .int .u8 w1_6.Frame.Head.A3.x1 :: .int .u8 w1_6.Frame.Head.A3.x2 :: .int .u8 w1_6.Frame.Head.A3.x3 :: .int .u8 w1_6.Frame.Head.A3.x4 :: .int .u8 w1_6.Frame.Head.A3.x5 :: .int .u8 w1_6.Frame.Head.A4.x0 :: .int .u8 w1_6.Frame.Head.A4.x1 :: .int .u8 w1_6.Frame.Head.A4.x2 :: .int .u8 w1_6.Frame.Head.A4.x3 :: .int .u8 w1_6.Frame.Head.A4.x4 :: .int .u8 w1_6.Frame.Head.A4.x5 :: .int .i64 w1_6.Frame.Head.Seq :: .int .i64 w1_6.Frame.Head.Frag :: .int .i64 w1_6.Frame.Head.Tid :: .int .u8 w1_6.Frame.Head.Ack :: .bool w1_6.Frame.Head.Amsdu :: .bool w1_6.Frame.Head.Eosp :: .ro 1 w1_6.Frame.Body.length false (enR c_u8 w1_6.Frame.Body) :: []), .lit 5 [.int .u8 w1_6.Cat], .row 33 41 w21.length (enR c_TFrame w21)]) ?_ ?_
          · refine SubF_of ⟨[some 0, some 1, some 2, some 3, some 4, some 5, some 6, some 7, some 8, some 9, some 10, some 11, some 12], ?_, ?_, by rfl, by rfl⟩
            · simp [CvL, Cv, getM, tp, lhw22]
            · exact ⟨CvB_dead, CvB_dead, (by simp [CvB, CvL, Cv, blkAt, geth, getM, lhw20]), (by simp [CvB, CvL, Cv, blkAt, geth, getM, lhw20]), CvB_row nr_TSleeper lhw20 (hw20 ▸ (foc_row (L := r6.List) (i := r4.1.toNat) (fun a y => nrefL_getL (nr_TSleeper a) y) (fun x y hx => by simp only [upc_ne hx]) (fun y hy => match y, hy with | 0, _ => by simp [upc_ii, getL, fzV, enR, c_TSleeper] | 1, _ => by simp [upc_ii, getL, fzV, enR, c_TSleeper] | 2, _ => by simp [upc_ii, getL, fzV, inL, geth, enR, c_TSleeper, sub_enR0] | (y+3), h => absurd h (by omega)))), CvB_dead, CvB_row nr_TStored rfl (fun _ _ _ _ => rfl), CvB_dead, (by simp [CvB, CvL, Cv, blkAt, geth]), (by simp [CvB, CvL, Cv, blkAt, geth]), (by simp [CvB, CvL, Cv, blkAt, geth]), (by simp [CvB, CvL, Cv, blkAt, geth]), CvB_row nr_TFrame lhw22 (hw22 ▸ (lit_row (f := c_TFrame) [r12] (fun _ _ => rfl) rfl)), trivial⟩
          simp only [tp]
          refine rg ctNo_ok ?_
          simp only [go_sem, Nat.reduceLT, Nat.reduceAdd]
          obtain rfl := Option.some.inj H
          refine ⟨[12, 4, 6, 2, 3, 8, 9, 10, 11], ?_, ?_, [], ?_, ?_, rfl⟩
          · simp only [go_sem, Nat.reduceBEq]
            try (and_intros <;> first | (with_reducible trivial) | omega | exact nfc | trivial)
          · simp only [go_sem, Nat.reduceBEq]
            try (and_intros <;> first | (with_reducible trivial) | omega | exact nfc | trivial)
          · simp only [go_sem, Nat.reduceBEq]
            exact Cv_tup (CvL_cons (Cv_ronil (α := TFrame)) (CvL_cons (ro_row (by first | rfl | simp) (fun _ _ _ _ => rfl)) (CvL_cons (Cv_agg (CvL_cons Cv_int (CvL_cons Cv_int (CvL_cons (ro_row (by first | rfl | simp) (fun _ _ _ _ => rfl)) (CvL_cons (ro_row (by first | rfl | simp) (fun _ _ _ _ => rfl)) CvL_nil))))) (CvL_cons Cv_int CvL_nil))))
          · simp only [go_sem, CvH]
        replace H := cond_f hc H
        refine rg ctNo_ok ?_
        simp only [go_sem]
        refine seqM ?_
        obtain ⟨r23, e24, H⟩ := bsi H
        refine rg ct24t7_ok ?_
        simp only [go_sem, Nat.reduceLT, Nat.reduceAdd, Nat.reduceSub, upc_ii, ct24t7_58, body58_0, e24]
        repeat ((with_reducible refine And.intro ?_ ?_); focus (first | (and_intros <;> first | (with_reducible trivial) | omega | assumption | exact nfc | first | exact rfl | exact trivial | exact fitI | exact .inr rfl | exact .inl rfl | exact fun x hx => absurd hx (by omega)) | grind))
        refine seqM ?_
        obtain ⟨f25, H⟩ := need_some.1 H
        replace f25 := inb_iff.1 f25
        refine rg ctNo_ok ?_
        simp only [go_sem, Nat.reduceLeDiff, Nat.reduceLT, Nat.reduceAdd, Nat.reduceSub, reduceCtorEq, upc_ii, f25]
        repeat ((with_reducible refine And.intro ?_ ?_); focus (first | (with_reducible trivial) | omega | grind))
        obtain ⟨f26, H⟩ := need_some.1 H
        replace f26 := delb_iff.1 f26
        refine rg ct24t8_ok ?_
        simp only [go_sem, Nat.reduceLT, Nat.reduceAdd, Nat.reduceSub, upc_ii, ct24t8_60, delN, f26]
        repeat ((with_reducible refine And.intro ?_ ?_); focus (first | (and_intros <;> first | (with_reducible trivial) | omega | assumption | exact nfc | first | exact rfl | exact trivial | exact fitI | exact .inr rfl | exact .inl rfl | exact fun x hx => absurd hx (by omega) | (intro x hx; (repeat (first | (and_intros <;> (first | exact rfl | exact trivial | exact fitI | exact .inr rfl | exact .inl rfl | exact fun x hx => absurd hx (by omega))) | (exfalso; omega) | (rcases x with _ | x))); done)) | grind))
        refine seqM ?_
        obtain ⟨w27, hw28, H⟩ := bsi H
        replace hw28 := Option.some.inj hw28
        have lhw28 : w27.length = 1 := by rw [← hw28]; exact (by first | rfl | (simp; done) | (simp; omega))
        obtain ⟨w29, hw30, H⟩ := bsi H
        replace hw30 := Option.some.inj hw30
        have lhw30 : w29.length = ((gd r6.List r4.1.toNat).Held).length - ((wr .i64 (r23 + 1)).toNat - r23.toNat) := by rw [← hw30]; exact (del_len f26 (by first | rfl | (simp; done) | (simp; omega)))
        refine subF_mean (t2 := (.ptr 4 3 r4.1.toNat 2 :: tp 4 (.ptr 8 0 0 0 :: .sl 12 41 0 w27.length false :: tp 51 []))) (h2 := [.dead, .dead, .lit 25 [.int .i64 0, .int .i64 0, .ro 0 0 true (fun _ _ => .top), .ro 0 0 true (fun _ _ => .top)], .lit 25 [.int .i64 r6.Limit, .int .i64 r6.Stay, .sl 4 3 0 r6.List.length false, .sl 6 43 0 r6.Group.length false], .row 57 3 r6.List.length (upc (enR c_TSleeper r6.List) r4.1.toNat 0 [.int .i64 ((gd r6.List r4.1.toNat).Aid), .bool ((gd r6.List r4.1.toNat).Asleep), .sl 13 43 0 w29.length false]), .dead, .row 61 43 r6.Group.length (enR c_TStored r6.Group), .row 5 1 r12.Body.length (enR c_u8 r12.Body), .lit 61 (.int .u8 p2 :: .int .i64 p4 :: .int .u8 r12.Head.Kind :: .int .u8 r12.Head.Sub :: .bool r12.Head.ToDs :: .bool r12.Head.FromDs :: .bool r12.Head.More :: .bool r12.Head.Retry :: .bool r12.Head.Sleep :: .bool r12.Head.MoreData :: .bool r12.Head.Protected :: .int .i64 r12.Head.Duration :: .int .u8 r12.Head.A1.x0 :: .int .u8 r12.Head.A1.x1 :: .int .u8 r12.Head.A1.x2 :: .int .u8 r12.Head.A1.x3 :: .int .u8 r12.Head.A1.x4 :: .int .u8 r12.Head.A1.x5 :: .int .u8 r12.Head.A2.x0 :: .int .u8 r12.Head.A2.x1 :: .int .u8 r12.Head.A2.x2 :: .int .u8 r12.Head.A2.x3 :: .int .u8 r12.Head.A2.x4 :: .int .u8 r12.Head.A2.x5 :: .int .u8 r12.Head.A3.x0 :: .int .u8 r12.Head.A3.x1 :: .int .u8 r12.Head.A3.x2 :: .int .u8 r12.Head.A3.x3 :: .int .u8 r12.Head.A3.x4 :: .int .u8 r12.Head.A3.x5 :: .int .u8 r12.Head.A4.x0 :: .int .u8 r12.Head.A4.x1 :: .int .u8 r12.Head.A4.x2 :: .int .u8 r12.Head.A4.x3 :: .int .u8 r12.Head.A4.x4 :: .int .u8 r12.Head.A4.x5 :: .int .i64 r12.Head.Seq :: .int .i64 r12.Head.Frag :: .int .i64 r12.Head.Tid :: .int .u8 r12.Head.Ack :: .bool r12.Head.Amsdu :: .bool r12.Head.Eosp :: .sl 7 1 0 r12.Body.length false :: []), .lit 61 (.int .u8 w1_6.Cat :: .int .i64 w1_6.At :: .int .u8 w1_6.Frame.Head.Kind :: .int .u8 w1_6.Frame.Head.Sub :: .bool w1_6.Frame.Head.ToDs :: .bool w1_6.Frame.Head.FromDs :: .bool w1_6.Frame.Head.More :: .bool w1_6.Frame.Head.Retry :: .bool w1_6.Frame.Head.Sleep :: .bool w1_6.Frame.Head.MoreData :: .bool w1_6.Frame.Head.Protected :: .int .i64 w1_6.Frame.Head.Duration :: .int .u8 w1_6.Frame.Head.A1.x0 :: .int .u8 w1_6.Frame.Head.A1.x1 :: .int .u8 w1_6.Frame.Head.A1.x2 :: .int .u8 w1_6.Frame.Head.A1.x3 :: .int .u8 w1_6.Frame.Head.A1.x4 :: .int .u8 w1_6.Frame.Head.A1.x5 :: .int .u8 w1_6.Frame.Head.A2.x0 :: .int .u8 w1_6.Frame.Head.A2.x1 :: .int .u8 w1_6.Frame.Head.A2.x2 :: .int .u8 w1_6.Frame.Head.A2.x3 :: .int .u8 w1_6.Frame.Head.A2.x4 :: .int .u8 w1_6.Frame.Head.A2.x5 :: .int .u8 w1_6.Frame.Head.A3.x0 :: .int .u8 w1_6.Frame.Head.A3.x1 :: .int .u8 w1_6.Frame.Head.A3.x2 :: .int .u8 w1_6.Frame.Head.A3.x3 :: .int .u8 w1_6.Frame.Head.A3.x4 :: .int .u8 w1_6.Frame.Head.A3.x5 :: .int .u8 w1_6.Frame.Head.A4.x0 :: .int .u8 w1_6.Frame.Head.A4.x1 :: .int .u8 w1_6.Frame.Head.A4.x2 :: .int .u8 w1_6.Frame.Head.A4.x3 :: .int .u8 w1_6.Frame.Head.A4.x4 :: .int .u8 w1_6.Frame.Head.A4.x5 :: .int .i64 w1_6.Frame.Head.Seq :: .int .i64 w1_6.Frame.Head.Frag :: .int .i64 w1_6.Frame.Head.Tid :: .int .u8 w1_6.Frame.Head.Ack :: .bool w1_6.Frame.Head.Amsdu :: .bool w1_6.Frame.Head.Eosp :: .ro 1 w1_6.Frame.Body.length false (enR c_u8 w1_6.Frame.Body) :: []), .lit 61 (.int .u8 w1_6.Cat :: .int .i64 w1_6.At :: .int .u8 w1_6.Frame.Head.Kind :: .int .u8 w1_6.Frame.Head.Sub :: .bool w1_6.Frame.Head.ToDs :: .bool w1_6.Frame.Head.FromDs :: .bool w1_6.Frame.Head.More :: .bool w1_6.Frame.Head.Retry :: .bool w1_6.Frame.Head.Sleep :: .bool w1_6.Frame.Head.MoreData :: .bool w1_6.Frame.Head.Protected :: .int .i64 w1_6.Frame.Head.Duration :: .int .u8 w1_6.Frame.Head.A1.x0 :: .int .u8 w1_6.Frame.Head.A1.x1 :: .int .u8 w1_6.Frame.Head.A1.x2 :: .int .u8 w1_6.Frame.Head.A1.x3 :: .int .u8 w1_6.Frame.Head.A1.x4 :: .int .u8 w1_6.Frame.Head.A1.x5 :: .int .u8 w1_6.Frame.Head.A2.x0 :: .int .u8 w1_6.Frame.Head.A2.x1 :: .int .u8 w1_6.Frame.Head.A2.x2 :: .int .u8 w1_6.Frame.Head.A2.x3 :: .int .u8 w1_6.Frame.Head.A2.x4 :: .int .u8 w1_6.Frame.Head.A2.x5 :: .int .u8 w1_6.Frame.Head.A3.x0 :: .int .u8 w1_6.Frame.Head.A3.x1 :: .int .u8 w1_6.Frame.Head.A3.x2 :: .int .u8 w1_6.Frame.Head.A3.x3 :: .int .u8 w1_6.Frame.Head.A3.x4 :: .int .u8 w1_6.Frame.Head.A3.x5 :: .int .u8 w1_6.Frame.Head.A4.x0 :: .int .u8 w1_6.Frame.Head.A4.x1 :: .int .u8 w1_6.Frame.Head.A4.x2 :: .int .u8 w1_6.Frame.Head.A4.x3 :: .int .u8 w1_6.Frame.Head.A4.x4 :: .int .u8 w1_6.Frame.Head.A4.x5 :: .int .i64 w1_6.Frame.Head.Seq :: .int .i64 w1_6.Frame.Head.Frag :: .int .i64 w1_6.Frame.Head.Tid :: .int .u8 w1_6.Frame.Head.Ack :: .bool w1_6.Frame.Head.Amsdu :: .bool w1_6.Frame.Head.Eosp :: .ro 1 w1_6.Frame.Body.length false (enR c_u8 w1_6.Frame.Body) :: []), .lit 5 [.int .u8 w1_6.Cat], .row 33 41 w27.length (enR c_TFrame w27), .row 61 43 w29.length (enR c_TStored w29)]) ?_ ?_
        · refine SubF_of ⟨[some 0, some 1, some 2, some 3, some 4, some 5, some 6, some 7, some 8, some 9, some 10, some 11, some 12, some 13], ?_, ?_, by rfl, by rfl⟩
          · simp [CvL, Cv, getM, tp, lhw28]
          · exact ⟨CvB_dead, CvB_dead, (by simp [CvB, CvL, Cv, blkAt, geth]), (by simp [CvB, CvL, Cv, blkAt, geth, getM]), (CvB_focG2 (i := r4.1.toNat) (L := r6.List) nr_TSleeper (fun x y hx => by simp only [upc_ne hx]) (fun x y hx => by simp only [upc_ne hx]) (fun y hy => match y, hy with | 0, _ => by simp [upc_ii, getL, Cv, enR, c_TSleeper, lhw30] | 1, _ => by simp [upc_ii, getL, Cv, enR, c_TSleeper, lhw30] | 2, _ => by simp [upc_ii, getL, Cv, getM, enR, c_TSleeper, lhw30] | (y+3), h => absurd h (by omega))), CvB_dead, CvB_row nr_TStored rfl (fun _ _ _ _ => rfl), CvB_row nr_u8 rfl (fun _ _ _ _ => rfl), (by simp [CvB, CvL, Cv, blkAt, geth, getM]), (by simp [CvB, CvL, Cv, blkAt, geth]), (by simp [CvB, CvL, Cv, blkAt, geth]), (by simp [CvB, CvL, Cv, blkAt, geth]), CvB_row nr_TFrame lhw28 (hw28 ▸ (lit_row (f := c_TFrame) [(TFrame.mk (THeader.mk ((((gd ((gd r6.List r4.1.toNat).Held) r23.toNat).Frame).Head).Kind) ((((gd ((gd r6.List r4.1.toNat).Held) r23.toNat).Frame).Head).Sub) ((((gd ((gd r6.List r4.1.toNat).Held) r23.toNat).Frame).Head).ToDs) ((((gd ((gd r6.List r4.1.toNat).Held) r23.toNat).Frame).Head).FromDs) ((((gd ((gd r6.List r4.1.toNat).Held) r23.toNat).Frame).Head).More) ((((gd ((gd r6.List r4.1.toNat).Held) r23.toNat).Frame).Head).Retry) ((((gd ((gd r6.List r4.1.toNat).Held) r23.toNat).Frame).Head).Sleep) ((((gd ((gd r6.List r4.1.toNat).Held) r23.toNat).Frame).Head).MoreData) ((((gd ((gd r6.List r4.1.toNat).Held) r23.toNat).Frame).Head).Protected) ((((gd ((gd r6.List r4.1.toNat).Held) r23.toNat).Frame).Head).Duration) (A6u8.mk (((((gd ((gd r6.List r4.1.toNat).Held) r23.toNat).Frame).Head).A1).x0) (((((gd ((gd r6.List r4.1.toNat).Held) r23.toNat).Frame).Head).A1).x1) (((((gd ((gd r6.List r4.1.toNat).Held) r23.toNat).Frame).Head).A1).x2) (((((gd ((gd r6.List r4.1.toNat).Held) r23.toNat).Frame).Head).A1).x3) (((((gd ((gd r6.List r4.1.toNat).Held) r23.toNat).Frame).Head).A1).x4) (((((gd ((gd r6.List r4.1.toNat).Held) r23.toNat).Frame).Head).A1).x5)) (A6u8.mk (((((gd ((gd r6.List r4.1.toNat).Held) r23.toNat).Frame).Head).A2).x0) (((((gd ((gd r6.List r4.1.toNat).Held) r23.toNat).Frame).Head).A2).x1) (((((gd ((gd r6.List r4.1.toNat).Held) r23.toNat).Frame).Head).A2).x2) (((((gd ((gd r6.List r4.1.toNat).Held) r23.toNat).Frame).Head).A2).x3) (((((gd ((gd r6.List r4.1.toNat).Held) r23.toNat).Frame).Head).A2).x4) (((((gd ((gd r6.List r4.1.toNat).Held) r23.toNat).Frame).Head).A2).x5)) (A6u8.mk (((((gd ((gd r6.List r4.1.toNat).Held) r23.toNat).Frame).Head).A3).x0) (((((gd ((gd r6.List r4.1.toNat).Held) r23.toNat).Frame).Head).A3).x1) (((((gd ((gd r6.List r4.1.toNat).Held) r23.toNat).Frame).Head).A3).x2) (((((gd ((gd r6.List r4.1.toNat).Held) r23.toNat).Frame).Head).A3).x3) (((((gd ((gd r6.List r4.1.toNat).Held) r23.toNat).Frame).Head).A3).x4) (((((gd ((gd r6.List r4.1.toNat).Held) r23.toNat).Frame).Head).A3).x5)) (A6u8.mk (((((gd ((gd r6.List r4.1.toNat).Held) r23.toNat).Frame).Head).A4).x0) (((((gd ((gd r6.List r4.1.toNat).Held) r23.toNat).Frame).Head).A4).x1) (((((gd ((gd r6.List r4.1.toNat).Held) r23.toNat).Frame).Head).A4).x2) (((((gd ((gd r6.List r4.1.toNat).Held) r23.toNat).Frame).Head).A4).x3) (((((gd ((gd r6.List r4.1.toNat).Held) r23.toNat).Frame).Head).A4).x4) (((((gd ((gd r6.List r4.1.toNat).Held) r23.toNat).Frame).Head).A4).x5)) ((((gd ((gd r6.List r4.1.toNat).Held) r23.toNat).Frame).Head).Seq) ((((gd ((gd r6.List r4.1.toNat).Held) r23.toNat).Frame).Head).Frag) ((((gd ((gd r6.List r4.1.toNat).Held) r23.toNat).Frame).Head).Tid) ((((gd ((gd r6.List r4.1.toNat).Held) r23.toNat).Frame).Head).Ack) ((((gd ((gd r6.List r4.1.toNat).Held) r23.toNat).Frame).Head).Amsdu) ((((gd ((gd r6.List r4.1.toNat).Held) r23.toNat).Frame).Head).Eosp)) (((gd ((gd r6.List r4.1.toNat).Held) r23.toNat).Frame).Body))] (fun _ _ => rfl) rfl)), CvB_row nr_TStored lhw30 (hw30 ▸ (del_row f26 (by first | rfl | (simp; done) | (simp; omega)) (fun _ _ _ _ => rfl))), trivial⟩
        simp only [tp]
        refine fz_mean [7] ?_ ?_
        · simp only [go_sem, Nat.reduceBEq]
          try (and_intros <;> first | (with_reducible trivial) | omega | exact nfc | trivial)
        simp only [go_sem, Nat.reduceBEq, Nat.reduceAdd]
        obtain ⟨f31, H⟩ := need_some.1 H
        replace f31 := capb_iff.1 f31
        refine draw_rule shT_ok ctNo_ok 2 (by kernel_rfl) (by kernel_rfl) ?_
        intro an han
        simp only [d_nil, d_cons, nxtD, xrD, xoD, roEq, minL, List.append_nil, refsOp, refs, refsL, mask, maskF, place, placeF, okLog, pairOk, hit, inL, slotsF, ren, rnN, nrH, nrB, List.replicate_zero, List.replicate_succ, Nat.sub_self, Nat.add_zero, Nat.zero_add, Nat.reduceSub, Nat.zero_le, Nat.lt_add_one, go_sem, Nat.reduceLeDiff, Nat.reduceLT, Nat.reduceAdd, Nat.reduceSub, Nat.reduceBEq, upc_ii, f31]
        repeat ((with_reducible refine And.intro ?_ ?_); focus (and_intros <;> first | (with_reducible trivial) | (show anB _ _ _ = true; subst han; kernel_rfl) | (show (anB _ _ _ && _) = true; subst han; kernel_rfl) | omega | assumption | exact nrc | exact nfc | first | exact rfl | exact trivial | exact fitI | exact .inr rfl | exact .inl rfl | exact fun x hx => absurd hx (by omega) | (intro x hx; (repeat (first | (and_intros <;> (first | exact rfl | exact trivial | exact fitI | exact .inr rfl | exact .inl rfl | exact fun x hx => absurd hx (by omega))) | (exfalso; omega) | (rcases x with _ | x))); done) | (refine Fit_app ?_ ?_ <;> first | exact fitI | (intro x hx; (repeat (first | (and_intros <;> (first | exact rfl | exact trivial | exact fitI | exact .inr rfl | exact .inl rfl | exact fun x hx => absurd hx (by omega))) | (exfalso; omega) | (rcases x with _ | x))); done) | (refine Fit_app ?_ ?_ <;> first | exact fitI | (intro x hx; (repeat (first | (and_intros <;> (first | exact rfl | exact trivial | exact fitI | exact .inr rfl | exact .inl rfl | exact fun x hx => absurd hx (by omega))) | (exfalso; omega) | (rcases x with _ | x))); done)))))
        refine sq ctNo_ok ?_
        simp only [go_sem]
        refine rg ctNo_ok ?_
        simp only [go_sem]
        refine cutO shT_ok ctNo_ok 1 ?_
        simp only [kO_normal, List.take_succ_cons, List.take_zero, List.drop_succ_cons, List.drop_zero, go_sem]
        repeat ((with_reducible refine And.intro ?_ ?_); focus (first | (and_intros <;> first | (with_reducible trivial) | omega | assumption | exact nfc | first | exact rfl | exact trivial | exact fitI | exact .inr rfl | exact .inl rfl | exact fun x hx => absurd hx (by omega) | (intro x hx; (repeat (first | (and_intros <;> (first | exact rfl | exact trivial | exact fitI | exact .inr rfl | exact .inl rfl | exact fun x hx => absurd hx (by omega))) | (exfalso; omega) | (rcases x with _ | x))); done) | (refine Fit_app ?_ ?_ <;> first | exact fitI | (intro x hx; (repeat (first | (and_intros <;> (first | exact rfl | exact trivial | exact fitI | exact .inr rfl | exact .inl rfl | exact fun x hx => absurd hx (by omega))) | (exfalso; omega) | (rcases x with _ | x))); done) | (refine Fit_app ?_ ?_ <;> first | exact fitI | (intro x hx; (repeat (first | (and_intros <;> (first | exact rfl | exact trivial | exact fitI | exact .inr rfl | exact .inl rfl | exact fun x hx => absurd hx (by omega))) | (exfalso; omega) | (rcases x with _ | x))); done)))) | grind))
        refine endO ?_
        refine seqM ?_
        refine draw_rule shT_ok ctNo_ok 0 (by kernel_rfl) (by kernel_rfl) ?_
        intro an han
        simp only [d_nil, d_cons, nxtD, xrD, xoD, roEq, minL, List.append_nil, refsOp, refs, mask, maskF, place, placeF, okLog, pairOk, hit, inL, slotsF, nrH, nrB, nrL, nr, List.replicate_zero, Nat.sub_self, Nat.add_zero, Nat.zero_add, Nat.reduceSub, Nat.lt_add_one, go_sem, Nat.reduceLeDiff, Nat.reduceLT, Nat.reduceAdd, Nat.reduceSub, Nat.reduceBEq]
        repeat ((with_reducible refine And.intro ?_ ?_); focus (and_intros <;> first | (with_reducible trivial) | (show anB _ _ _ = true; subst han; kernel_rfl) | (show (anB _ _ _ && _) = true; subst han; kernel_rfl) | omega | assumption | exact nrc | exact nfc | first | exact rfl | exact trivial | exact fitI | exact .inr rfl | exact .inl rfl | exact fun x hx => absurd hx (by omega) | (intro x hx; (repeat (first | (and_intros <;> (first | exact rfl | exact trivial | exact fitI | exact .inr rfl | exact .inl rfl | exact fun x hx => absurd hx (by omega))) | (exfalso; omega) | (rcases x with _ | x))); done) | (refine Fit_app ?_ ?_ <;> first | exact fitI | (intro x hx; (repeat (first | (and_intros <;> (first | exact rfl | exact trivial | exact fitI | exact .inr rfl | exact .inl rfl | exact fun x hx => absurd hx (by omega))) | (exfalso; omega) | (rcases x with _ | x))); done) | (refine Fit_app ?_ ?_ <;> first | exact fitI | (intro x hx; (repeat (first | (and_intros <;> (first | exact rfl | exact trivial | exact fitI | exact .inr rfl | exact .inl rfl | exact fun x hx => absurd hx (by omega))) | (exfalso; omega) | (rcases x with _ | x))); done)))))
        obtain ⟨w32, hw33, H⟩ := bsi H
        replace hw33 := Option.some.inj hw33
        have lhw33 : w32.length = 1 := by rw [← hw33]; exact (by first | rfl | (simp; done) | (simp; omega))
        obtain ⟨w34, hw35, H⟩ := bsi H
        replace hw35 := Option.some.inj hw35
        have lhw35 : w34.length = w29.length + 1 := by rw [← hw35]; exact (by first | rfl | (simp; done) | (simp; omega))
        refine subF_mean (t2 := (tp 10 (.ro 0 0 true (fun _ _ => .top) :: .sl 12 41 0 w27.length false :: .ptr 2 0 0 0 :: .int .i64 0 :: tp 57 []))) (h2 := [.dead, .dead, .lit 25 [.int .i64 r6.Limit, .int .i64 r6.Stay, .sl 4 3 0 r6.List.length false, .sl 6 43 0 r6.Group.length false], .lit 25 [.int .i64 r6.Limit, .int .i64 r6.Stay, .sl 4 3 0 r6.List.length false, .sl 6 43 0 r6.Group.length false], .row 57 3 r6.List.length (upc (enR c_TSleeper r6.List) r4.1.toNat 0 [.int .i64 ((gd r6.List r4.1.toNat).Aid), .bool ((gd r6.List r4.1.toNat).Asleep), .sl 15 43 0 w34.length false]), .dead, .row 61 43 r6.Group.length (enR c_TStored r6.Group), .dead, .lit 61 (.int .u8 p2 :: .int .i64 p4 :: .int .u8 r12.Head.Kind :: .int .u8 r12.Head.Sub :: .bool r12.Head.ToDs :: .bool r12.Head.FromDs :: .bool r12.Head.More :: .bool r12.Head.Retry :: .bool r12.Head.Sleep :: .bool r12.Head.MoreData :: .bool r12.Head.Protected :: .int .i64 r12.Head.Duration :: .int .u8 r12.Head.A1.x0 :: .int .u8 r12.Head.A1.x1 :: .int .u8 r12.Head.A1.x2 :: .int .u8 r12.Head.A1.x3 :: .int .u8 r12.Head.A1.x4 :: .int .u8 r12.Head.A1.x5 :: .int .u8 r12.Head.A2.x0 :: .int .u8 r12.Head.A2.x1 :: .int .u8 r12.Head.A2.x2 :: .int .u8 r12.Head.A2.x3 :: .int .u8 r12.Head.A2.x4 :: .int .u8 r12.Head.A2.x5 :: .int .u8 r12.Head.A3.x0 :: .int .u8 r12.Head.A3.x1 :: .int .u8 r12.Head.A3.x2 :: .int .u8 r12.Head.A3.x3 :: .int .u8 r12.Head.A3.x4 :: .int .u8 r12.Head.A3.x5 :: .int .u8 r12.Head.A4.x0 :: .int .u8 r12.Head.A4.x1 :: .int .u8 r12.Head.A4.x2 :: .int .u8 r12.Head.A4.x3 :: .int .u8 r12.Head.A4.x4 :: .int .u8 r12.Head.A4.x5 :: .int .i64 r12.Head.Seq :: .int .i64 r12.Head.Frag :: .int .i64 r12.Head.Tid :: .int .u8 r12.Head.Ack :: .bool r12.Head.Amsdu :: .bool r12.Head.Eosp :: .ro 1 r12.Body.length false (enR c_u8 r12.Body) :: []), .lit 61 (.int .u8 w1_6.Cat :: .int .i64 w1_6.At :: .int .u8 w1_6.Frame.Head.Kind :: .int .u8 w1_6.Frame.Head.Sub :: .bool w1_6.Frame.Head.ToDs :: .bool w1_6.Frame.Head.FromDs :: .bool w1_6.Frame.Head.More :: .bool w1_6.Frame.Head.Retry :: .bool w1_6.Frame.Head.Sleep :: .bool w1_6.Frame.Head.MoreData :: .bool w1_6.Frame.Head.Protected :: .int .i64 w1_6.Frame.Head.Duration :: .int .u8 w1_6.Frame.Head.A1.x0 :: .int .u8 w1_6.Frame.Head.A1.x1 :: .int .u8 w1_6.Frame.Head.A1.x2 :: .int .u8 w1_6.Frame.Head.A1.x3 :: .int .u8 w1_6.Frame.Head.A1.x4 :: .int .u8 w1_6.Frame.Head.A1.x5 :: .int .u8 w1_6.Frame.Head.A2.x0 :: .int .u8 w1_6.Frame.Head.A2.x1 :: .int .u8 w1_6.Frame.Head.A2.x2 :: .int .u8 w1_6.Frame.Head.A2.x3 :: .int .u8 w1_6.Frame.Head.A2.x4 :: .int .u8 w1_6.Frame.Head.A2.x5 :: .int .u8 w1_6.Frame.Head.A3.x0 :: .int .u8 w1_6.Frame.Head.A3.x1 :: .int .u8 w1_6.Frame.Head.A3.x2 :: .int .u8 w1_6.Frame.Head.A3.x3 :: .int .u8 w1_6.Frame.Head.A3.x4 :: .int .u8 w1_6.Frame.Head.A3.x5 :: .int .u8 w1_6.Frame.Head.A4.x0 :: .int .u8 w1_6.Frame.Head.A4.x1 :: .int .u8 w1_6.Frame.Head.A4.x2 :: .int .u8 w1_6.Frame.Head.A4.x3 :: .int .u8 w1_6.Frame.Head.A4.x4 :: .int .u8 w1_6.Frame.Head.A4.x5 :: .int .i64 w1_6.Frame.Head.Seq :: .int .i64 w1_6.Frame.Head.Frag :: .int .i64 w1_6.Frame.Head.Tid :: .int .u8 w1_6.Frame.Head.Ack :: .bool w1_6.Frame.Head.Amsdu :: .bool w1_6.Frame.Head.Eosp :: .ro 1 w1_6.Frame.Body.length false (enR c_u8 w1_6.Frame.Body) :: []), .lit 61 (.int .u8 w1_6.Cat :: .int .i64 w1_6.At :: .int .u8 w1_6.Frame.Head.Kind :: .int .u8 w1_6.Frame.Head.Sub :: .bool w1_6.Frame.Head.ToDs :: .bool w1_6.Frame.Head.FromDs :: .bool w1_6.Frame.Head.More :: .bool w1_6.Frame.Head.Retry :: .bool w1_6.Frame.Head.Sleep :: .bool w1_6.Frame.Head.MoreData :: .bool w1_6.Frame.Head.Protected :: .int .i64 w1_6.Frame.Head.Duration :: .int .u8 w1_6.Frame.Head.A1.x0 :: .int .u8 w1_6.Frame.Head.A1.x1 :: .int .u8 w1_6.Frame.Head.A1.x2 :: .int .u8 w1_6.Frame.Head.A1.x3 :: .int .u8 w1_6.Frame.Head.A1.x4 :: .int .u8 w1_6.Frame.Head.A1.x5 :: .int .u8 w1_6.Frame.Head.A2.x0 :: .int .u8 w1_6.Frame.Head.A2.x1 :: .int .u8 w1_6.Frame.Head.A2.x2 :: .int .u8 w1_6.Frame.Head.A2.x3 :: .int .u8 w1_6.Frame.Head.A2.x4 :: .int .u8 w1_6.Frame.Head.A2.x5 :: .int .u8 w1_6.Frame.Head.A3.x0 :: .int .u8 w1_6.Frame.Head.A3.x1 :: .int .u8 w1_6.Frame.Head.A3.x2 :: .int .u8 w1_6.Frame.Head.A3.x3 :: .int .u8 w1_6.Frame.Head.A3.x4 :: .int .u8 w1_6.Frame.Head.A3.x5 :: .int .u8 w1_6.Frame.Head.A4.x0 :: .int .u8 w1_6.Frame.Head.A4.x1 :: .int .u8 w1_6.Frame.Head.A4.x2 :: .int .u8 w1_6.Frame.Head.A4.x3 :: .int .u8 w1_6.Frame.Head.A4.x4 :: .int .u8 w1_6.Frame.Head.A4.x5 :: .int .i64 w1_6.Frame.Head.Seq :: .int .i64 w1_6.Frame.Head.Frag :: .int .i64 w1_6.Frame.Head.Tid :: .int .u8 w1_6.Frame.Head.Ack :: .bool w1_6.Frame.Head.Amsdu :: .bool w1_6.Frame.Head.Eosp :: .ro 1 w1_6.Frame.Body.length false (enR c_u8 w1_6.Frame.Body) :: []), .lit 5 [.int .u8 w1_6.Cat], .row 33 41 w27.length (enR c_TFrame w27), .dead, .row 61 43 w32.length (enR c_TStored w32), .row 61 43 w34.length (enR c_TStored w34)]) ?_ ?_
        · refine SubF_of ⟨[some 0, some 1, some 2, some 3, some 4, some 5, some 6, some 7, some 8, some 9, some 10, some 11, some 12, some 13, some 14, some 15], ?_, ?_, by rfl, by rfl⟩
          · simp [CvL, Cv, getM, tp]
          · exact ⟨CvB_dead, CvB_dead, (by simp [CvB, CvL, Cv, blkAt, geth, getM]), (by simp [CvB, CvL, Cv, blkAt, geth, getM]), (CvB_focG2 (i := r4.1.toNat) (L := r6.List) nr_TSleeper (fun x y hx => by simp only [upc_ne hx]) (fun x y hx => by simp only [upc_ne hx]) (fun y hy => match y, hy with | 0, _ => by simp [upc_ii, getL, Cv, enR, c_TSleeper, lhw35] | 1, _ => by simp [upc_ii, getL, Cv, enR, c_TSleeper, lhw35] | 2, _ => by simp [upc_ii, getL, Cv, getM, enR, c_TSleeper, lhw35] | (y+3), h => absurd h (by omega))), CvB_dead, CvB_row nr_TStored rfl (fun _ _ _ _ => rfl), CvB_dead, (by simp [CvB, CvL, Cv, blkAt, geth]), (by simp [CvB, CvL, Cv, blkAt, geth]), (by simp [CvB, CvL, Cv, blkAt, geth]), (by simp [CvB, CvL, Cv, blkAt, geth]), CvB_row nr_TFrame rfl (fun _ _ _ _ => rfl), CvB_dead, CvB_row nr_TStored lhw33 (hw33 ▸ (lit_row (f := c_TStored) [(TStored.mk p2 p4 (TFrame.mk (THeader.mk r12.Head.Kind r12.Head.Sub r12.Head.ToDs r12.Head.FromDs r12.Head.More r12.Head.Retry r12.Head.Sleep r12.Head.MoreData r12.Head.Protected r12.Head.Duration (A6u8.mk r12.Head.A1.x0 r12.Head.A1.x1 r12.Head.A1.x2 r12.Head.A1.x3 r12.Head.A1.x4 r12.Head.A1.x5) (A6u8.mk r12.Head.A2.x0 r12.Head.A2.x1 r12.Head.A2.x2 r12.Head.A2.x3 r12.Head.A2.x4 r12.Head.A2.x5) (A6u8.mk r12.Head.A3.x0 r12.Head.A3.x1 r12.Head.A3.x2 r12.Head.A3.x3 r12.Head.A3.x4 r12.Head.A3.x5) (A6u8.mk r12.Head.A4.x0 r12.Head.A4.x1 r12.Head.A4.x2 r12.Head.A4.x3 r12.Head.A4.x4 r12.Head.A4.x5) r12.Head.Seq r12.Head.Frag r12.Head.Tid r12.Head.Ack r12.Head.Amsdu r12.Head.Eosp) r12.Body))] (fun _ _ => rfl) rfl)), CvB_row nr_TStored lhw35 (hw35 ▸ (app_row (f := c_TStored) w29 [(TStored.mk p2 p4 (TFrame.mk (THeader.mk r12.Head.Kind r12.Head.Sub r12.Head.ToDs r12.Head.FromDs r12.Head.More r12.Head.Retry r12.Head.Sleep r12.Head.MoreData r12.Head.Protected r12.Head.Duration (A6u8.mk r12.Head.A1.x0 r12.Head.A1.x1 r12.Head.A1.x2 r12.Head.A1.x3 r12.Head.A1.x4 r12.Head.A1.x5) (A6u8.mk r12.Head.A2.x0 r12.Head.A2.x1 r12.Head.A2.x2 r12.Head.A2.x3 r12.Head.A2.x4 r12.Head.A2.x5) (A6u8.mk r12.Head.A3.x0 r12.Head.A3.x1 r12.Head.A3.x2 r12.Head.A3.x3 r12.Head.A3.x4 r12.Head.A3.x5) (A6u8.mk r12.Head.A4.x0 r12.Head.A4.x1 r12.Head.A4.x2 r12.Head.A4.x3 r12.Head.A4.x4 r12.Head.A4.x5) r12.Head.Seq r12.Head.Frag r12.Head.Tid r12.Head.Ack r12.Head.Amsdu r12.Head.Eosp) r12.Body))] (fun _ _ _ _ => rfl) (lit_row (f := c_TStored) [(TStored.mk p2 p4 (TFrame.mk (THeader.mk r12.Head.Kind r12.Head.Sub r12.Head.ToDs r12.Head.FromDs r12.Head.More r12.Head.Retry r12.Head.Sleep r12.Head.MoreData r12.Head.Protected r12.Head.Duration (A6u8.mk r12.Head.A1.x0 r12.Head.A1.x1 r12.Head.A1.x2 r12.Head.A1.x3 r12.Head.A1.x4 r12.Head.A1.x5) (A6u8.mk r12.Head.A2.x0 r12.Head.A2.x1 r12.Head.A2.x2 r12.Head.A2.x3 r12.Head.A2.x4 r12.Head.A2.x5) (A6u8.mk r12.Head.A3.x0 r12.Head.A3.x1 r12.Head.A3.x2 r12.Head.A3.x3 r12.Head.A3.x4 r12.Head.A3.x5) (A6u8.mk r12.Head.A4.x0 r12.Head.A4.x1 r12.Head.A4.x2 r12.Head.A4.x3 r12.Head.A4.x4 r12.Head.A4.x5) r12.Head.Seq r12.Head.Frag r12.Head.Tid r12.Head.Ack r12.Head.Amsdu r12.Head.Eosp) r12.Body))] (fun _ _ => rfl) rfl))), trivial⟩
        simp only [tp]
        refine fz2_mean [15] [4] ?_ ?_
        · simp only [go_sem, Nat.reduceBEq, Nat.reduceAdd, fzObHF2, fzObB2]
          first | exact (foc_ob (L := r6.List) (i := r4.1.toNat) (fun a y => nrefL_getL (nr_TSleeper a) y) (fun x y hx => by simp only [upc_ne hx]) (fun y hy => match y, hy with | 0, _ => (by (simp [upc_ii, getL, fzOb, enR, c_TSleeper]; all_goals (first | (with_reducible trivial) | (intros; exact nrefL_getL (NRf.h _) _) | (intros; exact nfc)))) | 1, _ => (by (simp [upc_ii, getL, fzOb, enR, c_TSleeper]; all_goals (first | (with_reducible trivial) | (intros; exact nrefL_getL (NRf.h _) _) | (intros; exact nfc)))) | 2, _ => (by (simp [upc_ii, getL, fzOb, inL, geth, rowOb, enR, c_TSleeper]; all_goals (first | (with_reducible trivial) | (intros; exact nrefL_getL (NRf.h _) _) | (intros; exact nfc)))) | (y+3), h => absurd h (by omega))) | (and_intros <;> first | exact (foc_ob (L := r6.List) (i := r4.1.toNat) (fun a y => nrefL_getL (nr_TSleeper a) y) (fun x y hx => by simp only [upc_ne hx]) (fun y hy => match y, hy with | 0, _ => (by (simp [upc_ii, getL, fzOb, inL, geth, rowOb, enR, c_TSleeper]; all_goals (first | (with_reducible trivial) | (intros; exact nrefL_getL (NRf.h _) _) | (intros; exact nfc)))) | 1, _ => (by (simp [upc_ii, getL, fzOb, inL, geth, rowOb, enR, c_TSleeper]; all_goals (first | (with_reducible trivial) | (intros; exact nrefL_getL (NRf.h _) _) | (intros; exact nfc)))) | 2, _ => (by (simp [upc_ii, getL, fzOb, inL, geth, rowOb, enR, c_TSleeper]; all_goals (first | (with_reducible trivial) | (intros; exact nrefL_getL (NRf.h _) _) | (intros; exact nfc)))) | (y+3), h => absurd h (by omega))) | (with_reducible trivial) | omega | exact nfc | trivial)
        simp only [go_sem, Nat.reduceBEq, Nat.reduceAdd, fzH2, fzHF2, fzB2]
        obtain ⟨w36, hw37, H⟩ := bsi H
        replace hw37 := Option.some.inj hw37
        have lhw37 : w36.length = r6.List.length := by rw [← hw37]; exact (by simp only [List.length_set])
        refine subF_mean (t2 := (tp 10 (.ro 0 0 true (fun _ _ => .top) :: .sl 12 41 0 w27.length false :: .ptr 2 0 0 0 :: .int .i64 0 :: tp 57 []))) (h2 := [.dead, .dead, .lit 25 [.int .i64 r6.Limit, .int .i64 r6.Stay, .sl 4 3 0 w36.length false, .sl 6 43 0 r6.Group.length false], .lit 25 [.int .i64 r6.Limit, .int .i64 r6.Stay, .sl 4 3 0 w36.length false, .sl 6 43 0 r6.Group.length false], .row 57 3 w36.length (enR c_TSleeper w36), .dead, .row 61 43 r6.Group.length (enR c_TStored r6.Group), .dead, .lit 61 (.int .u8 p2 :: .int .i64 p4 :: .int .u8 r12.Head.Kind :: .int .u8 r12.Head.Sub :: .bool r12.Head.ToDs :: .bool r12.Head.FromDs :: .bool r12.Head.More :: .bool r12.Head.Retry :: .bool r12.Head.Sleep :: .bool r12.Head.MoreData :: .bool r12.Head.Protected :: .int .i64 r12.Head.Duration :: .int .u8 r12.Head.A1.x0 :: .int .u8 r12.Head.A1.x1 :: .int .u8 r12.Head.A1.x2 :: .int .u8 r12.Head.A1.x3 :: .int .u8 r12.Head.A1.x4 :: .int .u8 r12.Head.A1.x5 :: .int .u8 r12.Head.A2.x0 :: .int .u8 r12.Head.A2.x1 :: .int .u8 r12.Head.A2.x2 :: .int .u8 r12.Head.A2.x3 :: .int .u8 r12.Head.A2.x4 :: .int .u8 r12.Head.A2.x5 :: .int .u8 r12.Head.A3.x0 :: .int .u8 r12.Head.A3.x1 :: .int .u8 r12.Head.A3.x2 :: .int .u8 r12.Head.A3.x3 :: .int .u8 r12.Head.A3.x4 :: .int .u8 r12.Head.A3.x5 :: .int .u8 r12.Head.A4.x0 :: .int .u8 r12.Head.A4.x1 :: .int .u8 r12.Head.A4.x2 :: .int .u8 r12.Head.A4.x3 :: .int .u8 r12.Head.A4.x4 :: .int .u8 r12.Head.A4.x5 :: .int .i64 r12.Head.Seq :: .int .i64 r12.Head.Frag :: .int .i64 r12.Head.Tid :: .int .u8 r12.Head.Ack :: .bool r12.Head.Amsdu :: .bool r12.Head.Eosp :: .ro 1 r12.Body.length false (enR c_u8 r12.Body) :: []), .lit 61 (.int .u8 w1_6.Cat :: .int .i64 w1_6.At :: .int .u8 w1_6.Frame.Head.Kind :: .int .u8 w1_6.Frame.Head.Sub :: .bool w1_6.Frame.Head.ToDs :: .bool w1_6.Frame.Head.FromDs :: .bool w1_6.Frame.Head.More :: .bool w1_6.Frame.Head.Retry :: .bool w1_6.Frame.Head.Sleep :: .bool w1_6.Frame.Head.MoreData :: .bool w1_6.Frame.Head.Protected :: .int .i64 w1_6.Frame.Head.Duration :: .int .u8 w1_6.Frame.Head.A1.x0 :: .int .u8 w1_6.Frame.Head.A1.x1 :: .int .u8 w1_6.Frame.Head.A1.x2 :: .int .u8 w1_6.Frame.Head.A1.x3 :: .int .u8 w1_6.Frame.Head.A1.x4 :: .int .u8 w1_6.Frame.Head.A1.x5 :: .int .u8 w1_6.Frame.Head.A2.x0 :: .int .u8 w1_6.Frame.Head.A2.x1 :: .int .u8 w1_6.Frame.Head.A2.x2 :: .int .u8 w1_6.Frame.Head.A2.x3 :: .int .u8 w1_6.Frame.Head.A2.x4 :: .int .u8 w1_6.Frame.Head.A2.x5 :: .int .u8 w1_6.Frame.Head.A3.x0 :: .int .u8 w1_6.Frame.Head.A3.x1 :: .int .u8 w1_6.Frame.Head.A3.x2 :: .int .u8 w1_6.Frame.Head.A3.x3 :: .int .u8 w1_6.Frame.Head.A3.x4 :: .int .u8 w1_6.Frame.Head.A3.x5 :: .int .u8 w1_6.Frame.Head.A4.x0 :: .int .u8 w1_6.Frame.Head.A4.x1 :: .int .u8 w1_6.Frame.Head.A4.x2 :: .int .u8 w1_6.Frame.Head.A4.x3 :: .int .u8 w1_6.Frame.Head.A4.x4 :: .int .u8 w1_6.Frame.Head.A4.x5 :: .int .i64 w1_6.Frame.Head.Seq :: .int .i64 w1_6.Frame.Head.Frag :: .int .i64 w1_6.Frame.Head.Tid :: .int .u8 w1_6.Frame.Head.Ack :: .bool w1_6.Frame.Head.Amsdu :: .bool w1_6.Frame.Head.Eosp :: .ro 1 w1_6.Frame.Body.length false (enR c_u8 w1_6.Frame.Body) :: []), .lit 61 (.int .u8 w1_6.Cat :: .int .i64 w1_6.At :: .int .u8 w1_6.Frame.Head.Kind :: .int .u8 w1_6.Frame.Head.Sub :: .bool w1_6.Frame.Head.ToDs :: .bool w1_6.Frame.Head.FromDs :: .bool w1_6.Frame.Head.More :: .bool w1_6.Frame.Head.Retry :: .bool w1_6.Frame.Head.Sleep :: .bool w1_6.Frame.Head.MoreData :: .bool w1_6.Frame.Head.Protected :: .int .i64 w1_6.Frame.Head.Duration :: .int .u8 w1_6.Frame.Head.A1.x0 :: .int .u8 w1_6.Frame.Head.A1.x1 :: .int .u8 w1_6.Frame.Head.A1.x2 :: .int .u8 w1_6.Frame.Head.A1.x3 :: .int .u8 w1_6.Frame.Head.A1.x4 :: .int .u8 w1_6.Frame.Head.A1.x5 :: .int .u8 w1_6.Frame.Head.A2.x0 :: .int .u8 w1_6.Frame.Head.A2.x1 :: .int .u8 w1_6.Frame.Head.A2.x2 :: .int .u8 w1_6.Frame.Head.A2.x3 :: .int .u8 w1_6.Frame.Head.A2.x4 :: .int .u8 w1_6.Frame.Head.A2.x5 :: .int .u8 w1_6.Frame.Head.A3.x0 :: .int .u8 w1_6.Frame.Head.A3.x1 :: .int .u8 w1_6.Frame.Head.A3.x2 :: .int .u8 w1_6.Frame.Head.A3.x3 :: .int .u8 w1_6.Frame.Head.A3.x4 :: .int .u8 w1_6.Frame.Head.A3.x5 :: .int .u8 w1_6.Frame.Head.A4.x0 :: .int .u8 w1_6.Frame.Head.A4.x1 :: .int .u8 w1_6.Frame.Head.A4.x2 :: .int .u8 w1_6.Frame.Head.A4.x3 :: .int .u8 w1_6.Frame.Head.A4.x4 :: .int .u8 w1_6.Frame.Head.A4.x5 :: .int .i64 w1_6.Frame.Head.Seq :: .int .i64 w1_6.Frame.Head.Frag :: .int .i64 w1_6.Frame.Head.Tid :: .int .u8 w1_6.Frame.Head.Ack :: .bool w1_6.Frame.Head.Amsdu :: .bool w1_6.Frame.Head.Eosp :: .ro 1 w1_6.Frame.Body.length false (enR c_u8 w1_6.Frame.Body) :: []), .lit 5 [.int .u8 w1_6.Cat], .row 33 41 w27.length (enR c_TFrame w27), .dead, .row 61 43 w32.length (enR c_TStored w32), .dead]) ?_ ?_
        · refine SubF_of ⟨[some 0, some 1, some 2, some 3, some 4, some 5, some 6, some 7, some 8, some 9, some 10, some 11, some 12, some 13, some 14, some 15], ?_, ?_, by rfl, by rfl⟩
          · simp [CvL, Cv, getM, tp]
          · exact ⟨CvB_dead, CvB_dead, (by simp [CvB, CvL, Cv, blkAt, geth, getM, lhw37]), (by simp [CvB, CvL, Cv, blkAt, geth, getM, lhw37]), CvB_row nr_TSleeper lhw37 (hw37 ▸ (foc_row (L := r6.List) (i := r4.1.toNat) (fun a y => nrefL_getL (nr_TSleeper a) y) (fun x y hx => by simp only [upc_ne hx]) (fun y hy => match y, hy with | 0, _ => by simp [upc_ii, getL, fzV, enR, c_TSleeper] | 1, _ => by simp [upc_ii, getL, fzV, enR, c_TSleeper] | 2, _ => by simp [upc_ii, getL, fzV, inL, geth, enR, c_TSleeper, sub_enR0] | (y+3), h => absurd h (by omega)))), CvB_dead, CvB_row nr_TStored rfl (fun _ _ _ _ => rfl), CvB_dead, (by simp [CvB, CvL, Cv, blkAt, geth]), (by simp [CvB, CvL, Cv, blkAt, geth]), (by simp [CvB, CvL, Cv, blkAt, geth]), (by simp [CvB, CvL, Cv, blkAt, geth]), CvB_row nr_TFrame rfl (fun _ _ _ _ => rfl), CvB_dead, CvB_row nr_TStored rfl (fun _ _ _ _ => rfl), CvB_dead, trivial⟩
        simp only [tp]
        refine rg ctNo_ok ?_
        simp only [go_sem, Nat.reduceLT, Nat.reduceAdd]
        obtain rfl := Option.some.inj H
        refine ⟨[12, 4, 6, 2, 3, 8, 9, 10, 11], ?_, ?_, [], ?_, ?_, rfl⟩
        · simp only [go_sem, Nat.reduceBEq]
          try (and_intros <;> first | (with_reducible trivial) | omega | exact nfc | trivial)
        · simp only [go_sem, Nat.reduceBEq]
          try (and_intros <;> first | (with_reducible trivial) | omega | exact nfc | trivial)
        · simp only [go_sem, Nat.reduceBEq]
          exact Cv_tup (CvL_cons (Cv_ronil (α := TFrame)) (CvL_cons (ro_row (by first | rfl | simp) (fun _ _ _ _ => rfl)) (CvL_cons (Cv_agg (CvL_cons Cv_int (CvL_cons Cv_int (CvL_cons (ro_row (by first | rfl | simp) (fun _ _ _ _ => rfl)) (CvL_cons (ro_row (by first | rfl | simp) (fun _ _ _ _ => rfl)) CvL_nil))))) (CvL_cons Cv_int CvL_nil))))
        · simp only [go_sem, CvH]
    · cases hb
  · unfold body24 at hb
    split at hb <;> cases hb
noncomputable def ct56t0 : Ct := tab [(57, pureC body57)]
theorem ct56t0_ok : CtOk Try.prog ct56t0 := tab_cons ok57 <| tab_nil
theorem ct56t0_57 (l : List AV) (h : List ABlk) : ct56t0 57 l h = pureC body57 l h := rfl
noncomputable def F56 (p0 : TStored) (p1 : TStored) : Option (Int) :=
  (F57 p0.Cat p1.Cat).bind fun r1 => some r1
noncomputable def body56 : List AV -> AR
  | [v0, v1] => .pure (aK 43 k_TStored v0 /\ aK 43 k_TStored v1 /\ (F56 (g_TStored (aL v0)) (g_TStored (aL v1))).isSome = true) (.int .i64 (gt (F56 (g_TStored (aL v0)) (g_TStored (aL v1)))))
  | _ => .fail
theorem ok56 : FnOk Try.prog 56 (pureC body56) := by
  refine pure_fnM body56 (rs := [.tmp 4]) Try.func56 (by kernel_rfl) rfl rfl ?_
  intro l ob v hb hob
  unfold body56 at hb
  split at hb
  · rename_i v0 v1
    injection hb with q1 q2; subst q1 q2
    obtain ⟨hk0_0, hk1_0, hob⟩ := hob
    obtain ⟨r, H⟩ := Option.isSome_iff_exists.1 hob
    rw [H, gt_some]
    have hw0 := wA_TStored hk0_0
    have hw1 := wA_TStored hk1_0
    generalize g_TStored (aL v0) = p0 at H hw0
    generalize g_TStored (aL v1) = p1 at H hw1
    refine ⟨[.agg (.int .u8 p0.Cat :: .int .i64 p0.At :: .int .u8 p0.Frame.Head.Kind :: .int .u8 p0.Frame.Head.Sub :: .bool p0.Frame.Head.ToDs :: .bool p0.Frame.Head.FromDs :: .bool p0.Frame.Head.More :: .bool p0.Frame.Head.Retry :: .bool p0.Frame.Head.Sleep :: .bool p0.Frame.Head.MoreData :: .bool p0.Frame.Head.Protected :: .int .i64 p0.Frame.Head.Duration :: .int .u8 p0.Frame.Head.A1.x0 :: .int .u8 p0.Frame.Head.A1.x1 :: .int .u8 p0.Frame.Head.A1.x2 :: .int .u8 p0.Frame.Head.A1.x3 :: .int .u8 p0.Frame.Head.A1.x4 :: .int .u8 p0.Frame.Head.A1.x5 :: .int .u8 p0.Frame.Head.A2.x0 :: .int .u8 p0.Frame.Head.A2.x1 :: .int .u8 p0.Frame.Head.A2.x2 :: .int .u8 p0.Frame.Head.A2.x3 :: .int .u8 p0.Frame.Head.A2.x4 :: .int .u8 p0.Frame.Head.A2.x5 :: .int .u8 p0.Frame.Head.A3.x0 :: .int .u8 p0.Frame.Head.A3.x1 :: .int .u8 p0.Frame.Head.A3.x2 :: .int .u8 p0.Frame.Head.A3.x3 :: .int .u8 p0.Frame.Head.A3.x4 :: .int .u8 p0.Frame.Head.A3.x5 :: .int .u8 p0.Frame.Head.A4.x0 :: .int .u8 p0.Frame.Head.A4.x1 :: .int .u8 p0.Frame.Head.A4.x2 :: .int .u8 p0.Frame.Head.A4.x3 :: .int .u8 p0.Frame.Head.A4.x4 :: .int .u8 p0.Frame.Head.A4.x5 :: .int .i64 p0.Frame.Head.Seq :: .int .i64 p0.Frame.Head.Frag :: .int .i64 p0.Frame.Head.Tid :: .int .u8 p0.Frame.Head.Ack :: .bool p0.Frame.Head.Amsdu :: .bool p0.Frame.Head.Eosp :: .ro 1 p0.Frame.Body.length false (enR c_u8 p0.Frame.Body) :: []), .agg (.int .u8 p1.Cat :: .int .i64 p1.At :: .int .u8 p1.Frame.Head.Kind :: .int .u8 p1.Frame.Head.Sub :: .bool p1.Frame.Head.ToDs :: .bool p1.Frame.Head.FromDs :: .bool p1.Frame.Head.More :: .bool p1.Frame.Head.Retry :: .bool p1.Frame.Head.Sleep :: .bool p1.Frame.Head.MoreData :: .bool p1.Frame.Head.Protected :: .int .i64 p1.Frame.Head.Duration :: .int .u8 p1.Frame.Head.A1.x0 :: .int .u8 p1.Frame.Head.A1.x1 :: .int .u8 p1.Frame.Head.A1.x2 :: .int .u8 p1.Frame.Head.A1.x3 :: .int .u8 p1.Frame.Head.A1.x4 :: .int .u8 p1.Frame.Head.A1.x5 :: .int .u8 p1.Frame.Head.A2.x0 :: .int .u8 p1.Frame.Head.A2.x1 :: .int .u8 p1.Frame.Head.A2.x2 :: .int .u8 p1.Frame.Head.A2.x3 :: .int .u8 p1.Frame.Head.A2.x4 :: .int .u8 p1.Frame.Head.A2.x5 :: .int .u8 p1.Frame.Head.A3.x0 :: .int .u8 p1.Frame.Head.A3.x1 :: .int .u8 p1.Frame.Head.A3.x2 :: .int .u8 p1.Frame.Head.A3.x3 :: .int .u8 p1.Frame.Head.A3.x4 :: .int .u8 p1.Frame.Head.A3.x5 :: .int .u8 p1.Frame.Head.A4.x0 :: .int .u8 p1.Frame.Head.A4.x1 :: .int .u8 p1.Frame.Head.A4.x2 :: .int .u8 p1.Frame.Head.A4.x3 :: .int .u8 p1.Frame.Head.A4.x4 :: .int .u8 p1.Frame.Head.A4.x5 :: .int .i64 p1.Frame.Head.Seq :: .int .i64 p1.Frame.Head.Frag :: .int .i64 p1.Frame.Head.Tid :: .int .u8 p1.Frame.Head.Ack :: .bool p1.Frame.Head.Amsdu :: .bool p1.Frame.Head.Eosp :: .ro 1 p1.Frame.Body.length false (enR c_u8 p1.Frame.Body) :: [])], _, (fun E vs F => FR_wk1 hw0.1 F (fun vs F => FR_wk1 hw1.1 F (fun vs F => F))), rfl, rfl, ?_⟩
    rw [Try.ntmps56]
    simp only [List.length_cons, List.length_nil, Nat.reduceAdd, Nat.reduceSub, List.replicate_succ, List.replicate_zero, List.cons_append, List.nil_append]
    unfold F56 at H
    refine sq ctNo_ok ?_
    simp only [go_sem]
    refine seqM ?_
    obtain ⟨r1, e2, H⟩ := bsi H
    refine rg ct56t0_ok ?_
    simp only [go_sem, Nat.reduceLeDiff, Nat.reduceLT, Nat.reduceAdd, ct56t0_57, body57, e2]
    refine rg ctNo_ok ?_
    simp only [go_sem]
    obtain rfl := Option.some.inj H
    first | rfl | simp only [Bool.and_false, Bool.false_and, Bool.and_true, Bool.true_and]
  · cases hb
noncomputable def F59_0 (p0 : TStored) (p1 : Int) : Option (Bool) :=
  some (bEq p0.Cat p1)
noncomputable def body59_0 : List AV -> AR
  | [v0, v1] => .pure (aK 43 k_TStored v0 /\ rK 1 k_u8 v1 /\ (F59_0 (g_TStored (aL v0)) (g_u8 (rG v1))).isSome = true) (.bool (gt (F59_0 (g_TStored (aL v0)) (g_u8 (rG v1)))))
  | _ => .fail
theorem ok59_0 : FnOk Try.prog 59 (pureC body59_0) := by
  refine pure_fnM body59_0 (rs := [.tmp 3]) Try.func59 (by kernel_rfl) rfl rfl ?_
  intro l ob v hb hob
  unfold body59_0 at hb
  split at hb
  · rename_i v0 v1
    injection hb with q1 q2; subst q1 q2
    obtain ⟨hk0_0, hk1_0, hob⟩ := hob
    obtain ⟨r, H⟩ := Option.isSome_iff_exists.1 hob
    rw [H, gt_some]
    have hw0 := wA_TStored hk0_0
    have hw1 := rK_wk (f := c_u8) (g := g_u8) (fun r h => w_u8 h) hk1_0
    generalize g_TStored (aL v0) = p0 at H hw0
    generalize g_u8 (rG v1) = p1 at H hw1
    refine ⟨[.agg (.int .u8 p0.Cat :: .int .i64 p0.At :: .int .u8 p0.Frame.Head.Kind :: .int .u8 p0.Frame.Head.Sub :: .bool p0.Frame.Head.ToDs :: .bool p0.Frame.Head.FromDs :: .bool p0.Frame.Head.More :: .bool p0.Frame.Head.Retry :: .bool p0.Frame.Head.Sleep :: .bool p0.Frame.Head.MoreData :: .bool p0.Frame.Head.Protected :: .int .i64 p0.Frame.Head.Duration :: .int .u8 p0.Frame.Head.A1.x0 :: .int .u8 p0.Frame.Head.A1.x1 :: .int .u8 p0.Frame.Head.A1.x2 :: .int .u8 p0.Frame.Head.A1.x3 :: .int .u8 p0.Frame.Head.A1.x4 :: .int .u8 p0.Frame.Head.A1.x5 :: .int .u8 p0.Frame.Head.A2.x0 :: .int .u8 p0.Frame.Head.A2.x1 :: .int .u8 p0.Frame.Head.A2.x2 :: .int .u8 p0.Frame.Head.A2.x3 :: .int .u8 p0.Frame.Head.A2.x4 :: .int .u8 p0.Frame.Head.A2.x5 :: .int .u8 p0.Frame.Head.A3.x0 :: .int .u8 p0.Frame.Head.A3.x1 :: .int .u8 p0.Frame.Head.A3.x2 :: .int .u8 p0.Frame.Head.A3.x3 :: .int .u8 p0.Frame.Head.A3.x4 :: .int .u8 p0.Frame.Head.A3.x5 :: .int .u8 p0.Frame.Head.A4.x0 :: .int .u8 p0.Frame.Head.A4.x1 :: .int .u8 p0.Frame.Head.A4.x2 :: .int .u8 p0.Frame.Head.A4.x3 :: .int .u8 p0.Frame.Head.A4.x4 :: .int .u8 p0.Frame.Head.A4.x5 :: .int .i64 p0.Frame.Head.Seq :: .int .i64 p0.Frame.Head.Frag :: .int .i64 p0.Frame.Head.Tid :: .int .u8 p0.Frame.Head.Ack :: .bool p0.Frame.Head.Amsdu :: .bool p0.Frame.Head.Eosp :: .ro 1 p0.Frame.Body.length false (enR c_u8 p0.Frame.Body) :: []), .rptr 1 1 0 0 (enR c_u8 [p1])], _, (fun E vs F => FR_wk1 hw0.1 F (fun vs F => FR_wk1 hw1.1 F (fun vs F => F))), rfl, rfl, ?_⟩
    rw [Try.ntmps59]
    simp only [List.length_cons, List.length_nil, Nat.reduceAdd, Nat.reduceSub, List.replicate_succ, List.replicate_zero, List.cons_append, List.nil_append]
    unfold F59_0 at H
    refine sq ctNo_ok ?_
    simp only [go_sem]
    refine sq ctNo_ok ?_
    simp only [go_sem, Nat.reduceLeDiff, Nat.reduceLT, Nat.reduceAdd]
    refine rg ctNo_ok ?_
    simp only [go_sem]
    obtain rfl := Option.some.inj H
    first | rfl | simp only [Bool.and_false, Bool.false_and, Bool.and_true, Bool.true_and]
  · cases hb
noncomputable def ct58_1t0 : Ct := tab [(59, pureC body59_0)]
theorem ct58_1t0_ok : CtOk Try.prog ct58_1t0 := tab_cons ok59_0 <| tab_nil
theorem ct58_1t0_59 (l : List AV) (h : List ABlk) : ct58_1t0 59 l h = pureC body59_0 l h := rfl
noncomputable def F58_1_L1 (p0 : List TStored) (p1 : Int) (v1_1 : Int) : Option (Lp (Int) ((Unit) ⊕ (Int))) :=
  bif (bLt v1_1 (p0.length : Nat)) then (need (inb v1_1 p0.length) <| (F59_0 (TStored.mk ((gd p0 v1_1.toNat).Cat) ((gd p0 v1_1.toNat).At) (TFrame.mk (THeader.mk ((((gd p0 v1_1.toNat).Frame).Head).Kind) ((((gd p0 v1_1.toNat).Frame).Head).Sub) ((((gd p0 v1_1.toNat).Frame).Head).ToDs) ((((gd p0 v1_1.toNat).Frame).Head).FromDs) ((((gd p0 v1_1.toNat).Frame).Head).More) ((((gd p0 v1_1.toNat).Frame).Head).Retry) ((((gd p0 v1_1.toNat).Frame).Head).Sleep) ((((gd p0 v1_1.toNat).Frame).Head).MoreData) ((((gd p0 v1_1.toNat).Frame).Head).Protected) ((((gd p0 v1_1.toNat).Frame).Head).Duration) (A6u8.mk (((((gd p0 v1_1.toNat).Frame).Head).A1).x0) (((((gd p0 v1_1.toNat).Frame).Head).A1).x1) (((((gd p0 v1_1.toNat).Frame).Head).A1).x2) (((((gd p0 v1_1.toNat).Frame).Head).A1).x3) (((((gd p0 v1_1.toNat).Frame).Head).A1).x4) (((((gd p0 v1_1.toNat).Frame).Head).A1).x5)) (A6u8.mk (((((gd p0 v1_1.toNat).Frame).Head).A2).x0) (((((gd p0 v1_1.toNat).Frame).Head).A2).x1) (((((gd p0 v1_1.toNat).Frame).Head).A2).x2) (((((gd p0 v1_1.toNat).Frame).Head).A2).x3) (((((gd p0 v1_1.toNat).Frame).Head).A2).x4) (((((gd p0 v1_1.toNat).Frame).Head).A2).x5)) (A6u8.mk (((((gd p0 v1_1.toNat).Frame).Head).A3).x0) (((((gd p0 v1_1.toNat).Frame).Head).A3).x1) (((((gd p0 v1_1.toNat).Frame).Head).A3).x2) (((((gd p0 v1_1.toNat).Frame).Head).A3).x3) (((((gd p0 v1_1.toNat).Frame).Head).A3).x4) (((((gd p0 v1_1.toNat).Frame).Head).A3).x5)) (A6u8.mk (((((gd p0 v1_1.toNat).Frame).Head).A4).x0) (((((gd p0 v1_1.toNat).Frame).Head).A4).x1) (((((gd p0 v1_1.toNat).Frame).Head).A4).x2) (((((gd p0 v1_1.toNat).Frame).Head).A4).x3) (((((gd p0 v1_1.toNat).Frame).Head).A4).x4) (((((gd p0 v1_1.toNat).Frame).Head).A4).x5)) ((((gd p0 v1_1.toNat).Frame).Head).Seq) ((((gd p0 v1_1.toNat).Frame).Head).Frag) ((((gd p0 v1_1.toNat).Frame).Head).Tid) ((((gd p0 v1_1.toNat).Frame).Head).Ack) ((((gd p0 v1_1.toNat).Frame).Head).Amsdu) ((((gd p0 v1_1.toNat).Frame).Head).Eosp)) (((gd p0 v1_1.toNat).Frame).Body))) p1).bind fun r2 => bif r2 then (some (.done (.inr v1_1))) else (some (.next (wr .i64 (v1_1 + 1))))) else (some (.done (.inl ())))
noncomputable def F58_1 (p0 : List TStored) (p1 : Int) : Option (Int) :=
  lp (loopD (fun s => F58_1_L1 p0 p1 s) 0) (fun e => some (-1)) some
noncomputable def body58_1 : List AV -> AR
  | [v0, .fn 59 [v1]] => .pure (lK k_TStored 43 v0 /\ rK 1 k_u8 v1 /\ (F58_1 (lA g_TStored v0) (g_u8 (rG v1))).isSome = true) (.int .i64 (gt (F58_1 (lA g_TStored v0) (g_u8 (rG v1)))))
  | _ => .fail
theorem ok58_1 : FnOk Try.prog 58 (pureC body58_1) := by
  refine pure_fnM body58_1 (rs := [.tmp 4]) Try.func58 (by kernel_rfl) rfl rfl ?_
  intro l ob v hb hob
  unfold body58_1 at hb
  split at hb
  · rename_i v0 v1
    injection hb with q1 q2; subst q1 q2
    obtain ⟨hk0_0, hk1_0, hob⟩ := hob
    obtain ⟨r, H⟩ := Option.isSome_iff_exists.1 hob
    rw [H, gt_some]
    have hw0 := lK_wk (fun r h => w_TStored h) hk0_0
    have hw1 := rK_wk (f := c_u8) (g := g_u8) (fun r h => w_u8 h) hk1_0
    generalize lA g_TStored v0 = p0 at H hw0
    generalize g_u8 (rG v1) = p1 at H hw1
    refine ⟨[.ro 43 p0.length false (enR c_TStored p0), .fn 59 [.rptr 1 1 0 0 (enR c_u8 [p1])]], _, (fun E vs F => FR_wk1 hw0.1 F (fun vs F => FR_wk1 (fn_wk (LW_cons hw1.1 LW_nil)) F (fun vs F => F))), rfl, rfl, ?_⟩
    rw [Try.ntmps58]
    simp only [List.length_cons, List.length_nil, Nat.reduceAdd, Nat.reduceSub, List.replicate_succ, List.replicate_zero, List.cons_append, List.nil_append]
    unfold F58_1 at H
    refine sq ctNo_ok ?_
    simp only [go_sem]
    refine seqM ?_
    refine sq ctNo_ok ?_
    simp only [go_sem]
    refine blkM ?_
    refine loop_den (fun s : Int => (.ro 43 p0.length false (enR c_TStored p0) :: .fn 59 [.rptr 1 1 0 0 (enR c_u8 [p1])] :: tp 5 (.int .i64 (p0.length : Nat) :: .int .i64 s :: tp 10 []))) (fun s => []) (fun e : Unit => (tp 19 [])) (fun e => []) H ?_ (fun v1_1 o H hn1_1 hn2_1 => ?_) (fun e H => ?_)
    · refine SubF_of ⟨[], ?_, ?_, by rfl, by rfl⟩
      · simp [CvL, Cv, tp]
      · trivial
    · unfold F58_1_L1 at H
      try simp only [tp]
      refine sq ctNo_ok ?_
      simp only [go_sem]
      refine seqM ?_
      refine condM' rfl trivial (fun hc => ?_) (fun hc => ?_)
      · replace H := cond_f hc H
        refine rg ctNo_ok ?_
        simp only [go_sem]
        refine ⟨_, (Option.some.inj H).symm, ?_⟩
        refine SubF_of ⟨[], ?_, ?_, by rfl, by rfl⟩
        · simp [CvL, Cv]
        · trivial
      replace H := cond_t hc H
      refine rg ctNo_ok ?_
      simp only [go_sem]
      refine seqM ?_
      refine blkM ?_
      refine sq ctNo_ok ?_
      simp only [go_sem]
      refine seqM ?_
      obtain ⟨f1, H⟩ := need_some.1 H
      replace f1 := inb_iff.1 f1
      obtain ⟨r2, e3, H⟩ := bsi H
      refine rg ct58_1t0_ok ?_
      simp only [go_sem, Nat.reduceLT, Nat.reduceAdd, ct58_1t0_59, body59_0, f1, e3]
      refine condM rfl trivial (fun hc => ?_) (fun hc => ?_)
      · replace H := cond_t hc H
        refine sq ctNo_ok ?_
        simp only [go_sem]
        refine rg ctNo_ok ?_
        simp only [go_sem]
        have H := hn2_1 _ (Option.some.inj H).symm
        obtain rfl := Option.some.inj H
        first | rfl | simp only [Bool.and_false, Bool.false_and, Bool.and_true, Bool.true_and]
      replace H := cond_f hc H
      refine rg ctNo_ok ?_
      simp only [go_sem]
      refine rg ctNo_ok ?_
      simp only [go_sem]
      refine ⟨_, (Option.some.inj H).symm, ?_⟩
      refine SubF_of ⟨[], ?_, ?_, by rfl, by rfl⟩
      · simp [CvL, Cv]
      · trivial
    · try dsimp only at H ⊢
      try simp only [tp]
      try simp only [m_normal]
      refine sq ctNo_ok ?_
      simp only [go_sem]
      refine rg ctNo_ok ?_
      simp only [go_sem]
      obtain rfl := Option.some.inj H
      first | rfl | simp only [Bool.and_false, Bool.false_and, Bool.and_true, Bool.true_and]
  · cases hb
end Go.Proofs.Ytefiemaoacmdkaa
