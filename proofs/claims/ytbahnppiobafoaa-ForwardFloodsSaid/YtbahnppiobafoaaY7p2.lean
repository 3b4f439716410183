/-
  What ForwardFloods reaches.
-/
import Derived.Test.YtbahnppiobafoaaY7p1
namespace Go.Proofs.Ytbahnppiobafoaa
open Go.Am
set_option linter.unusedVariables false
set_option linter.unusedSimpArgs false
/-! hotspot/forward.Receive -/
noncomputable def ct20t0 : Ct := tab [(23, pureC body23), (27, pureC body27)]
theorem ct20t0_ok : CtOk Try.prog ct20t0 := tab_cons ok23 <| tab_cons ok27 <| tab_nil
theorem ct20t0_23 (l : List AV) (h : List ABlk) : ct20t0 23 l h = pureC body23 l h := rfl
theorem ct20t0_27 (l : List AV) (h : List ABlk) : ct20t0 27 l h = pureC body27 l h := rfl
noncomputable def ct20t1 : Ct := tab [(39, pureC body39), (40, pureC body40)]
theorem ct20t1_ok : CtOk Try.prog ct20t1 := tab_cons ok39 <| tab_cons ok40 <| tab_nil
theorem ct20t1_39 (l : List AV) (h : List ABlk) : ct20t1 39 l h = pureC body39 l h := rfl
theorem ct20t1_40 (l : List AV) (h : List ABlk) : ct20t1 40 l h = pureC body40 l h := rfl
noncomputable def ct20t2 : Ct := tab [(41, edC body41)]
theorem ct20t2_ok : CtOk Try.prog ct20t2 := tab_cons ok41 <| tab_nil
theorem ct20t2_41 (l : List AV) (h : List ABlk) : ct20t2 41 l h = edC body41 l h := rfl
noncomputable def ct20t3 : Ct := tab [(42, edC body42)]
theorem ct20t3_ok : CtOk Try.prog ct20t3 := tab_cons ok42 <| tab_nil
theorem ct20t3_42 (l : List AV) (h : List ABlk) : ct20t3 42 l h = edC body42 l h := rfl
noncomputable def ct20t4 : Ct := tab [(37, edC body37)]
theorem ct20t4_ok : CtOk Try.prog ct20t4 := tab_cons ok37 <| tab_nil
theorem ct20t4_37 (l : List AV) (h : List ABlk) : ct20t4 37 l h = edC body37 l h := rfl
noncomputable def ct20t5 : Ct := tab [(43, pureC body43)]
theorem ct20t5_ok : CtOk Try.prog ct20t5 := tab_cons ok43 <| tab_nil
theorem ct20t5_43 (l : List AV) (h : List ABlk) : ct20t5 43 l h = pureC body43 l h := rfl
noncomputable def ct20t6 : Ct := tab [(39, pureC body39)]
theorem ct20t6_ok : CtOk Try.prog ct20t6 := tab_cons ok39 <| tab_nil
theorem ct20t6_39 (l : List AV) (h : List ABlk) : ct20t6 39 l h = pureC body39 l h := rfl
noncomputable def F20 (p0 : TForward) (p1 : TMeshFrame) : Option (TForward × Int × TMeshFrame × Int) :=
  (F27 p0).bind fun r1 => need (bif (!(!bEq r1 0)) then ((F23 p1).isSome) else true) <| bif ((!bEq r1 0) || (!bEq (gt (F23 p1)) 0)) then (some ((TForward.mk (A6u8.mk 0 0 0 0 0 0) 0 [] []), 0, (TMeshFrame.mk (A6u8.mk 0 0 0 0 0 0) (A6u8.mk 0 0 0 0 0 0) (A6u8.mk 0 0 0 0 0 0) (A6u8.mk 0 0 0 0 0 0) (A6u8.mk 0 0 0 0 0 0) (A6u8.mk 0 0 0 0 0 0) 0 0 []), 8)) else ((F39 p1.To).bind fun r4 => need (bif (!((((!r4) && (!(bEq p1.To.x0 p0.Own.x0 && (bEq p1.To.x1 p0.Own.x1 && (bEq p1.To.x2 p0.Own.x2 && (bEq p1.To.x3 p0.Own.x3 && (bEq p1.To.x4 p0.Own.x4 && (bEq p1.To.x5 p0.Own.x5)))))))) || (bEq p1.Enter.x0 p0.Own.x0 && (bEq p1.Enter.x1 p0.Own.x1 && (bEq p1.Enter.x2 p0.Own.x2 && (bEq p1.Enter.x3 p0.Own.x3 && (bEq p1.Enter.x4 p0.Own.x4 && (bEq p1.Enter.x5 p0.Own.x5))))))) || (bEq p1.From.x0 p0.Own.x0 && (bEq p1.From.x1 p0.Own.x1 && (bEq p1.From.x2 p0.Own.x2 && (bEq p1.From.x3 p0.Own.x3 && (bEq p1.From.x4 p0.Own.x4 && (bEq p1.From.x5 p0.Own.x5)))))))) then ((F40 p0.Seen (TForwardMark.mk (A6u8.mk p1.Enter.x0 p1.Enter.x1 p1.Enter.x2 p1.Enter.x3 p1.Enter.x4 p1.Enter.x5) p1.Seq)).isSome) else true) <| bif (((((!r4) && (!(bEq p1.To.x0 p0.Own.x0 && (bEq p1.To.x1 p0.Own.x1 && (bEq p1.To.x2 p0.Own.x2 && (bEq p1.To.x3 p0.Own.x3 && (bEq p1.To.x4 p0.Own.x4 && (bEq p1.To.x5 p0.Own.x5)))))))) || (bEq p1.Enter.x0 p0.Own.x0 && (bEq p1.Enter.x1 p0.Own.x1 && (bEq p1.Enter.x2 p0.Own.x2 && (bEq p1.Enter.x3 p0.Own.x3 && (bEq p1.Enter.x4 p0.Own.x4 && (bEq p1.Enter.x5 p0.Own.x5))))))) || (bEq p1.From.x0 p0.Own.x0 && (bEq p1.From.x1 p0.Own.x1 && (bEq p1.From.x2 p0.Own.x2 && (bEq p1.From.x3 p0.Own.x3 && (bEq p1.From.x4 p0.Own.x4 && (bEq p1.From.x5 p0.Own.x5))))))) || (gt (F40 p0.Seen (TForwardMark.mk (A6u8.mk p1.Enter.x0 p1.Enter.x1 p1.Enter.x2 p1.Enter.x3 p1.Enter.x4 p1.Enter.x5) p1.Seq)))) then ((F41 p0).bind fun r7 => some ((TForward.mk (A6u8.mk r7.Own.x0 r7.Own.x1 r7.Own.x2 r7.Own.x3 r7.Own.x4 r7.Own.x5) r7.Seq r7.Seen r7.Nexts), 0, (TMeshFrame.mk (A6u8.mk 0 0 0 0 0 0) (A6u8.mk 0 0 0 0 0 0) (A6u8.mk 0 0 0 0 0 0) (A6u8.mk 0 0 0 0 0 0) (A6u8.mk 0 0 0 0 0 0) (A6u8.mk 0 0 0 0 0 0) 0 0 []), 0)) else ((F42 p0 p1.Enter p1.Seq).bind fun r9 => (F37 p1.Data).bind fun r11 => (F43 (TForward.mk (A6u8.mk r9.Own.x0 r9.Own.x1 r9.Own.x2 r9.Own.x3 r9.Own.x4 r9.Own.x5) r9.Seq r9.Seen r9.Nexts) p1.Leave).bind fun r13 => need (bif (!(bEq p1.Leave.x0 r9.Own.x0 && (bEq p1.Leave.x1 r9.Own.x1 && (bEq p1.Leave.x2 r9.Own.x2 && (bEq p1.Leave.x3 r9.Own.x3 && (bEq p1.Leave.x4 r9.Own.x4 && (bEq p1.Leave.x5 r9.Own.x5))))))) then ((F39 p1.To).isSome) else true) <| bif ((bEq p1.Leave.x0 r9.Own.x0 && (bEq p1.Leave.x1 r9.Own.x1 && (bEq p1.Leave.x2 r9.Own.x2 && (bEq p1.Leave.x3 r9.Own.x3 && (bEq p1.Leave.x4 r9.Own.x4 && (bEq p1.Leave.x5 r9.Own.x5)))))) || ((gt (F39 p1.To)) && (bEq p1.Ttl 1))) then (some ((TForward.mk (A6u8.mk r9.Own.x0 r9.Own.x1 r9.Own.x2 r9.Own.x3 r9.Own.x4 r9.Own.x5) r9.Seq r9.Seen r9.Nexts), 1, (TMeshFrame.mk (A6u8.mk p1.From.x0 p1.From.x1 p1.From.x2 p1.From.x3 p1.From.x4 p1.From.x5) (A6u8.mk p1.To.x0 p1.To.x1 p1.To.x2 p1.To.x3 p1.To.x4 p1.To.x5) (A6u8.mk p1.Enter.x0 p1.Enter.x1 p1.Enter.x2 p1.Enter.x3 p1.Enter.x4 p1.Enter.x5) (A6u8.mk p1.Leave.x0 p1.Leave.x1 p1.Leave.x2 p1.Leave.x3 p1.Leave.x4 p1.Leave.x5) (A6u8.mk p1.Source.x0 p1.Source.x1 p1.Source.x2 p1.Source.x3 p1.Source.x4 p1.Source.x5) (A6u8.mk p1.Target.x0 p1.Target.x1 p1.Target.x2 p1.Target.x3 p1.Target.x4 p1.Target.x5) p1.Seq p1.Ttl r11), 0)) else ((F39 p1.To).bind fun r16 => bif r16 then (some ((TForward.mk (A6u8.mk r9.Own.x0 r9.Own.x1 r9.Own.x2 r9.Own.x3 r9.Own.x4 r9.Own.x5) r9.Seq r9.Seen r9.Nexts), 3, (TMeshFrame.mk (A6u8.mk r9.Own.x0 r9.Own.x1 r9.Own.x2 r9.Own.x3 r9.Own.x4 r9.Own.x5) (A6u8.mk p1.To.x0 p1.To.x1 p1.To.x2 p1.To.x3 p1.To.x4 p1.To.x5) (A6u8.mk p1.Enter.x0 p1.Enter.x1 p1.Enter.x2 p1.Enter.x3 p1.Enter.x4 p1.Enter.x5) (A6u8.mk p1.Leave.x0 p1.Leave.x1 p1.Leave.x2 p1.Leave.x3 p1.Leave.x4 p1.Leave.x5) (A6u8.mk p1.Source.x0 p1.Source.x1 p1.Source.x2 p1.Source.x3 p1.Source.x4 p1.Source.x5) (A6u8.mk p1.Target.x0 p1.Target.x1 p1.Target.x2 p1.Target.x3 p1.Target.x4 p1.Target.x5) p1.Seq (wr .i64 (p1.Ttl - 1)) r11), 0)) else (bif (bEq p1.Ttl 1) then (some ((TForward.mk (A6u8.mk r9.Own.x0 r9.Own.x1 r9.Own.x2 r9.Own.x3 r9.Own.x4 r9.Own.x5) r9.Seq r9.Seen r9.Nexts), 0, (TMeshFrame.mk (A6u8.mk 0 0 0 0 0 0) (A6u8.mk 0 0 0 0 0 0) (A6u8.mk 0 0 0 0 0 0) (A6u8.mk 0 0 0 0 0 0) (A6u8.mk 0 0 0 0 0 0) (A6u8.mk 0 0 0 0 0 0) 0 0 []), 0)) else (bif (!r13.2) then (some ((TForward.mk (A6u8.mk r9.Own.x0 r9.Own.x1 r9.Own.x2 r9.Own.x3 r9.Own.x4 r9.Own.x5) r9.Seq r9.Seen r9.Nexts), 4, (TMeshFrame.mk (A6u8.mk p1.From.x0 p1.From.x1 p1.From.x2 p1.From.x3 p1.From.x4 p1.From.x5) (A6u8.mk p1.To.x0 p1.To.x1 p1.To.x2 p1.To.x3 p1.To.x4 p1.To.x5) (A6u8.mk p1.Enter.x0 p1.Enter.x1 p1.Enter.x2 p1.Enter.x3 p1.Enter.x4 p1.Enter.x5) (A6u8.mk p1.Leave.x0 p1.Leave.x1 p1.Leave.x2 p1.Leave.x3 p1.Leave.x4 p1.Leave.x5) (A6u8.mk p1.Source.x0 p1.Source.x1 p1.Source.x2 p1.Source.x3 p1.Source.x4 p1.Source.x5) (A6u8.mk p1.Target.x0 p1.Target.x1 p1.Target.x2 p1.Target.x3 p1.Target.x4 p1.Target.x5) p1.Seq p1.Ttl r11), 0)) else (some ((TForward.mk (A6u8.mk r9.Own.x0 r9.Own.x1 r9.Own.x2 r9.Own.x3 r9.Own.x4 r9.Own.x5) r9.Seq r9.Seen r9.Nexts), 2, (TMeshFrame.mk (A6u8.mk r9.Own.x0 r9.Own.x1 r9.Own.x2 r9.Own.x3 r9.Own.x4 r9.Own.x5) (A6u8.mk r13.1.x0 r13.1.x1 r13.1.x2 r13.1.x3 r13.1.x4 r13.1.x5) (A6u8.mk p1.Enter.x0 p1.Enter.x1 p1.Enter.x2 p1.Enter.x3 p1.Enter.x4 p1.Enter.x5) (A6u8.mk p1.Leave.x0 p1.Leave.x1 p1.Leave.x2 p1.Leave.x3 p1.Leave.x4 p1.Leave.x5) (A6u8.mk p1.Source.x0 p1.Source.x1 p1.Source.x2 p1.Source.x3 p1.Source.x4 p1.Source.x5) (A6u8.mk p1.Target.x0 p1.Target.x1 p1.Target.x2 p1.Target.x3 p1.Target.x4 p1.Target.x5) p1.Seq (wr .i64 (p1.Ttl - 1)) r11), 0)))))))
noncomputable def body20 : List AV -> Nat -> AR
  | [v0, v1], _ => .pure (aK 9 k_TForward v0 /\ aK 39 k_TMeshFrame v1 /\ (F20 (g_TForward (aL v0)) (g_TMeshFrame (aL v1))).isSome = true) (.tup [.agg [.int .u8 ((((gt (F20 (g_TForward (aL v0)) (g_TMeshFrame (aL v1)))).1).Own).x0), .int .u8 ((((gt (F20 (g_TForward (aL v0)) (g_TMeshFrame (aL v1)))).1).Own).x1), .int .u8 ((((gt (F20 (g_TForward (aL v0)) (g_TMeshFrame (aL v1)))).1).Own).x2), .int .u8 ((((gt (F20 (g_TForward (aL v0)) (g_TMeshFrame (aL v1)))).1).Own).x3), .int .u8 ((((gt (F20 (g_TForward (aL v0)) (g_TMeshFrame (aL v1)))).1).Own).x4), .int .u8 ((((gt (F20 (g_TForward (aL v0)) (g_TMeshFrame (aL v1)))).1).Own).x5), .int .i64 (((gt (F20 (g_TForward (aL v0)) (g_TMeshFrame (aL v1)))).1).Seq), .ro 7 ((((gt (F20 (g_TForward (aL v0)) (g_TMeshFrame (aL v1)))).1).Seen).length) false (enR c_TForwardMark (((gt (F20 (g_TForward (aL v0)) (g_TMeshFrame (aL v1)))).1).Seen)), .ro 12 ((((gt (F20 (g_TForward (aL v0)) (g_TMeshFrame (aL v1)))).1).Nexts).length) false (enR c_TForwardHop (((gt (F20 (g_TForward (aL v0)) (g_TMeshFrame (aL v1)))).1).Nexts))], .int .u8 ((gt (F20 (g_TForward (aL v0)) (g_TMeshFrame (aL v1)))).2.1), .agg (.int .u8 ((((gt (F20 (g_TForward (aL v0)) (g_TMeshFrame (aL v1)))).2.2.1).From).x0) :: .int .u8 ((((gt (F20 (g_TForward (aL v0)) (g_TMeshFrame (aL v1)))).2.2.1).From).x1) :: .int .u8 ((((gt (F20 (g_TForward (aL v0)) (g_TMeshFrame (aL v1)))).2.2.1).From).x2) :: .int .u8 ((((gt (F20 (g_TForward (aL v0)) (g_TMeshFrame (aL v1)))).2.2.1).From).x3) :: .int .u8 ((((gt (F20 (g_TForward (aL v0)) (g_TMeshFrame (aL v1)))).2.2.1).From).x4) :: .int .u8 ((((gt (F20 (g_TForward (aL v0)) (g_TMeshFrame (aL v1)))).2.2.1).From).x5) :: .int .u8 ((((gt (F20 (g_TForward (aL v0)) (g_TMeshFrame (aL v1)))).2.2.1).To).x0) :: .int .u8 ((((gt (F20 (g_TForward (aL v0)) (g_TMeshFrame (aL v1)))).2.2.1).To).x1) :: .int .u8 ((((gt (F20 (g_TForward (aL v0)) (g_TMeshFrame (aL v1)))).2.2.1).To).x2) :: .int .u8 ((((gt (F20 (g_TForward (aL v0)) (g_TMeshFrame (aL v1)))).2.2.1).To).x3) :: .int .u8 ((((gt (F20 (g_TForward (aL v0)) (g_TMeshFrame (aL v1)))).2.2.1).To).x4) :: .int .u8 ((((gt (F20 (g_TForward (aL v0)) (g_TMeshFrame (aL v1)))).2.2.1).To).x5) :: .int .u8 ((((gt (F20 (g_TForward (aL v0)) (g_TMeshFrame (aL v1)))).2.2.1).Enter).x0) :: .int .u8 ((((gt (F20 (g_TForward (aL v0)) (g_TMeshFrame (aL v1)))).2.2.1).Enter).x1) :: .int .u8 ((((gt (F20 (g_TForward (aL v0)) (g_TMeshFrame (aL v1)))).2.2.1).Enter).x2) :: .int .u8 ((((gt (F20 (g_TForward (aL v0)) (g_TMeshFrame (aL v1)))).2.2.1).Enter).x3) :: .int .u8 ((((gt (F20 (g_TForward (aL v0)) (g_TMeshFrame (aL v1)))).2.2.1).Enter).x4) :: .int .u8 ((((gt (F20 (g_TForward (aL v0)) (g_TMeshFrame (aL v1)))).2.2.1).Enter).x5) :: .int .u8 ((((gt (F20 (g_TForward (aL v0)) (g_TMeshFrame (aL v1)))).2.2.1).Leave).x0) :: .int .u8 ((((gt (F20 (g_TForward (aL v0)) (g_TMeshFrame (aL v1)))).2.2.1).Leave).x1) :: .int .u8 ((((gt (F20 (g_TForward (aL v0)) (g_TMeshFrame (aL v1)))).2.2.1).Leave).x2) :: .int .u8 ((((gt (F20 (g_TForward (aL v0)) (g_TMeshFrame (aL v1)))).2.2.1).Leave).x3) :: .int .u8 ((((gt (F20 (g_TForward (aL v0)) (g_TMeshFrame (aL v1)))).2.2.1).Leave).x4) :: .int .u8 ((((gt (F20 (g_TForward (aL v0)) (g_TMeshFrame (aL v1)))).2.2.1).Leave).x5) :: .int .u8 ((((gt (F20 (g_TForward (aL v0)) (g_TMeshFrame (aL v1)))).2.2.1).Source).x0) :: .int .u8 ((((gt (F20 (g_TForward (aL v0)) (g_TMeshFrame (aL v1)))).2.2.1).Source).x1) :: .int .u8 ((((gt (F20 (g_TForward (aL v0)) (g_TMeshFrame (aL v1)))).2.2.1).Source).x2) :: .int .u8 ((((gt (F20 (g_TForward (aL v0)) (g_TMeshFrame (aL v1)))).2.2.1).Source).x3) :: .int .u8 ((((gt (F20 (g_TForward (aL v0)) (g_TMeshFrame (aL v1)))).2.2.1).Source).x4) :: .int .u8 ((((gt (F20 (g_TForward (aL v0)) (g_TMeshFrame (aL v1)))).2.2.1).Source).x5) :: .int .u8 ((((gt (F20 (g_TForward (aL v0)) (g_TMeshFrame (aL v1)))).2.2.1).Target).x0) :: .int .u8 ((((gt (F20 (g_TForward (aL v0)) (g_TMeshFrame (aL v1)))).2.2.1).Target).x1) :: .int .u8 ((((gt (F20 (g_TForward (aL v0)) (g_TMeshFrame (aL v1)))).2.2.1).Target).x2) :: .int .u8 ((((gt (F20 (g_TForward (aL v0)) (g_TMeshFrame (aL v1)))).2.2.1).Target).x3) :: .int .u8 ((((gt (F20 (g_TForward (aL v0)) (g_TMeshFrame (aL v1)))).2.2.1).Target).x4) :: .int .u8 ((((gt (F20 (g_TForward (aL v0)) (g_TMeshFrame (aL v1)))).2.2.1).Target).x5) :: .int .i64 (((gt (F20 (g_TForward (aL v0)) (g_TMeshFrame (aL v1)))).2.2.1).Seq) :: .int .i64 (((gt (F20 (g_TForward (aL v0)) (g_TMeshFrame (aL v1)))).2.2.1).Ttl) :: .ro 1 ((((gt (F20 (g_TForward (aL v0)) (g_TMeshFrame (aL v1)))).2.2.1).Data).length) false (enR c_u8 (((gt (F20 (g_TForward (aL v0)) (g_TMeshFrame (aL v1)))).2.2.1).Data)) :: []), .int .i64 ((gt (F20 (g_TForward (aL v0)) (g_TMeshFrame (aL v1)))).2.2.2)])
  | _, _ => .fail
set_option maxHeartbeats 4000000 in
set_option maxRecDepth 20000 in
theorem ok20 : FnOk Try.prog 20 (genC body20) := by
  refine gen_fn body20 (rs := [.cell 4 31, .tmp 5, .cell 6 26, .tmp 7]) Try.func20 (by kernel_rfl) rfl rfl ?_
  intro l s ob v ns hb hob
  rcases hb with ⟨hb, rfl⟩ | hb
  · unfold body20 at hb
    split at hb
    · rename_i v0 v1
      injection hb with q1 q2; subst q1 q2
      obtain ⟨hk0_0, hk1_0, hob⟩ := hob
      obtain ⟨r, H⟩ := Option.isSome_iff_exists.1 hob
      rw [H, gt_some]
      have hw0 := wA_TForward hk0_0
      have hw1 := wA_TMeshFrame hk1_0
      generalize g_TForward (aL v0) = p0 at H hw0
      generalize g_TMeshFrame (aL v1) = p1 at H hw1
      refine ⟨[.agg [.int .u8 p0.Own.x0, .int .u8 p0.Own.x1, .int .u8 p0.Own.x2, .int .u8 p0.Own.x3, .int .u8 p0.Own.x4, .int .u8 p0.Own.x5, .int .i64 p0.Seq, .ro 7 p0.Seen.length false (enR c_TForwardMark p0.Seen), .ro 12 p0.Nexts.length false (enR c_TForwardHop p0.Nexts)], .agg (.int .u8 p1.From.x0 :: .int .u8 p1.From.x1 :: .int .u8 p1.From.x2 :: .int .u8 p1.From.x3 :: .int .u8 p1.From.x4 :: .int .u8 p1.From.x5 :: .int .u8 p1.To.x0 :: .int .u8 p1.To.x1 :: .int .u8 p1.To.x2 :: .int .u8 p1.To.x3 :: .int .u8 p1.To.x4 :: .int .u8 p1.To.x5 :: .int .u8 p1.Enter.x0 :: .int .u8 p1.Enter.x1 :: .int .u8 p1.Enter.x2 :: .int .u8 p1.Enter.x3 :: .int .u8 p1.Enter.x4 :: .int .u8 p1.Enter.x5 :: .int .u8 p1.Leave.x0 :: .int .u8 p1.Leave.x1 :: .int .u8 p1.Leave.x2 :: .int .u8 p1.Leave.x3 :: .int .u8 p1.Leave.x4 :: .int .u8 p1.Leave.x5 :: .int .u8 p1.Source.x0 :: .int .u8 p1.Source.x1 :: .int .u8 p1.Source.x2 :: .int .u8 p1.Source.x3 :: .int .u8 p1.Source.x4 :: .int .u8 p1.Source.x5 :: .int .u8 p1.Target.x0 :: .int .u8 p1.Target.x1 :: .int .u8 p1.Target.x2 :: .int .u8 p1.Target.x3 :: .int .u8 p1.Target.x4 :: .int .u8 p1.Target.x5 :: .int .i64 p1.Seq :: .int .i64 p1.Ttl :: .ro 1 p1.Data.length false (enR c_u8 p1.Data) :: [])], .tup [.agg [.int .u8 r.1.Own.x0, .int .u8 r.1.Own.x1, .int .u8 r.1.Own.x2, .int .u8 r.1.Own.x3, .int .u8 r.1.Own.x4, .int .u8 r.1.Own.x5, .int .i64 r.1.Seq, .ro 7 r.1.Seen.length false (enR c_TForwardMark r.1.Seen), .ro 12 r.1.Nexts.length false (enR c_TForwardHop r.1.Nexts)], .int .u8 r.2.1, .agg (.int .u8 r.2.2.1.From.x0 :: .int .u8 r.2.2.1.From.x1 :: .int .u8 r.2.2.1.From.x2 :: .int .u8 r.2.2.1.From.x3 :: .int .u8 r.2.2.1.From.x4 :: .int .u8 r.2.2.1.From.x5 :: .int .u8 r.2.2.1.To.x0 :: .int .u8 r.2.2.1.To.x1 :: .int .u8 r.2.2.1.To.x2 :: .int .u8 r.2.2.1.To.x3 :: .int .u8 r.2.2.1.To.x4 :: .int .u8 r.2.2.1.To.x5 :: .int .u8 r.2.2.1.Enter.x0 :: .int .u8 r.2.2.1.Enter.x1 :: .int .u8 r.2.2.1.Enter.x2 :: .int .u8 r.2.2.1.Enter.x3 :: .int .u8 r.2.2.1.Enter.x4 :: .int .u8 r.2.2.1.Enter.x5 :: .int .u8 r.2.2.1.Leave.x0 :: .int .u8 r.2.2.1.Leave.x1 :: .int .u8 r.2.2.1.Leave.x2 :: .int .u8 r.2.2.1.Leave.x3 :: .int .u8 r.2.2.1.Leave.x4 :: .int .u8 r.2.2.1.Leave.x5 :: .int .u8 r.2.2.1.Source.x0 :: .int .u8 r.2.2.1.Source.x1 :: .int .u8 r.2.2.1.Source.x2 :: .int .u8 r.2.2.1.Source.x3 :: .int .u8 r.2.2.1.Source.x4 :: .int .u8 r.2.2.1.Source.x5 :: .int .u8 r.2.2.1.Target.x0 :: .int .u8 r.2.2.1.Target.x1 :: .int .u8 r.2.2.1.Target.x2 :: .int .u8 r.2.2.1.Target.x3 :: .int .u8 r.2.2.1.Target.x4 :: .int .u8 r.2.2.1.Target.x5 :: .int .i64 r.2.2.1.Seq :: .int .i64 r.2.2.1.Ttl :: .ro 1 r.2.2.1.Data.length false (enR c_u8 r.2.2.1.Data) :: []), .int .i64 r.2.2.2], [], (fun E vs F => FR_wk1 hw0.1 F (fun vs F => FR_wk1 hw1.1 F (fun vs F => F))), by simp only [ren, renL], trivial, ?_⟩
      rw [Try.ntmps20]
      simp only [List.length_cons, List.length_nil, Nat.reduceAdd, Nat.reduceSub, List.replicate_succ, List.replicate_zero, List.cons_append, List.nil_append]
      unfold F20 at H
      try dsimp only at H
      refine sq ctNo_ok ?_
      simp only [go_sem, Nat.reduceLeDiff, Nat.reduceLT, Nat.reduceAdd, Nat.reduceMul, Nat.reduceSub, Nat.reduceEqDiff, Nat.reduceBEq, Int.reduceToNat, reduceCtorEq]
      refine seqM ?_
      refine seqM ?_
      obtain ⟨r1, e2, H⟩ := bsi H
      obtain ⟨f3, H⟩ := need_some.1 H
      replace f3 := g_iff.1 f3
      refine rg ct20t0_ok ?_
      simp only [go_sem, Nat.reduceLeDiff, Nat.reduceLT, Nat.reduceAdd, Nat.reduceMul, Nat.reduceSub, Nat.reduceEqDiff, Nat.reduceBEq, Int.reduceToNat, reduceCtorEq, ct20t0_23, body23, ct20t0_27, body27, e2]
      repeat ((with_reducible refine And.intro ?_ ?_); focus (first | (with_reducible trivial) | omega | exact f3 | (intro g; have q := f3 (by first | exact g | (rw [g]; rfl) | simpa using g); first | exact q | exact ⟨q.1, q.2.1⟩ | exact q.2.2 | omega | exact ⟨g, q⟩ | exact ⟨trivial, q⟩ | exact ⟨g, q.1, q.2.1⟩ | exact ⟨g, q.2.2⟩) | (intro g; (try have q0 := f3 (by first | exact g | (rw [g]; rfl) | simpa using g)); and_intros <;> first | (with_reducible trivial) | assumption | exact nfc | (intro g2; rw [g, g2]; rfl) | (intro g2; assumption) | (simp only [g, Bool.true_and, Bool.and_true, Bool.not_false, Bool.not_true]; assumption) | grind) | (and_intros <;> first | (with_reducible trivial) | omega | assumption | exact nfc | first | exact rfl | exact trivial | exact fitI | exact .inr rfl | exact .inl rfl | exact fun x hx => absurd hx (by omega)) | grind))
      refine condM rfl trivial (fun hc => ?_) (fun hc => ?_)
      · replace H := cond_t hc H
        refine sq ctNo_ok ?_
        simp only [go_sem, Nat.reduceLeDiff, Nat.reduceLT, Nat.reduceAdd, Nat.reduceMul, Nat.reduceSub, Nat.reduceEqDiff, Nat.reduceBEq, Int.reduceToNat, reduceCtorEq]
        repeat ((with_reducible refine And.intro ?_ ?_); focus exact an4)
        refine rg ctNo_ok ?_
        simp only [go_sem, Nat.reduceLeDiff, Nat.reduceLT, Nat.reduceAdd, Nat.reduceMul, Nat.reduceSub, Nat.reduceEqDiff, Nat.reduceBEq, Int.reduceToNat, reduceCtorEq]
        obtain rfl := Option.some.inj H
        refine ⟨[0, 1, 2, 3], ?_, ?_, [], ?_, ?_, rfl⟩
        · simp only [go_sem, Nat.reduceEqDiff, Nat.reduceBEq, Nat.reduceAdd]
          try exact at0
        · simp only [go_sem, Nat.reduceEqDiff, Nat.reduceBEq, Nat.reduceAdd]
          try exact at0
        · simp only [go_sem, Nat.reduceEqDiff, Nat.reduceBEq, Nat.reduceAdd]
          exact Cv_tup (CvL_cons (Cv_agg (CvL_cons Cv_int (CvL_cons Cv_int (CvL_cons Cv_int (CvL_cons Cv_int (CvL_cons Cv_int (CvL_cons Cv_int (CvL_cons Cv_int (CvL_cons (Cv_ronil (α := TForwardMark)) (CvL_cons (Cv_ronil (α := TForwardHop)) CvL_nil)))))))))) (CvL_cons Cv_int (CvL_cons (Cv_agg (CvL_cons Cv_int (CvL_cons Cv_int (CvL_cons Cv_int (CvL_cons Cv_int (CvL_cons Cv_int (CvL_cons Cv_int (CvL_cons Cv_int (CvL_cons Cv_int (CvL_cons Cv_int (CvL_cons Cv_int (CvL_cons Cv_int (CvL_cons Cv_int (CvL_cons Cv_int (CvL_cons Cv_int (CvL_cons Cv_int (CvL_cons Cv_int (CvL_cons Cv_int (CvL_cons Cv_int (CvL_cons Cv_int (CvL_cons Cv_int (CvL_cons Cv_int (CvL_cons Cv_int (CvL_cons Cv_int (CvL_cons Cv_int (CvL_cons Cv_int (CvL_cons Cv_int (CvL_cons Cv_int (CvL_cons Cv_int (CvL_cons Cv_int (CvL_cons Cv_int (CvL_cons Cv_int (CvL_cons Cv_int (CvL_cons Cv_int (CvL_cons Cv_int (CvL_cons Cv_int (CvL_cons Cv_int (CvL_cons Cv_int (CvL_cons Cv_int (CvL_cons (Cv_ronil (α := Int)) CvL_nil)))))))))))))))))))))))))))))))))))))))) (CvL_cons Cv_int CvL_nil))))
        · simp only [go_sem, Nat.reduceEqDiff, Nat.reduceBEq, Nat.reduceAdd, CvH]
      replace H := cond_f hc H
      refine rg ctNo_ok ?_
      simp only [go_sem, Nat.reduceLeDiff, Nat.reduceLT, Nat.reduceAdd, Nat.reduceMul, Nat.reduceSub, Nat.reduceEqDiff, Nat.reduceBEq, Int.reduceToNat, reduceCtorEq]
      refine sq ctNo_ok ?_
      simp only [go_sem, Nat.reduceLeDiff, Nat.reduceLT, Nat.reduceAdd, Nat.reduceMul, Nat.reduceSub, Nat.reduceEqDiff, Nat.reduceBEq, Int.reduceToNat, reduceCtorEq]
      repeat ((with_reducible refine And.intro ?_ ?_); focus exact an4)
      refine seqM ?_
      refine seqM ?_
      obtain ⟨r4, e5, H⟩ := bsi H
      obtain ⟨f6, H⟩ := need_some.1 H
      replace f6 := g_iff.1 f6
      refine rg ct20t1_ok ?_
      simp only [go_sem, Nat.reduceLeDiff, Nat.reduceLT, Nat.reduceAdd, Nat.reduceMul, Nat.reduceSub, Nat.reduceEqDiff, Nat.reduceBEq, Int.reduceToNat, reduceCtorEq, ct20t1_39, body39, ct20t1_40, body40, e5]
      repeat ((with_reducible refine And.intro ?_ ?_); focus (first | (with_reducible trivial) | omega | exact f6 | (intro g; have q := f6 (by first | exact g | (rw [g]; rfl) | simpa using g); first | exact q | exact ⟨q.1, q.2.1⟩ | exact q.2.2 | omega | exact ⟨g, q⟩ | exact ⟨trivial, q⟩ | exact ⟨g, q.1, q.2.1⟩ | exact ⟨g, q.2.2⟩) | (intro g; (try have q0 := f6 (by first | exact g | (rw [g]; rfl) | simpa using g)); and_intros <;> first | (with_reducible trivial) | assumption | exact nfc | (intro g2; rw [g, g2]; rfl) | (intro g2; assumption) | (simp only [g, Bool.true_and, Bool.and_true, Bool.not_false, Bool.not_true]; assumption) | grind) | (and_intros <;> first | (with_reducible trivial) | omega | assumption | exact nfc | first | exact rfl | exact trivial | exact fitI | exact .inr rfl | exact .inl rfl | exact fun x hx => absurd hx (by omega)) | grind))
      refine condM rfl trivial (fun hc => ?_) (fun hc => ?_)
      · replace H := cond_t hc H
        refine seqM ?_
        obtain ⟨r7, e8, H⟩ := bsi H
        refine rg ct20t2_ok ?_
        simp only [go_sem, Nat.reduceLeDiff, Nat.reduceLT, Nat.reduceAdd, Nat.reduceMul, Nat.reduceSub, Nat.reduceEqDiff, Nat.reduceBEq, Int.reduceToNat, reduceCtorEq, ct20t2_41, body41, e8]
        repeat ((with_reducible refine And.intro ?_ ?_); focus exact an0)
        refine rg ctNo_ok ?_
        simp only [go_sem, Nat.reduceLeDiff, Nat.reduceLT, Nat.reduceAdd, Nat.reduceMul, Nat.reduceSub, Nat.reduceEqDiff, Nat.reduceBEq, Int.reduceToNat, reduceCtorEq]
        obtain rfl := Option.some.inj H
        refine ⟨[5, 6, 0, 1, 2, 3, 4], ?_, ?_, [], ?_, ?_, rfl⟩
        · simp only [go_sem, Nat.reduceEqDiff, Nat.reduceBEq, Nat.reduceAdd]
          try exact at0
        · simp only [go_sem, Nat.reduceEqDiff, Nat.reduceBEq, Nat.reduceAdd]
          try exact at0
        · simp only [go_sem, Nat.reduceEqDiff, Nat.reduceBEq, Nat.reduceAdd]
          exact Cv_tup (CvL_cons (Cv_agg (CvL_cons Cv_int (CvL_cons Cv_int (CvL_cons Cv_int (CvL_cons Cv_int (CvL_cons Cv_int (CvL_cons Cv_int (CvL_cons Cv_int (CvL_cons (ro_row (by first | rfl | simp) (fun _ _ _ _ => rfl)) (CvL_cons (ro_row (by first | rfl | simp) (fun _ _ _ _ => rfl)) CvL_nil)))))))))) (CvL_cons Cv_int (CvL_cons (Cv_agg (CvL_cons Cv_int (CvL_cons Cv_int (CvL_cons Cv_int (CvL_cons Cv_int (CvL_cons Cv_int (CvL_cons Cv_int (CvL_cons Cv_int (CvL_cons Cv_int (CvL_cons Cv_int (CvL_cons Cv_int (CvL_cons Cv_int (CvL_cons Cv_int (CvL_cons Cv_int (CvL_cons Cv_int (CvL_cons Cv_int (CvL_cons Cv_int (CvL_cons Cv_int (CvL_cons Cv_int (CvL_cons Cv_int (CvL_cons Cv_int (CvL_cons Cv_int (CvL_cons Cv_int (CvL_cons Cv_int (CvL_cons Cv_int (CvL_cons Cv_int (CvL_cons Cv_int (CvL_cons Cv_int (CvL_cons Cv_int (CvL_cons Cv_int (CvL_cons Cv_int (CvL_cons Cv_int (CvL_cons Cv_int (CvL_cons Cv_int (CvL_cons Cv_int (CvL_cons Cv_int (CvL_cons Cv_int (CvL_cons Cv_int (CvL_cons Cv_int (CvL_cons (Cv_ronil (α := Int)) CvL_nil)))))))))))))))))))))))))))))))))))))))) (CvL_cons Cv_int CvL_nil))))
        · simp only [go_sem, Nat.reduceEqDiff, Nat.reduceBEq, Nat.reduceAdd, CvH]
      replace H := cond_f hc H
      refine rg ctNo_ok ?_
      simp only [go_sem, Nat.reduceLeDiff, Nat.reduceLT, Nat.reduceAdd, Nat.reduceMul, Nat.reduceSub, Nat.reduceEqDiff, Nat.reduceBEq, Int.reduceToNat, reduceCtorEq]
      refine seqM ?_
      obtain ⟨r9, e10, H⟩ := bsi H
      refine rg ct20t3_ok ?_
      simp only [go_sem, Nat.reduceLeDiff, Nat.reduceLT, Nat.reduceAdd, Nat.reduceMul, Nat.reduceSub, Nat.reduceEqDiff, Nat.reduceBEq, Int.reduceToNat, reduceCtorEq, ct20t3_42, body42, e10]
      repeat ((with_reducible refine And.intro ?_ ?_); focus exact an0)
      refine seqM ?_
      obtain ⟨r11, e12, H⟩ := bsi H
      refine rg ct20t4_ok ?_
      simp only [go_sem, Nat.reduceLeDiff, Nat.reduceLT, Nat.reduceAdd, Nat.reduceMul, Nat.reduceSub, Nat.reduceEqDiff, Nat.reduceBEq, Int.reduceToNat, reduceCtorEq, ct20t4_37, body37, e12]
      repeat ((with_reducible refine And.intro ?_ ?_); focus exact an0)
      refine seqM ?_
      obtain ⟨r13, e14, H⟩ := bsi H
      refine rg ct20t5_ok ?_
      simp only [go_sem, Nat.reduceLeDiff, Nat.reduceLT, Nat.reduceAdd, Nat.reduceMul, Nat.reduceSub, Nat.reduceEqDiff, Nat.reduceBEq, Int.reduceToNat, reduceCtorEq, ct20t5_43, body43, e14]
      repeat ((with_reducible refine And.intro ?_ ?_); focus exact an0)
      refine sq ctNo_ok ?_
      simp only [go_sem, Nat.reduceLeDiff, Nat.reduceLT, Nat.reduceAdd, Nat.reduceMul, Nat.reduceSub, Nat.reduceEqDiff, Nat.reduceBEq, Int.reduceToNat, reduceCtorEq]
      refine seqM ?_
      refine blkM ?_
      refine seqM ?_
      obtain ⟨f15, H⟩ := need_some.1 H
      replace f15 := g_iff.1 f15
      refine rg ct20t6_ok ?_
      simp only [go_sem, Nat.reduceLeDiff, Nat.reduceLT, Nat.reduceAdd, Nat.reduceMul, Nat.reduceSub, Nat.reduceEqDiff, Nat.reduceBEq, Int.reduceToNat, reduceCtorEq, ct20t6_39, body39]
      repeat ((with_reducible refine And.intro ?_ ?_); focus (first | (with_reducible trivial) | omega | exact f15 | (intro g; have q := f15 (by first | exact g | (rw [g]; rfl) | simpa using g); first | exact q | exact ⟨q.1, q.2.1⟩ | exact q.2.2 | omega | exact ⟨g, q⟩ | exact ⟨trivial, q⟩ | exact ⟨g, q.1, q.2.1⟩ | exact ⟨g, q.2.2⟩) | (intro g; (try have q0 := f15 (by first | exact g | (rw [g]; rfl) | simpa using g)); and_intros <;> first | (with_reducible trivial) | assumption | exact nfc | (intro g2; rw [g, g2]; rfl) | (intro g2; assumption) | (simp only [g, Bool.true_and, Bool.and_true, Bool.not_false, Bool.not_true]; assumption) | grind) | (and_intros <;> first | (with_reducible trivial) | omega | assumption | exact nfc | first | exact rfl | exact trivial | exact fitI | exact .inr rfl | exact .inl rfl | exact fun x hx => absurd hx (by omega)) | grind))
      refine condM rfl trivial (fun hc => ?_) (fun hc => ?_)
      · replace H := cond_t hc H
        refine seqM ?_
        refine draw_rule shT_ok ctNo_ok 0 (by kernel_rfl) (by kernel_rfl) ?_
        intro an han
        simp only [d_nil, d_cons, nxtD, xrD, xoD, roEq, minL, List.append_nil, refsOp, refs, refsL, mask, maskF, place, placeF, okLog, pairOk, hit, inL, slotsF, ren, renL, rnN, nrH, nrB, nrL, nr, dead0, deadS, List.replicate_zero, List.replicate_succ, Nat.sub_self, Nat.add_zero, Nat.zero_add, Nat.reduceSub, Nat.not_lt_zero, Nat.zero_le, Nat.lt_add_one, go_sem, Nat.reduceLeDiff, Nat.reduceLT, Nat.reduceAdd, Nat.reduceMul, Nat.reduceSub, Nat.reduceEqDiff, Nat.reduceBEq, Int.reduceToNat, reduceCtorEq]
        repeat ((with_reducible refine And.intro ?_ ?_); focus exact an1)
        refine rg ctNo_ok ?_
        simp only [go_sem, Nat.reduceLeDiff, Nat.reduceLT, Nat.reduceAdd, Nat.reduceMul, Nat.reduceSub, Nat.reduceEqDiff, Nat.reduceBEq, Int.reduceToNat, reduceCtorEq]
        obtain rfl := Option.some.inj H
        refine ⟨[5, 6, 7, 0, 1, 2, 3, 4, 8], ?_, ?_, [], ?_, ?_, rfl⟩
        · simp only [go_sem, Nat.reduceEqDiff, Nat.reduceBEq, Nat.reduceAdd]
          try exact at0
        · simp only [go_sem, Nat.reduceEqDiff, Nat.reduceBEq, Nat.reduceAdd]
          try exact at0
        · simp only [go_sem, Nat.reduceEqDiff, Nat.reduceBEq, Nat.reduceAdd]
          exact Cv_tup (CvL_cons (Cv_agg (CvL_cons Cv_int (CvL_cons Cv_int (CvL_cons Cv_int (CvL_cons Cv_int (CvL_cons Cv_int (CvL_cons Cv_int (CvL_cons Cv_int (CvL_cons (ro_row (by first | rfl | simp) (fun _ _ _ _ => rfl)) (CvL_cons (ro_row (by first | rfl | simp) (fun _ _ _ _ => rfl)) CvL_nil)))))))))) (CvL_cons Cv_int (CvL_cons (Cv_agg (CvL_cons Cv_int (CvL_cons Cv_int (CvL_cons Cv_int (CvL_cons Cv_int (CvL_cons Cv_int (CvL_cons Cv_int (CvL_cons Cv_int (CvL_cons Cv_int (CvL_cons Cv_int (CvL_cons Cv_int (CvL_cons Cv_int (CvL_cons Cv_int (CvL_cons Cv_int (CvL_cons Cv_int (CvL_cons Cv_int (CvL_cons Cv_int (CvL_cons Cv_int (CvL_cons Cv_int (CvL_cons Cv_int (CvL_cons Cv_int (CvL_cons Cv_int (CvL_cons Cv_int (CvL_cons Cv_int (CvL_cons Cv_int (CvL_cons Cv_int (CvL_cons Cv_int (CvL_cons Cv_int (CvL_cons Cv_int (CvL_cons Cv_int (CvL_cons Cv_int (CvL_cons Cv_int (CvL_cons Cv_int (CvL_cons Cv_int (CvL_cons Cv_int (CvL_cons Cv_int (CvL_cons Cv_int (CvL_cons Cv_int (CvL_cons Cv_int (CvL_cons (ro_row (by first | rfl | simp) (fun _ _ _ _ => rfl)) CvL_nil)))))))))))))))))))))))))))))))))))))))) (CvL_cons Cv_int CvL_nil))))
        · simp only [go_sem, Nat.reduceEqDiff, Nat.reduceBEq, Nat.reduceAdd, CvH]
      replace H := cond_f hc H
      refine seqM ?_
      obtain ⟨r16, e17, H⟩ := bsi H
      refine rg ct20t6_ok ?_
      simp only [go_sem, Nat.reduceLeDiff, Nat.reduceLT, Nat.reduceAdd, Nat.reduceMul, Nat.reduceSub, Nat.reduceEqDiff, Nat.reduceBEq, Int.reduceToNat, reduceCtorEq, ct20t6_39, body39, e17]
      repeat ((with_reducible refine And.intro ?_ ?_); focus exact an0)
      refine condM rfl trivial (fun hc => ?_) (fun hc => ?_)
      · replace H := cond_t hc H
        refine draw_rule shT_ok ctNo_ok 0 (by kernel_rfl) (by kernel_rfl) ?_
        intro an han
        simp only [d_nil, d_cons, nxtD, xrD, xoD, roEq, minL, List.append_nil, refsOp, refs, refsL, mask, maskF, place, placeF, okLog, pairOk, hit, inL, slotsF, ren, renL, rnN, nrH, nrB, nrL, nr, dead0, deadS, List.replicate_zero, List.replicate_succ, Nat.sub_self, Nat.add_zero, Nat.zero_add, Nat.reduceSub, Nat.not_lt_zero, Nat.zero_le, Nat.lt_add_one, go_sem, Nat.reduceLeDiff, Nat.reduceLT, Nat.reduceAdd, Nat.reduceMul, Nat.reduceSub, Nat.reduceEqDiff, Nat.reduceBEq, Int.reduceToNat, reduceCtorEq]
        repeat ((with_reducible refine And.intro ?_ ?_); focus exact an1)
        refine seqM ?_
        refine draw_rule shT_ok ctNo_ok 0 (by kernel_rfl) (by kernel_rfl) ?_
        intro an han
        simp only [d_nil, d_cons, nxtD, xrD, xoD, roEq, minL, List.append_nil, refsOp, refs, refsL, mask, maskF, place, placeF, okLog, pairOk, hit, inL, slotsF, ren, renL, rnN, nrH, nrB, nrL, nr, dead0, deadS, List.replicate_zero, List.replicate_succ, Nat.sub_self, Nat.add_zero, Nat.zero_add, Nat.reduceSub, Nat.not_lt_zero, Nat.zero_le, Nat.lt_add_one, go_sem, Nat.reduceLeDiff, Nat.reduceLT, Nat.reduceAdd, Nat.reduceMul, Nat.reduceSub, Nat.reduceEqDiff, Nat.reduceBEq, Int.reduceToNat, reduceCtorEq]
        repeat ((with_reducible refine And.intro ?_ ?_); focus exact an1)
        refine seqM ?_
        refine draw_rule shT_ok ctNo_ok 0 (by kernel_rfl) (by kernel_rfl) ?_
        intro an han
        simp only [d_nil, d_cons, nxtD, xrD, xoD, roEq, minL, List.append_nil, refsOp, refs, refsL, mask, maskF, place, placeF, okLog, pairOk, hit, inL, slotsF, ren, renL, rnN, nrH, nrB, nrL, nr, dead0, deadS, List.replicate_zero, List.replicate_succ, Nat.sub_self, Nat.add_zero, Nat.zero_add, Nat.reduceSub, Nat.not_lt_zero, Nat.zero_le, Nat.lt_add_one, go_sem, Nat.reduceLeDiff, Nat.reduceLT, Nat.reduceAdd, Nat.reduceMul, Nat.reduceSub, Nat.reduceEqDiff, Nat.reduceBEq, Int.reduceToNat, reduceCtorEq]
        repeat ((with_reducible refine And.intro ?_ ?_); focus exact an1)
        refine rg ctNo_ok ?_
        simp only [go_sem, Nat.reduceLeDiff, Nat.reduceLT, Nat.reduceAdd, Nat.reduceMul, Nat.reduceSub, Nat.reduceEqDiff, Nat.reduceBEq, Int.reduceToNat, reduceCtorEq]
        obtain rfl := Option.some.inj H
        refine ⟨[5, 6, 7, 0, 1, 2, 3, 4, 8], ?_, ?_, [], ?_, ?_, rfl⟩
        · simp only [go_sem, Nat.reduceEqDiff, Nat.reduceBEq, Nat.reduceAdd]
          try exact at0
        · simp only [go_sem, Nat.reduceEqDiff, Nat.reduceBEq, Nat.reduceAdd]
          try exact at0
        · simp only [go_sem, Nat.reduceEqDiff, Nat.reduceBEq, Nat.reduceAdd]
          exact Cv_tup (CvL_cons (Cv_agg (CvL_cons Cv_int (CvL_cons Cv_int (CvL_cons Cv_int (CvL_cons Cv_int (CvL_cons Cv_int (CvL_cons Cv_int (CvL_cons Cv_int (CvL_cons (ro_row (by first | rfl | simp) (fun _ _ _ _ => rfl)) (CvL_cons (ro_row (by first | rfl | simp) (fun _ _ _ _ => rfl)) CvL_nil)))))))))) (CvL_cons Cv_int (CvL_cons (Cv_agg (CvL_cons Cv_int (CvL_cons Cv_int (CvL_cons Cv_int (CvL_cons Cv_int (CvL_cons Cv_int (CvL_cons Cv_int (CvL_cons Cv_int (CvL_cons Cv_int (CvL_cons Cv_int (CvL_cons Cv_int (CvL_cons Cv_int (CvL_cons Cv_int (CvL_cons Cv_int (CvL_cons Cv_int (CvL_cons Cv_int (CvL_cons Cv_int (CvL_cons Cv_int (CvL_cons Cv_int (CvL_cons Cv_int (CvL_cons Cv_int (CvL_cons Cv_int (CvL_cons Cv_int (CvL_cons Cv_int (CvL_cons Cv_int (CvL_cons Cv_int (CvL_cons Cv_int (CvL_cons Cv_int (CvL_cons Cv_int (CvL_cons Cv_int (CvL_cons Cv_int (CvL_cons Cv_int (CvL_cons Cv_int (CvL_cons Cv_int (CvL_cons Cv_int (CvL_cons Cv_int (CvL_cons Cv_int (CvL_cons Cv_int (CvL_cons Cv_int (CvL_cons (ro_row (by first | rfl | simp) (fun _ _ _ _ => rfl)) CvL_nil)))))))))))))))))))))))))))))))))))))))) (CvL_cons Cv_int CvL_nil))))
        · simp only [go_sem, Nat.reduceEqDiff, Nat.reduceBEq, Nat.reduceAdd, CvH]
      replace H := cond_f hc H
      refine sq ctNo_ok ?_
      simp only [go_sem, Nat.reduceLeDiff, Nat.reduceLT, Nat.reduceAdd, Nat.reduceMul, Nat.reduceSub, Nat.reduceEqDiff, Nat.reduceBEq, Int.reduceToNat, reduceCtorEq]
      refine condM rfl trivial (fun hc => ?_) (fun hc => ?_)
      · replace H := cond_t hc H
        refine sq ctNo_ok ?_
        simp only [go_sem, Nat.reduceLeDiff, Nat.reduceLT, Nat.reduceAdd, Nat.reduceMul, Nat.reduceSub, Nat.reduceEqDiff, Nat.reduceBEq, Int.reduceToNat, reduceCtorEq]
        repeat ((with_reducible refine And.intro ?_ ?_); focus exact an4)
        refine rg ctNo_ok ?_
        simp only [go_sem, Nat.reduceLeDiff, Nat.reduceLT, Nat.reduceAdd, Nat.reduceMul, Nat.reduceSub, Nat.reduceEqDiff, Nat.reduceBEq, Int.reduceToNat, reduceCtorEq]
        obtain rfl := Option.some.inj H
        refine ⟨[5, 6, 0, 1, 2, 3, 4, 8], ?_, ?_, [], ?_, ?_, rfl⟩
        · simp only [go_sem, Nat.reduceEqDiff, Nat.reduceBEq, Nat.reduceAdd]
          try exact at0
        · simp only [go_sem, Nat.reduceEqDiff, Nat.reduceBEq, Nat.reduceAdd]
          try exact at0
        · simp only [go_sem, Nat.reduceEqDiff, Nat.reduceBEq, Nat.reduceAdd]
          exact Cv_tup (CvL_cons (Cv_agg (CvL_cons Cv_int (CvL_cons Cv_int (CvL_cons Cv_int (CvL_cons Cv_int (CvL_cons Cv_int (CvL_cons Cv_int (CvL_cons Cv_int (CvL_cons (ro_row (by first | rfl | simp) (fun _ _ _ _ => rfl)) (CvL_cons (ro_row (by first | rfl | simp) (fun _ _ _ _ => rfl)) CvL_nil)))))))))) (CvL_cons Cv_int (CvL_cons (Cv_agg (CvL_cons Cv_int (CvL_cons Cv_int (CvL_cons Cv_int (CvL_cons Cv_int (CvL_cons Cv_int (CvL_cons Cv_int (CvL_cons Cv_int (CvL_cons Cv_int (CvL_cons Cv_int (CvL_cons Cv_int (CvL_cons Cv_int (CvL_cons Cv_int (CvL_cons Cv_int (CvL_cons Cv_int (CvL_cons Cv_int (CvL_cons Cv_int (CvL_cons Cv_int (CvL_cons Cv_int (CvL_cons Cv_int (CvL_cons Cv_int (CvL_cons Cv_int (CvL_cons Cv_int (CvL_cons Cv_int (CvL_cons Cv_int (CvL_cons Cv_int (CvL_cons Cv_int (CvL_cons Cv_int (CvL_cons Cv_int (CvL_cons Cv_int (CvL_cons Cv_int (CvL_cons Cv_int (CvL_cons Cv_int (CvL_cons Cv_int (CvL_cons Cv_int (CvL_cons Cv_int (CvL_cons Cv_int (CvL_cons Cv_int (CvL_cons Cv_int (CvL_cons (Cv_ronil (α := Int)) CvL_nil)))))))))))))))))))))))))))))))))))))))) (CvL_cons Cv_int CvL_nil))))
        · simp only [go_sem, Nat.reduceEqDiff, Nat.reduceBEq, Nat.reduceAdd, CvH]
      replace H := cond_f hc H
      refine sq ctNo_ok ?_
      simp only [go_sem, Nat.reduceLeDiff, Nat.reduceLT, Nat.reduceAdd, Nat.reduceMul, Nat.reduceSub, Nat.reduceEqDiff, Nat.reduceBEq, Int.reduceToNat, reduceCtorEq]
      refine condM rfl trivial (fun hc => ?_) (fun hc => ?_)
      · replace H := cond_t hc H
        refine seqM ?_
        refine draw_rule shT_ok ctNo_ok 0 (by kernel_rfl) (by kernel_rfl) ?_
        intro an han
        simp only [d_nil, d_cons, nxtD, xrD, xoD, roEq, minL, List.append_nil, refsOp, refs, refsL, mask, maskF, place, placeF, okLog, pairOk, hit, inL, slotsF, ren, renL, rnN, nrH, nrB, nrL, nr, dead0, deadS, List.replicate_zero, List.replicate_succ, Nat.sub_self, Nat.add_zero, Nat.zero_add, Nat.reduceSub, Nat.not_lt_zero, Nat.zero_le, Nat.lt_add_one, go_sem, Nat.reduceLeDiff, Nat.reduceLT, Nat.reduceAdd, Nat.reduceMul, Nat.reduceSub, Nat.reduceEqDiff, Nat.reduceBEq, Int.reduceToNat, reduceCtorEq]
        repeat ((with_reducible refine And.intro ?_ ?_); focus exact an1)
        refine rg ctNo_ok ?_
        simp only [go_sem, Nat.reduceLeDiff, Nat.reduceLT, Nat.reduceAdd, Nat.reduceMul, Nat.reduceSub, Nat.reduceEqDiff, Nat.reduceBEq, Int.reduceToNat, reduceCtorEq]
        obtain rfl := Option.some.inj H
        refine ⟨[5, 6, 7, 0, 1, 2, 3, 4, 8], ?_, ?_, [], ?_, ?_, rfl⟩
        · simp only [go_sem, Nat.reduceEqDiff, Nat.reduceBEq, Nat.reduceAdd]
          try exact at0
        · simp only [go_sem, Nat.reduceEqDiff, Nat.reduceBEq, Nat.reduceAdd]
          try exact at0
        · simp only [go_sem, Nat.reduceEqDiff, Nat.reduceBEq, Nat.reduceAdd]
          exact Cv_tup (CvL_cons (Cv_agg (CvL_cons Cv_int (CvL_cons Cv_int (CvL_cons Cv_int (CvL_cons Cv_int (CvL_cons Cv_int (CvL_cons Cv_int (CvL_cons Cv_int (CvL_cons (ro_row (by first | rfl | simp) (fun _ _ _ _ => rfl)) (CvL_cons (ro_row (by first | rfl | simp) (fun _ _ _ _ => rfl)) CvL_nil)))))))))) (CvL_cons Cv_int (CvL_cons (Cv_agg (CvL_cons Cv_int (CvL_cons Cv_int (CvL_cons Cv_int (CvL_cons Cv_int (CvL_cons Cv_int (CvL_cons Cv_int (CvL_cons Cv_int (CvL_cons Cv_int (CvL_cons Cv_int (CvL_cons Cv_int (CvL_cons Cv_int (CvL_cons Cv_int (CvL_cons Cv_int (CvL_cons Cv_int (CvL_cons Cv_int (CvL_cons Cv_int (CvL_cons Cv_int (CvL_cons Cv_int (CvL_cons Cv_int (CvL_cons Cv_int (CvL_cons Cv_int (CvL_cons Cv_int (CvL_cons Cv_int (CvL_cons Cv_int (CvL_cons Cv_int (CvL_cons Cv_int (CvL_cons Cv_int (CvL_cons Cv_int (CvL_cons Cv_int (CvL_cons Cv_int (CvL_cons Cv_int (CvL_cons Cv_int (CvL_cons Cv_int (CvL_cons Cv_int (CvL_cons Cv_int (CvL_cons Cv_int (CvL_cons Cv_int (CvL_cons Cv_int (CvL_cons (ro_row (by first | rfl | simp) (fun _ _ _ _ => rfl)) CvL_nil)))))))))))))))))))))))))))))))))))))))) (CvL_cons Cv_int CvL_nil))))
        · simp only [go_sem, Nat.reduceEqDiff, Nat.reduceBEq, Nat.reduceAdd, CvH]
      replace H := cond_f hc H
      refine rg ctNo_ok ?_
      simp only [go_sem, Nat.reduceLeDiff, Nat.reduceLT, Nat.reduceAdd, Nat.reduceMul, Nat.reduceSub, Nat.reduceEqDiff, Nat.reduceBEq, Int.reduceToNat, reduceCtorEq]
      refine seqM ?_
      refine draw_rule shT_ok ctNo_ok 0 (by kernel_rfl) (by kernel_rfl) ?_
      intro an han
      simp only [d_nil, d_cons, nxtD, xrD, xoD, roEq, minL, List.append_nil, refsOp, refs, refsL, mask, maskF, place, placeF, okLog, pairOk, hit, inL, slotsF, ren, renL, rnN, nrH, nrB, nrL, nr, dead0, deadS, List.replicate_zero, List.replicate_succ, Nat.sub_self, Nat.add_zero, Nat.zero_add, Nat.reduceSub, Nat.not_lt_zero, Nat.zero_le, Nat.lt_add_one, go_sem, Nat.reduceLeDiff, Nat.reduceLT, Nat.reduceAdd, Nat.reduceMul, Nat.reduceSub, Nat.reduceEqDiff, Nat.reduceBEq, Int.reduceToNat, reduceCtorEq]
      repeat ((with_reducible refine And.intro ?_ ?_); focus exact an1)
      refine seqM ?_
      refine draw_rule shT_ok ctNo_ok 0 (by kernel_rfl) (by kernel_rfl) ?_
      intro an han
      simp only [d_nil, d_cons, nxtD, xrD, xoD, roEq, minL, List.append_nil, refsOp, refs, refsL, mask, maskF, place, placeF, okLog, pairOk, hit, inL, slotsF, ren, renL, rnN, nrH, nrB, nrL, nr, dead0, deadS, List.replicate_zero, List.replicate_succ, Nat.sub_self, Nat.add_zero, Nat.zero_add, Nat.reduceSub, Nat.not_lt_zero, Nat.zero_le, Nat.lt_add_one, go_sem, Nat.reduceLeDiff, Nat.reduceLT, Nat.reduceAdd, Nat.reduceMul, Nat.reduceSub, Nat.reduceEqDiff, Nat.reduceBEq, Int.reduceToNat, reduceCtorEq]
      repeat ((with_reducible refine And.intro ?_ ?_); focus exact an1)
      refine rg ctNo_ok ?_
      simp only [go_sem, Nat.reduceLeDiff, Nat.reduceLT, Nat.reduceAdd, Nat.reduceMul, Nat.reduceSub, Nat.reduceEqDiff, Nat.reduceBEq, Int.reduceToNat, reduceCtorEq]
      obtain rfl := Option.some.inj H
      refine ⟨[5, 6, 7, 0, 1, 2, 3, 4, 8], ?_, ?_, [], ?_, ?_, rfl⟩
      · simp only [go_sem, Nat.reduceEqDiff, Nat.reduceBEq, Nat.reduceAdd]
        try exact at0
      · simp only [go_sem, Nat.reduceEqDiff, Nat.reduceBEq, Nat.reduceAdd]
        try exact at0
      · simp only [go_sem, Nat.reduceEqDiff, Nat.reduceBEq, Nat.reduceAdd]
        exact Cv_tup (CvL_cons (Cv_agg (CvL_cons Cv_int (CvL_cons Cv_int (CvL_cons Cv_int (CvL_cons Cv_int (CvL_cons Cv_int (CvL_cons Cv_int (CvL_cons Cv_int (CvL_cons (ro_row (by first | rfl | simp) (fun _ _ _ _ => rfl)) (CvL_cons (ro_row (by first | rfl | simp) (fun _ _ _ _ => rfl)) CvL_nil)))))))))) (CvL_cons Cv_int (CvL_cons (Cv_agg (CvL_cons Cv_int (CvL_cons Cv_int (CvL_cons Cv_int (CvL_cons Cv_int (CvL_cons Cv_int (CvL_cons Cv_int (CvL_cons Cv_int (CvL_cons Cv_int (CvL_cons Cv_int (CvL_cons Cv_int (CvL_cons Cv_int (CvL_cons Cv_int (CvL_cons Cv_int (CvL_cons Cv_int (CvL_cons Cv_int (CvL_cons Cv_int (CvL_cons Cv_int (CvL_cons Cv_int (CvL_cons Cv_int (CvL_cons Cv_int (CvL_cons Cv_int (CvL_cons Cv_int (CvL_cons Cv_int (CvL_cons Cv_int (CvL_cons Cv_int (CvL_cons Cv_int (CvL_cons Cv_int (CvL_cons Cv_int (CvL_cons Cv_int (CvL_cons Cv_int (CvL_cons Cv_int (CvL_cons Cv_int (CvL_cons Cv_int (CvL_cons Cv_int (CvL_cons Cv_int (CvL_cons Cv_int (CvL_cons Cv_int (CvL_cons Cv_int (CvL_cons (ro_row (by first | rfl | simp) (fun _ _ _ _ => rfl)) CvL_nil)))))))))))))))))))))))))))))))))))))))) (CvL_cons Cv_int CvL_nil))))
      · simp only [go_sem, Nat.reduceEqDiff, Nat.reduceBEq, Nat.reduceAdd, CvH]
    · cases hb
  · unfold body20 at hb
    split at hb <;> cases hb
/-! bytes.Equal -/
noncomputable def F49 (p0 : List Int) (p1 : List Int) : Option (Bool) :=
  need (u8b p0.length (enR c_u8 p0)) <| need (u8b p1.length (enR c_u8 p1)) <| some (sEq (bytesC p0.length (enR c_u8 p0)) (bytesC p1.length (enR c_u8 p1)))
noncomputable def body49 : List AV -> AR
  | [v0, v1] => .pure (lK k_u8 1 v0 /\ lK k_u8 1 v1 /\ (F49 (lA g_u8 v0) (lA g_u8 v1)).isSome = true) (.bool (gt (F49 (lA g_u8 v0) (lA g_u8 v1))))
  | _ => .fail
set_option maxHeartbeats 4000000 in
set_option maxRecDepth 20000 in
theorem ok49 : FnOk Try.prog 49 (pureC body49) := by
  refine pure_fnM body49 (rs := [.tmp 4]) Try.func49 (by kernel_rfl) rfl rfl ?_
  intro l ob v hb hob
  unfold body49 at hb
  split at hb
  · rename_i v0 v1
    injection hb with q1 q2; subst q1 q2
    obtain ⟨hk0_0, hk1_0, hob⟩ := hob
    obtain ⟨r, H⟩ := Option.isSome_iff_exists.1 hob
    rw [H, gt_some]
    have hw0 := lK_wk (fun r h => w_u8 h) hk0_0
    have hw1 := lK_wk (fun r h => w_u8 h) hk1_0
    generalize lA g_u8 v0 = p0 at H hw0
    generalize lA g_u8 v1 = p1 at H hw1
    refine ⟨[.ro 1 p0.length false (enR c_u8 p0), .ro 1 p1.length false (enR c_u8 p1)], _, (fun E vs F => FR_wk1 hw0.1 F (fun vs F => FR_wk1 hw1.1 F (fun vs F => F))), rfl, rfl, ?_⟩
    rw [Try.ntmps49]
    simp only [List.length_cons, List.length_nil, Nat.reduceAdd, Nat.reduceSub, List.replicate_succ, List.replicate_zero, List.cons_append, List.nil_append]
    unfold F49 at H
    try dsimp only at H
    refine sq ctNo_ok ?_
    simp only [go_sem, Nat.reduceLeDiff, Nat.reduceLT, Nat.reduceAdd, Nat.reduceMul, Nat.reduceSub, Nat.reduceEqDiff, Nat.reduceBEq, Int.reduceToNat, reduceCtorEq]
    refine seqM ?_
    obtain ⟨f1, H⟩ := need_some.1 H
    replace f1 := u8b_iff.1 f1
    obtain ⟨f2, H⟩ := need_some.1 H
    replace f2 := u8b_iff.1 f2
    refine rg ctNo_ok ?_
    simp only [go_sem, Nat.reduceLeDiff, Nat.reduceLT, Nat.reduceAdd, Nat.reduceMul, Nat.reduceSub, Nat.reduceEqDiff, Nat.reduceBEq, Int.reduceToNat, reduceCtorEq, f1, f2]
    repeat ((with_reducible refine And.intro ?_ ?_); focus (first | (with_reducible trivial) | omega | exact f1 | exact ⟨trivial, f1⟩ | exact f2 | exact ⟨trivial, f2⟩ | grind))
    refine rg ctNo_ok ?_
    simp only [go_sem, Nat.reduceLeDiff, Nat.reduceLT, Nat.reduceAdd, Nat.reduceMul, Nat.reduceSub, Nat.reduceEqDiff, Nat.reduceBEq, Int.reduceToNat, reduceCtorEq]
    obtain rfl := Option.some.inj H
    first | rfl | simp only [Bool.and_false, Bool.false_and, Bool.and_true, Bool.true_and]
  · cases hb
/-! hotspot/forward.Same -/
noncomputable def ct25t0 : Ct := tab [(49, pureC body49)]
theorem ct25t0_ok : CtOk Try.prog ct25t0 := tab_cons ok49 <| tab_nil
theorem ct25t0_49 (l : List AV) (h : List ABlk) : ct25t0 49 l h = pureC body49 l h := rfl
noncomputable def F25 (p0 : TMeshFrame) (p1 : TMeshFrame) : Option (Bool) :=
  need (bif ((((((((bEq p0.From.x0 p1.From.x0 && (bEq p0.From.x1 p1.From.x1 && (bEq p0.From.x2 p1.From.x2 && (bEq p0.From.x3 p1.From.x3 && (bEq p0.From.x4 p1.From.x4 && (bEq p0.From.x5 p1.From.x5)))))) && (bEq p0.To.x0 p1.To.x0 && (bEq p0.To.x1 p1.To.x1 && (bEq p0.To.x2 p1.To.x2 && (bEq p0.To.x3 p1.To.x3 && (bEq p0.To.x4 p1.To.x4 && (bEq p0.To.x5 p1.To.x5))))))) && (bEq p0.Enter.x0 p1.Enter.x0 && (bEq p0.Enter.x1 p1.Enter.x1 && (bEq p0.Enter.x2 p1.Enter.x2 && (bEq p0.Enter.x3 p1.Enter.x3 && (bEq p0.Enter.x4 p1.Enter.x4 && (bEq p0.Enter.x5 p1.Enter.x5))))))) && (bEq p0.Leave.x0 p1.Leave.x0 && (bEq p0.Leave.x1 p1.Leave.x1 && (bEq p0.Leave.x2 p1.Leave.x2 && (bEq p0.Leave.x3 p1.Leave.x3 && (bEq p0.Leave.x4 p1.Leave.x4 && (bEq p0.Leave.x5 p1.Leave.x5))))))) && (bEq p0.Source.x0 p1.Source.x0 && (bEq p0.Source.x1 p1.Source.x1 && (bEq p0.Source.x2 p1.Source.x2 && (bEq p0.Source.x3 p1.Source.x3 && (bEq p0.Source.x4 p1.Source.x4 && (bEq p0.Source.x5 p1.Source.x5))))))) && (bEq p0.Target.x0 p1.Target.x0 && (bEq p0.Target.x1 p1.Target.x1 && (bEq p0.Target.x2 p1.Target.x2 && (bEq p0.Target.x3 p1.Target.x3 && (bEq p0.Target.x4 p1.Target.x4 && (bEq p0.Target.x5 p1.Target.x5))))))) && (bEq p0.Seq p1.Seq)) && (bEq p0.Ttl p1.Ttl)) then ((F49 p0.Data p1.Data).isSome) else true) <| some (((((((((bEq p0.From.x0 p1.From.x0 && (bEq p0.From.x1 p1.From.x1 && (bEq p0.From.x2 p1.From.x2 && (bEq p0.From.x3 p1.From.x3 && (bEq p0.From.x4 p1.From.x4 && (bEq p0.From.x5 p1.From.x5)))))) && (bEq p0.To.x0 p1.To.x0 && (bEq p0.To.x1 p1.To.x1 && (bEq p0.To.x2 p1.To.x2 && (bEq p0.To.x3 p1.To.x3 && (bEq p0.To.x4 p1.To.x4 && (bEq p0.To.x5 p1.To.x5))))))) && (bEq p0.Enter.x0 p1.Enter.x0 && (bEq p0.Enter.x1 p1.Enter.x1 && (bEq p0.Enter.x2 p1.Enter.x2 && (bEq p0.Enter.x3 p1.Enter.x3 && (bEq p0.Enter.x4 p1.Enter.x4 && (bEq p0.Enter.x5 p1.Enter.x5))))))) && (bEq p0.Leave.x0 p1.Leave.x0 && (bEq p0.Leave.x1 p1.Leave.x1 && (bEq p0.Leave.x2 p1.Leave.x2 && (bEq p0.Leave.x3 p1.Leave.x3 && (bEq p0.Leave.x4 p1.Leave.x4 && (bEq p0.Leave.x5 p1.Leave.x5))))))) && (bEq p0.Source.x0 p1.Source.x0 && (bEq p0.Source.x1 p1.Source.x1 && (bEq p0.Source.x2 p1.Source.x2 && (bEq p0.Source.x3 p1.Source.x3 && (bEq p0.Source.x4 p1.Source.x4 && (bEq p0.Source.x5 p1.Source.x5))))))) && (bEq p0.Target.x0 p1.Target.x0 && (bEq p0.Target.x1 p1.Target.x1 && (bEq p0.Target.x2 p1.Target.x2 && (bEq p0.Target.x3 p1.Target.x3 && (bEq p0.Target.x4 p1.Target.x4 && (bEq p0.Target.x5 p1.Target.x5))))))) && (bEq p0.Seq p1.Seq)) && (bEq p0.Ttl p1.Ttl)) && (gt (F49 p0.Data p1.Data)))
noncomputable def body25 : List AV -> AR
  | [v0, v1] => .pure (aK 39 k_TMeshFrame v0 /\ aK 39 k_TMeshFrame v1 /\ (F25 (g_TMeshFrame (aL v0)) (g_TMeshFrame (aL v1))).isSome = true) (.bool (gt (F25 (g_TMeshFrame (aL v0)) (g_TMeshFrame (aL v1)))))
  | _ => .fail
set_option maxHeartbeats 4000000 in
set_option maxRecDepth 20000 in
theorem ok25 : FnOk Try.prog 25 (pureC body25) := by
  refine pure_fnM body25 (rs := [.tmp 4]) Try.func25 (by kernel_rfl) rfl rfl ?_
  intro l ob v hb hob
  unfold body25 at hb
  split at hb
  · rename_i v0 v1
    injection hb with q1 q2; subst q1 q2
    obtain ⟨hk0_0, hk1_0, hob⟩ := hob
    obtain ⟨r, H⟩ := Option.isSome_iff_exists.1 hob
    rw [H, gt_some]
    have hw0 := wA_TMeshFrame hk0_0
    have hw1 := wA_TMeshFrame hk1_0
    generalize g_TMeshFrame (aL v0) = p0 at H hw0
    generalize g_TMeshFrame (aL v1) = p1 at H hw1
    refine ⟨[.agg (.int .u8 p0.From.x0 :: .int .u8 p0.From.x1 :: .int .u8 p0.From.x2 :: .int .u8 p0.From.x3 :: .int .u8 p0.From.x4 :: .int .u8 p0.From.x5 :: .int .u8 p0.To.x0 :: .int .u8 p0.To.x1 :: .int .u8 p0.To.x2 :: .int .u8 p0.To.x3 :: .int .u8 p0.To.x4 :: .int .u8 p0.To.x5 :: .int .u8 p0.Enter.x0 :: .int .u8 p0.Enter.x1 :: .int .u8 p0.Enter.x2 :: .int .u8 p0.Enter.x3 :: .int .u8 p0.Enter.x4 :: .int .u8 p0.Enter.x5 :: .int .u8 p0.Leave.x0 :: .int .u8 p0.Leave.x1 :: .int .u8 p0.Leave.x2 :: .int .u8 p0.Leave.x3 :: .int .u8 p0.Leave.x4 :: .int .u8 p0.Leave.x5 :: .int .u8 p0.Source.x0 :: .int .u8 p0.Source.x1 :: .int .u8 p0.Source.x2 :: .int .u8 p0.Source.x3 :: .int .u8 p0.Source.x4 :: .int .u8 p0.Source.x5 :: .int .u8 p0.Target.x0 :: .int .u8 p0.Target.x1 :: .int .u8 p0.Target.x2 :: .int .u8 p0.Target.x3 :: .int .u8 p0.Target.x4 :: .int .u8 p0.Target.x5 :: .int .i64 p0.Seq :: .int .i64 p0.Ttl :: .ro 1 p0.Data.length false (enR c_u8 p0.Data) :: []), .agg (.int .u8 p1.From.x0 :: .int .u8 p1.From.x1 :: .int .u8 p1.From.x2 :: .int .u8 p1.From.x3 :: .int .u8 p1.From.x4 :: .int .u8 p1.From.x5 :: .int .u8 p1.To.x0 :: .int .u8 p1.To.x1 :: .int .u8 p1.To.x2 :: .int .u8 p1.To.x3 :: .int .u8 p1.To.x4 :: .int .u8 p1.To.x5 :: .int .u8 p1.Enter.x0 :: .int .u8 p1.Enter.x1 :: .int .u8 p1.Enter.x2 :: .int .u8 p1.Enter.x3 :: .int .u8 p1.Enter.x4 :: .int .u8 p1.Enter.x5 :: .int .u8 p1.Leave.x0 :: .int .u8 p1.Leave.x1 :: .int .u8 p1.Leave.x2 :: .int .u8 p1.Leave.x3 :: .int .u8 p1.Leave.x4 :: .int .u8 p1.Leave.x5 :: .int .u8 p1.Source.x0 :: .int .u8 p1.Source.x1 :: .int .u8 p1.Source.x2 :: .int .u8 p1.Source.x3 :: .int .u8 p1.Source.x4 :: .int .u8 p1.Source.x5 :: .int .u8 p1.Target.x0 :: .int .u8 p1.Target.x1 :: .int .u8 p1.Target.x2 :: .int .u8 p1.Target.x3 :: .int .u8 p1.Target.x4 :: .int .u8 p1.Target.x5 :: .int .i64 p1.Seq :: .int .i64 p1.Ttl :: .ro 1 p1.Data.length false (enR c_u8 p1.Data) :: [])], _, (fun E vs F => FR_wk1 hw0.1 F (fun vs F => FR_wk1 hw1.1 F (fun vs F => F))), rfl, rfl, ?_⟩
    rw [Try.ntmps25]
    simp only [List.length_cons, List.length_nil, Nat.reduceAdd, Nat.reduceSub, List.replicate_succ, List.replicate_zero, List.cons_append, List.nil_append]
    unfold F25 at H
    try dsimp only at H
    refine sq ctNo_ok ?_
    simp only [go_sem, Nat.reduceLeDiff, Nat.reduceLT, Nat.reduceAdd, Nat.reduceMul, Nat.reduceSub, Nat.reduceEqDiff, Nat.reduceBEq, Int.reduceToNat, reduceCtorEq]
    refine seqM ?_
    obtain ⟨f1, H⟩ := need_some.1 H
    replace f1 := g_iff.1 f1
    refine rg ct25t0_ok ?_
    simp (maxSteps := 3000000) only [go_sem, Nat.reduceLeDiff, Nat.reduceLT, Nat.reduceAdd, Nat.reduceMul, Nat.reduceSub, Nat.reduceEqDiff, Nat.reduceBEq, Int.reduceToNat, reduceCtorEq, ct25t0_49, body49, List.append_eq, List.cons_append, List.nil_append, Array.toList_append, List.append_assoc]
    repeat ((with_reducible refine And.intro ?_ ?_); focus (first | (with_reducible trivial) | omega | exact f1 | (intro g; have q := f1 (by first | exact g | (rw [g]; rfl) | simpa using g); first | exact q | exact ⟨q.1, q.2.1⟩ | exact q.2.2 | omega | exact ⟨g, q⟩ | exact ⟨trivial, q⟩ | exact ⟨g, q.1, q.2.1⟩ | exact ⟨g, q.2.2⟩) | (intro g; (try have q0 := f1 (by first | exact g | (rw [g]; rfl) | simpa using g)); and_intros <;> first | (with_reducible trivial) | assumption | exact nfc | (intro g2; rw [g, g2]; rfl) | (intro g2; assumption) | (simp only [g, Bool.true_and, Bool.and_true, Bool.not_false, Bool.not_true]; assumption) | grind) | (and_intros <;> first | (with_reducible trivial) | omega | assumption | exact nfc | first | exact rfl | exact trivial | exact fitI | exact .inr rfl | exact .inl rfl | exact fun x hx => absurd hx (by omega)) | grind))
    refine rg ctNo_ok ?_
    simp only [go_sem, Nat.reduceLeDiff, Nat.reduceLT, Nat.reduceAdd, Nat.reduceMul, Nat.reduceSub, Nat.reduceEqDiff, Nat.reduceBEq, Int.reduceToNat, reduceCtorEq]
    obtain rfl := Option.some.inj H
    first | rfl | simp only [Bool.and_false, Bool.false_and, Bool.and_true, Bool.true_and]
  · cases hb
/-! hotspot/hotspotlaw41.alive -/
noncomputable def ct26t0 : Ct := tab [(31, pureC body31), (35, edC body35)]
theorem ct26t0_ok : CtOk Try.prog ct26t0 := tab_cons ok31 <| tab_cons ok35 <| tab_nil
theorem ct26t0_31 (l : List AV) (h : List ABlk) : ct26t0 31 l h = pureC body31 l h := rfl
theorem ct26t0_35 (l : List AV) (h : List ABlk) : ct26t0 35 l h = edC body35 l h := rfl
noncomputable def ct26t1 : Ct := tab [(30, edC body30), (31, pureC body31)]
theorem ct26t1_ok : CtOk Try.prog ct26t1 := tab_cons ok30 <| tab_cons ok31 <| tab_nil
theorem ct26t1_30 (l : List AV) (h : List ABlk) : ct26t1 30 l h = edC body30 l h := rfl
theorem ct26t1_31 (l : List AV) (h : List ABlk) : ct26t1 31 l h = pureC body31 l h := rfl
noncomputable def ct26t2 : Ct := tab [(31, pureC body31)]
theorem ct26t2_ok : CtOk Try.prog ct26t2 := tab_cons ok31 <| tab_nil
theorem ct26t2_31 (l : List AV) (h : List ABlk) : ct26t2 31 l h = pureC body31 l h := rfl
noncomputable def ct26t3 : Ct := tab [(20, genC body20)]
theorem ct26t3_ok : CtOk Try.prog ct26t3 := tab_cons ok20 <| tab_nil
theorem ct26t3_20 (l : List AV) (h : List ABlk) : ct26t3 20 l h = genC body20 l h := rfl
noncomputable def ct26t4 : Ct := tab [(25, pureC body25)]
theorem ct26t4_ok : CtOk Try.prog ct26t4 := tab_cons ok25 <| tab_nil
theorem ct26t4_25 (l : List AV) (h : List ABlk) : ct26t4 25 l h = pureC body25 l h := rfl
noncomputable def F26 : Option (Bool) :=
  (F31 5).bind fun r1 => (F35 r1).bind fun r3 => (F31 9).bind fun r5 => (F31 7).bind fun r7 => (F30 (TForward.mk (A6u8.mk r3.1.Own.x0 r3.1.Own.x1 r3.1.Own.x2 r3.1.Own.x3 r3.1.Own.x4 r3.1.Own.x5) r3.1.Seq r3.1.Seen r3.1.Nexts) r5 r7).bind fun r9 => (F31 3).bind fun r11 => (F31 5).bind fun r13 => (F31 1).bind fun r15 => (F31 9).bind fun r17 => (some ([1] : List Int)).bind fun w19 => (F20 r9.1 (TMeshFrame.mk (A6u8.mk r11.x0 r11.x1 r11.x2 r11.x3 r11.x4 r11.x5) (A6u8.mk r13.x0 r13.x1 r13.x2 r13.x3 r13.x4 r13.x5) (A6u8.mk r15.x0 r15.x1 r15.x2 r15.x3 r15.x4 r15.x5) (A6u8.mk r17.x0 r17.x1 r17.x2 r17.x3 r17.x4 r17.x5) (A6u8.mk r15.x0 r15.x1 r15.x2 r15.x3 r15.x4 r15.x5) (A6u8.mk r17.x0 r17.x1 r17.x2 r17.x3 r17.x4 r17.x5) 4 4 w19)).bind fun r21 => (F20 r21.1 (TMeshFrame.mk (A6u8.mk r11.x0 r11.x1 r11.x2 r11.x3 r11.x4 r11.x5) (A6u8.mk r13.x0 r13.x1 r13.x2 r13.x3 r13.x4 r13.x5) (A6u8.mk r15.x0 r15.x1 r15.x2 r15.x3 r15.x4 r15.x5) (A6u8.mk r17.x0 r17.x1 r17.x2 r17.x3 r17.x4 r17.x5) (A6u8.mk r15.x0 r15.x1 r15.x2 r15.x3 r15.x4 r15.x5) (A6u8.mk r17.x0 r17.x1 r17.x2 r17.x3 r17.x4 r17.x5) 4 4 w19)).bind fun r23 => (F31 5).bind fun r25 => (F31 7).bind fun r27 => need (bif ((((bEq r3.2 0) && (bEq r9.2 0)) && (bEq r21.2.2.2 0)) && (bEq r21.2.1 2)) then ((F25 r21.2.2.1 (TMeshFrame.mk (A6u8.mk r25.x0 r25.x1 r25.x2 r25.x3 r25.x4 r25.x5) (A6u8.mk r27.x0 r27.x1 r27.x2 r27.x3 r27.x4 r27.x5) (A6u8.mk r15.x0 r15.x1 r15.x2 r15.x3 r15.x4 r15.x5) (A6u8.mk r17.x0 r17.x1 r17.x2 r17.x3 r17.x4 r17.x5) (A6u8.mk r15.x0 r15.x1 r15.x2 r15.x3 r15.x4 r15.x5) (A6u8.mk r17.x0 r17.x1 r17.x2 r17.x3 r17.x4 r17.x5) 4 3 w19)).isSome) else true) <| some (((((((bEq r3.2 0) && (bEq r9.2 0)) && (bEq r21.2.2.2 0)) && (bEq r21.2.1 2)) && (gt (F25 r21.2.2.1 (TMeshFrame.mk (A6u8.mk r25.x0 r25.x1 r25.x2 r25.x3 r25.x4 r25.x5) (A6u8.mk r27.x0 r27.x1 r27.x2 r27.x3 r27.x4 r27.x5) (A6u8.mk r15.x0 r15.x1 r15.x2 r15.x3 r15.x4 r15.x5) (A6u8.mk r17.x0 r17.x1 r17.x2 r17.x3 r17.x4 r17.x5) (A6u8.mk r15.x0 r15.x1 r15.x2 r15.x3 r15.x4 r15.x5) (A6u8.mk r17.x0 r17.x1 r17.x2 r17.x3 r17.x4 r17.x5) 4 3 w19)))) && (bEq r23.2.2.2 0)) && (bEq r23.2.1 0))
noncomputable def body26 : List AV -> AR
  | [] => .pure ((F26).isSome = true) (.bool (gt F26))
  | _ => .fail
set_option maxHeartbeats 4000000 in
set_option maxRecDepth 20000 in
theorem ok26 : FnOk Try.prog 26 (pureC body26) := by
  refine pure_fnM body26 (rs := [.tmp 0]) Try.func26 (by kernel_rfl) rfl rfl ?_
  intro l ob v hb hob
  unfold body26 at hb
  split at hb
  · injection hb with q1 q2; subst q1 q2
    obtain ⟨r, H⟩ := Option.isSome_iff_exists.1 hob
    rw [H, gt_some]
    refine ⟨[], _, (fun E vs F => F), rfl, rfl, ?_⟩
    rw [Try.ntmps26]
    simp only [List.length_cons, List.length_nil, Nat.reduceAdd, Nat.reduceSub, List.replicate_succ, List.replicate_zero, List.cons_append, List.nil_append]
    unfold F26 at H
    try dsimp only at H
    refine sq ctNo_ok ?_
    simp only [go_sem, Nat.reduceLeDiff, Nat.reduceLT, Nat.reduceAdd, Nat.reduceMul, Nat.reduceSub, Nat.reduceEqDiff, Nat.reduceBEq, Int.reduceToNat, reduceCtorEq]
    refine seqM ?_
    obtain ⟨r1, e2, H⟩ := bsi H
    obtain ⟨r3, e4, H⟩ := bsi H
    refine rg ct26t0_ok ?_
    simp only [go_sem, Nat.reduceLeDiff, Nat.reduceLT, Nat.reduceAdd, Nat.reduceMul, Nat.reduceSub, Nat.reduceEqDiff, Nat.reduceBEq, Int.reduceToNat, reduceCtorEq, ct26t0_31, body31, ct26t0_35, body35, e2, e4]
    repeat ((with_reducible refine And.intro ?_ ?_); focus exact an0)
    refine seqM ?_
    obtain ⟨r5, e6, H⟩ := bsi H
    obtain ⟨r7, e8, H⟩ := bsi H
    obtain ⟨r9, e10, H⟩ := bsi H
    refine draw_ruleX [(23, [], [0, 1])] shT_ok ct26t1_ok 2 (by kernel_rfl) (by kernel_rfl) ?_
    intro an han
    simp only [d_nil, d_cons, nxtD, xrD, xoD, roEq, minL, List.append_nil, refsOp, refs, refsL, mask, maskF, place, placeF, okLog, pairOk, hit, inL, slotsF, ren, renL, rnN, nrH, nrB, nrL, nr, dead0, deadS, List.replicate_zero, List.replicate_succ, Nat.sub_self, Nat.add_zero, Nat.zero_add, Nat.reduceSub, Nat.not_lt_zero, Nat.zero_le, Nat.lt_add_one, go_sem, Nat.reduceLeDiff, Nat.reduceLT, Nat.reduceAdd, Nat.reduceMul, Nat.reduceSub, Nat.reduceEqDiff, Nat.reduceBEq, Int.reduceToNat, reduceCtorEq, ct26t1_30, body30, ct26t1_31, body31, e6, e8, e10]
    repeat ((with_reducible refine And.intro ?_ ?_); focus exact an1)
    refine seqM ?_
    obtain ⟨r11, e12, H⟩ := bsi H
    obtain ⟨r13, e14, H⟩ := bsi H
    obtain ⟨r15, e16, H⟩ := bsi H
    obtain ⟨r17, e18, H⟩ := bsi H
    refine rg ct26t2_ok ?_
    simp only [go_sem, Nat.reduceLeDiff, Nat.reduceLT, Nat.reduceAdd, Nat.reduceMul, Nat.reduceSub, Nat.reduceEqDiff, Nat.reduceBEq, Int.reduceToNat, reduceCtorEq, ct26t2_31, body31, e12, e14, e16, e18]
    repeat ((with_reducible refine And.intro ?_ ?_); focus exact an2)
    refine seqM ?_
    obtain ⟨w19, hw20, H⟩ := bsi H
    replace hw20 := Option.some.inj hw20
    have lhw20 : w19.length = 1 := by rw [← hw20]; exact cl
    refine subF_mean (t2 := (.top :: .ptr 2 0 0 0 :: .int .i64 r3.2 :: .int .i64 r9.2 :: .ptr 6 0 0 0 :: tp 78 [])) (h2 := [.row 59 7 r3.1.Seen.length (enR c_TForwardMark r3.1.Seen), .row 90 12 r3.1.Nexts.length (enR c_TForwardHop r3.1.Nexts), .lit 31 [.int .u8 r9.1.Own.x0, .int .u8 r9.1.Own.x1, .int .u8 r9.1.Own.x2, .int .u8 r9.1.Own.x3, .int .u8 r9.1.Own.x4, .int .u8 r9.1.Own.x5, .int .i64 r9.1.Seq, .sl 3 7 0 r9.1.Seen.length false, .sl 4 12 0 r9.1.Nexts.length false], .row 59 7 r9.1.Seen.length (enR c_TForwardMark r9.1.Seen), .row 90 12 r9.1.Nexts.length (enR c_TForwardHop r9.1.Nexts), .row 5 1 w19.length (enR c_u8 w19), .lit 26 (.int .u8 r11.x0 :: .int .u8 r11.x1 :: .int .u8 r11.x2 :: .int .u8 r11.x3 :: .int .u8 r11.x4 :: .int .u8 r11.x5 :: .int .u8 r13.x0 :: .int .u8 r13.x1 :: .int .u8 r13.x2 :: .int .u8 r13.x3 :: .int .u8 r13.x4 :: .int .u8 r13.x5 :: .int .u8 r15.x0 :: .int .u8 r15.x1 :: .int .u8 r15.x2 :: .int .u8 r15.x3 :: .int .u8 r15.x4 :: .int .u8 r15.x5 :: .int .u8 r17.x0 :: .int .u8 r17.x1 :: .int .u8 r17.x2 :: .int .u8 r17.x3 :: .int .u8 r17.x4 :: .int .u8 r17.x5 :: .int .u8 r15.x0 :: .int .u8 r15.x1 :: .int .u8 r15.x2 :: .int .u8 r15.x3 :: .int .u8 r15.x4 :: .int .u8 r15.x5 :: .int .u8 r17.x0 :: .int .u8 r17.x1 :: .int .u8 r17.x2 :: .int .u8 r17.x3 :: .int .u8 r17.x4 :: .int .u8 r17.x5 :: .int .i64 4 :: .int .i64 4 :: .sl 5 1 0 w19.length false :: [])]) ?_ ?_
    · refine SubF_of ⟨[some 0, some 1, some 2, some 3, some 4, some 5, some 6], ?_, ?_, by rfl, by rfl⟩
      · simp [CvL, Cv, getM, tp, lhw20]
      · exact ⟨CvB_row nr_TForwardMark rfl (fun _ _ _ _ => rfl), CvB_row nr_TForwardHop rfl (fun _ _ _ _ => rfl), (by simp [CvB, CvL, Cv, blkAt, geth, getM, lhw20]), CvB_row nr_TForwardMark rfl (fun _ _ _ _ => rfl), CvB_row nr_TForwardHop rfl (fun _ _ _ _ => rfl), CvB_row nr_u8 lhw20 (hw20 ▸ (lit_row (f := c_u8) [1] (fun _ _ => rfl) rfl)), (by simp [CvB, CvL, Cv, blkAt, geth, getM, lhw20]), trivial⟩
    simp only [tp]
    refine fz_mean [3, 4, 5] ?_ ?_
    · simp only [go_sem, Nat.reduceEqDiff, Nat.reduceBEq, Nat.reduceAdd]
      try exact at0
    simp only [go_sem, Nat.reduceEqDiff, Nat.reduceBEq, Nat.reduceAdd]
    obtain ⟨r21, e22, H⟩ := bsi H
    refine rg ct26t3_ok ?_
    simp only [go_sem, Nat.reduceLeDiff, Nat.reduceLT, Nat.reduceAdd, Nat.reduceMul, Nat.reduceSub, Nat.reduceEqDiff, Nat.reduceBEq, Int.reduceToNat, reduceCtorEq, ct26t3_20, body20, e22]
    repeat ((with_reducible refine And.intro ?_ ?_); focus exact an0)
    refine seqM ?_
    obtain ⟨r23, e24, H⟩ := bsi H
    refine rg ct26t3_ok ?_
    simp only [go_sem, Nat.reduceLeDiff, Nat.reduceLT, Nat.reduceAdd, Nat.reduceMul, Nat.reduceSub, Nat.reduceEqDiff, Nat.reduceBEq, Int.reduceToNat, reduceCtorEq, ct26t3_20, body20, e24]
    repeat ((with_reducible refine And.intro ?_ ?_); focus exact an0)
    refine sq ctNo_ok ?_
    simp only [go_sem, Nat.reduceLeDiff, Nat.reduceLT, Nat.reduceAdd, Nat.reduceMul, Nat.reduceSub, Nat.reduceEqDiff, Nat.reduceBEq, Int.reduceToNat, reduceCtorEq]
    repeat ((with_reducible refine And.intro ?_ ?_); focus exact an4)
    refine seqM ?_
    obtain ⟨r25, e26, H⟩ := bsi H
    obtain ⟨r27, e28, H⟩ := bsi H
    refine rg ct26t2_ok ?_
    simp only [go_sem, Nat.reduceLeDiff, Nat.reduceLT, Nat.reduceAdd, Nat.reduceMul, Nat.reduceSub, Nat.reduceEqDiff, Nat.reduceBEq, Int.reduceToNat, reduceCtorEq, ct26t2_31, body31, e26, e28]
    repeat ((with_reducible refine And.intro ?_ ?_); focus exact an0)
    refine seqM ?_
    obtain ⟨f29, H⟩ := need_some.1 H
    replace f29 := g_iff.1 f29
    refine rg ct26t4_ok ?_
    simp only [go_sem, Nat.reduceLeDiff, Nat.reduceLT, Nat.reduceAdd, Nat.reduceMul, Nat.reduceSub, Nat.reduceEqDiff, Nat.reduceBEq, Int.reduceToNat, reduceCtorEq, ct26t4_25, body25]
    repeat ((with_reducible refine And.intro ?_ ?_); focus (first | (with_reducible trivial) | omega | exact f29 | (intro g; have q := f29 (by first | exact g | (rw [g]; rfl) | simpa using g); first | exact q | exact ⟨q.1, q.2.1⟩ | exact q.2.2 | omega | exact ⟨g, q⟩ | exact ⟨trivial, q⟩ | exact ⟨g, q.1, q.2.1⟩ | exact ⟨g, q.2.2⟩) | (intro g; (try have q0 := f29 (by first | exact g | (rw [g]; rfl) | simpa using g)); and_intros <;> first | (with_reducible trivial) | assumption | exact nfc | (intro g2; rw [g, g2]; rfl) | (intro g2; assumption) | (simp only [g, Bool.true_and, Bool.and_true, Bool.not_false, Bool.not_true]; assumption) | grind) | (and_intros <;> first | (with_reducible trivial) | omega | assumption | exact nfc | first | exact rfl | exact trivial | exact fitI | exact .inr rfl | exact .inl rfl | exact fun x hx => absurd hx (by omega)) | grind))
    refine rg ctNo_ok ?_
    simp only [go_sem, Nat.reduceLeDiff, Nat.reduceLT, Nat.reduceAdd, Nat.reduceMul, Nat.reduceSub, Nat.reduceEqDiff, Nat.reduceBEq, Int.reduceToNat, reduceCtorEq]
    obtain rfl := Option.some.inj H
    first | rfl | simp only [Bool.and_false, Bool.false_and, Bool.and_true, Bool.true_and]
  · cases hb
/-! hotspot/hotspotlaw41.mesh -/
noncomputable def ct29t0 : Ct := tab [(31, pureC body31), (35, edC body35)]
theorem ct29t0_ok : CtOk Try.prog ct29t0 := tab_cons ok31 <| tab_cons ok35 <| tab_nil
theorem ct29t0_31 (l : List AV) (h : List ABlk) : ct29t0 31 l h = pureC body31 l h := rfl
theorem ct29t0_35 (l : List AV) (h : List ABlk) : ct29t0 35 l h = edC body35 l h := rfl
noncomputable def F29_L1 (v1_1 : List TForward) (v1_2 : Int) : Option (Lp ((List TForward) × Int) ((List TForward) ⊕ (A8TForward))) :=
  bif (bLt v1_2 8) then ((F31 v1_2).bind fun r3 => (F35 r3).bind fun r5 => need (inb v1_2 8) <| need (inb v1_2 v1_1.length) <| some (.next ((v1_1.set v1_2.toNat r5.1), wr .i64 (v1_2 + 1)))) else (some (.done (.inl v1_1)))
noncomputable def F29 : Option (A8TForward) :=
  (some ([(TForward.mk (A6u8.mk 0 0 0 0 0 0) 0 [] []), (TForward.mk (A6u8.mk 0 0 0 0 0 0) 0 [] []), (TForward.mk (A6u8.mk 0 0 0 0 0 0) 0 [] []), (TForward.mk (A6u8.mk 0 0 0 0 0 0) 0 [] []), (TForward.mk (A6u8.mk 0 0 0 0 0 0) 0 [] []), (TForward.mk (A6u8.mk 0 0 0 0 0 0) 0 [] []), (TForward.mk (A6u8.mk 0 0 0 0 0 0) 0 [] []), (TForward.mk (A6u8.mk 0 0 0 0 0 0) 0 [] [])])).bind fun w1 => lp (loopD (fun s => F29_L1 s.1 s.2) (w1, 0)) (fun w1_3 => need (decide (w1_3.length = 8)) <| some (A8TForward.mk (TForward.mk (A6u8.mk (((gd w1_3 0).Own).x0) (((gd w1_3 0).Own).x1) (((gd w1_3 0).Own).x2) (((gd w1_3 0).Own).x3) (((gd w1_3 0).Own).x4) (((gd w1_3 0).Own).x5)) ((gd w1_3 0).Seq) ((gd w1_3 0).Seen) ((gd w1_3 0).Nexts)) (TForward.mk (A6u8.mk (((gd w1_3 1).Own).x0) (((gd w1_3 1).Own).x1) (((gd w1_3 1).Own).x2) (((gd w1_3 1).Own).x3) (((gd w1_3 1).Own).x4) (((gd w1_3 1).Own).x5)) ((gd w1_3 1).Seq) ((gd w1_3 1).Seen) ((gd w1_3 1).Nexts)) (TForward.mk (A6u8.mk (((gd w1_3 2).Own).x0) (((gd w1_3 2).Own).x1) (((gd w1_3 2).Own).x2) (((gd w1_3 2).Own).x3) (((gd w1_3 2).Own).x4) (((gd w1_3 2).Own).x5)) ((gd w1_3 2).Seq) ((gd w1_3 2).Seen) ((gd w1_3 2).Nexts)) (TForward.mk (A6u8.mk (((gd w1_3 3).Own).x0) (((gd w1_3 3).Own).x1) (((gd w1_3 3).Own).x2) (((gd w1_3 3).Own).x3) (((gd w1_3 3).Own).x4) (((gd w1_3 3).Own).x5)) ((gd w1_3 3).Seq) ((gd w1_3 3).Seen) ((gd w1_3 3).Nexts)) (TForward.mk (A6u8.mk (((gd w1_3 4).Own).x0) (((gd w1_3 4).Own).x1) (((gd w1_3 4).Own).x2) (((gd w1_3 4).Own).x3) (((gd w1_3 4).Own).x4) (((gd w1_3 4).Own).x5)) ((gd w1_3 4).Seq) ((gd w1_3 4).Seen) ((gd w1_3 4).Nexts)) (TForward.mk (A6u8.mk (((gd w1_3 5).Own).x0) (((gd w1_3 5).Own).x1) (((gd w1_3 5).Own).x2) (((gd w1_3 5).Own).x3) (((gd w1_3 5).Own).x4) (((gd w1_3 5).Own).x5)) ((gd w1_3 5).Seq) ((gd w1_3 5).Seen) ((gd w1_3 5).Nexts)) (TForward.mk (A6u8.mk (((gd w1_3 6).Own).x0) (((gd w1_3 6).Own).x1) (((gd w1_3 6).Own).x2) (((gd w1_3 6).Own).x3) (((gd w1_3 6).Own).x4) (((gd w1_3 6).Own).x5)) ((gd w1_3 6).Seq) ((gd w1_3 6).Seen) ((gd w1_3 6).Nexts)) (TForward.mk (A6u8.mk (((gd w1_3 7).Own).x0) (((gd w1_3 7).Own).x1) (((gd w1_3 7).Own).x2) (((gd w1_3 7).Own).x3) (((gd w1_3 7).Own).x4) (((gd w1_3 7).Own).x5)) ((gd w1_3 7).Seq) ((gd w1_3 7).Seen) ((gd w1_3 7).Nexts)))) some
noncomputable def body29 : List AV -> Nat -> AR
  | [], _ => .pure ((F29).isSome = true) (.agg (.int .u8 ((((gt F29).x0).Own).x0) :: .int .u8 ((((gt F29).x0).Own).x1) :: .int .u8 ((((gt F29).x0).Own).x2) :: .int .u8 ((((gt F29).x0).Own).x3) :: .int .u8 ((((gt F29).x0).Own).x4) :: .int .u8 ((((gt F29).x0).Own).x5) :: .int .i64 (((gt F29).x0).Seq) :: .ro 7 ((((gt F29).x0).Seen).length) false (enR c_TForwardMark (((gt F29).x0).Seen)) :: .ro 12 ((((gt F29).x0).Nexts).length) false (enR c_TForwardHop (((gt F29).x0).Nexts)) :: .int .u8 ((((gt F29).x1).Own).x0) :: .int .u8 ((((gt F29).x1).Own).x1) :: .int .u8 ((((gt F29).x1).Own).x2) :: .int .u8 ((((gt F29).x1).Own).x3) :: .int .u8 ((((gt F29).x1).Own).x4) :: .int .u8 ((((gt F29).x1).Own).x5) :: .int .i64 (((gt F29).x1).Seq) :: .ro 7 ((((gt F29).x1).Seen).length) false (enR c_TForwardMark (((gt F29).x1).Seen)) :: .ro 12 ((((gt F29).x1).Nexts).length) false (enR c_TForwardHop (((gt F29).x1).Nexts)) :: .int .u8 ((((gt F29).x2).Own).x0) :: .int .u8 ((((gt F29).x2).Own).x1) :: .int .u8 ((((gt F29).x2).Own).x2) :: .int .u8 ((((gt F29).x2).Own).x3) :: .int .u8 ((((gt F29).x2).Own).x4) :: .int .u8 ((((gt F29).x2).Own).x5) :: .int .i64 (((gt F29).x2).Seq) :: .ro 7 ((((gt F29).x2).Seen).length) false (enR c_TForwardMark (((gt F29).x2).Seen)) :: .ro 12 ((((gt F29).x2).Nexts).length) false (enR c_TForwardHop (((gt F29).x2).Nexts)) :: .int .u8 ((((gt F29).x3).Own).x0) :: .int .u8 ((((gt F29).x3).Own).x1) :: .int .u8 ((((gt F29).x3).Own).x2) :: .int .u8 ((((gt F29).x3).Own).x3) :: .int .u8 ((((gt F29).x3).Own).x4) :: .int .u8 ((((gt F29).x3).Own).x5) :: .int .i64 (((gt F29).x3).Seq) :: .ro 7 ((((gt F29).x3).Seen).length) false (enR c_TForwardMark (((gt F29).x3).Seen)) :: .ro 12 ((((gt F29).x3).Nexts).length) false (enR c_TForwardHop (((gt F29).x3).Nexts)) :: .int .u8 ((((gt F29).x4).Own).x0) :: .int .u8 ((((gt F29).x4).Own).x1) :: .int .u8 ((((gt F29).x4).Own).x2) :: .int .u8 ((((gt F29).x4).Own).x3) :: .int .u8 ((((gt F29).x4).Own).x4) :: .int .u8 ((((gt F29).x4).Own).x5) :: .int .i64 (((gt F29).x4).Seq) :: .ro 7 ((((gt F29).x4).Seen).length) false (enR c_TForwardMark (((gt F29).x4).Seen)) :: .ro 12 ((((gt F29).x4).Nexts).length) false (enR c_TForwardHop (((gt F29).x4).Nexts)) :: .int .u8 ((((gt F29).x5).Own).x0) :: .int .u8 ((((gt F29).x5).Own).x1) :: .int .u8 ((((gt F29).x5).Own).x2) :: .int .u8 ((((gt F29).x5).Own).x3) :: .int .u8 ((((gt F29).x5).Own).x4) :: .int .u8 ((((gt F29).x5).Own).x5) :: .int .i64 (((gt F29).x5).Seq) :: .ro 7 ((((gt F29).x5).Seen).length) false (enR c_TForwardMark (((gt F29).x5).Seen)) :: .ro 12 ((((gt F29).x5).Nexts).length) false (enR c_TForwardHop (((gt F29).x5).Nexts)) :: .int .u8 ((((gt F29).x6).Own).x0) :: .int .u8 ((((gt F29).x6).Own).x1) :: .int .u8 ((((gt F29).x6).Own).x2) :: .int .u8 ((((gt F29).x6).Own).x3) :: .int .u8 ((((gt F29).x6).Own).x4) :: .int .u8 ((((gt F29).x6).Own).x5) :: .int .i64 (((gt F29).x6).Seq) :: .ro 7 ((((gt F29).x6).Seen).length) false (enR c_TForwardMark (((gt F29).x6).Seen)) :: .ro 12 ((((gt F29).x6).Nexts).length) false (enR c_TForwardHop (((gt F29).x6).Nexts)) :: .int .u8 ((((gt F29).x7).Own).x0) :: .int .u8 ((((gt F29).x7).Own).x1) :: .int .u8 ((((gt F29).x7).Own).x2) :: .int .u8 ((((gt F29).x7).Own).x3) :: .int .u8 ((((gt F29).x7).Own).x4) :: .int .u8 ((((gt F29).x7).Own).x5) :: .int .i64 (((gt F29).x7).Seq) :: .ro 7 ((((gt F29).x7).Seen).length) false (enR c_TForwardMark (((gt F29).x7).Seen)) :: .ro 12 ((((gt F29).x7).Nexts).length) false (enR c_TForwardHop (((gt F29).x7).Nexts)) :: []))
  | _, _ => .fail
set_option maxHeartbeats 4000000 in
set_option maxRecDepth 20000 in
theorem ok29 : FnOk Try.prog 29 (genC body29) := by
  refine gen_fn body29 (rs := [.cell 0 62]) Try.func29 (by kernel_rfl) rfl rfl ?_
  intro l s ob v ns hb hob
  rcases hb with ⟨hb, rfl⟩ | hb
  · unfold body29 at hb
    split at hb
    · injection hb with q1 q2; subst q1 q2
      obtain ⟨r, H⟩ := Option.isSome_iff_exists.1 hob
      rw [H, gt_some]
      refine ⟨[], .agg (.int .u8 r.x0.Own.x0 :: .int .u8 r.x0.Own.x1 :: .int .u8 r.x0.Own.x2 :: .int .u8 r.x0.Own.x3 :: .int .u8 r.x0.Own.x4 :: .int .u8 r.x0.Own.x5 :: .int .i64 r.x0.Seq :: .ro 7 r.x0.Seen.length false (enR c_TForwardMark r.x0.Seen) :: .ro 12 r.x0.Nexts.length false (enR c_TForwardHop r.x0.Nexts) :: .int .u8 r.x1.Own.x0 :: .int .u8 r.x1.Own.x1 :: .int .u8 r.x1.Own.x2 :: .int .u8 r.x1.Own.x3 :: .int .u8 r.x1.Own.x4 :: .int .u8 r.x1.Own.x5 :: .int .i64 r.x1.Seq :: .ro 7 r.x1.Seen.length false (enR c_TForwardMark r.x1.Seen) :: .ro 12 r.x1.Nexts.length false (enR c_TForwardHop r.x1.Nexts) :: .int .u8 r.x2.Own.x0 :: .int .u8 r.x2.Own.x1 :: .int .u8 r.x2.Own.x2 :: .int .u8 r.x2.Own.x3 :: .int .u8 r.x2.Own.x4 :: .int .u8 r.x2.Own.x5 :: .int .i64 r.x2.Seq :: .ro 7 r.x2.Seen.length false (enR c_TForwardMark r.x2.Seen) :: .ro 12 r.x2.Nexts.length false (enR c_TForwardHop r.x2.Nexts) :: .int .u8 r.x3.Own.x0 :: .int .u8 r.x3.Own.x1 :: .int .u8 r.x3.Own.x2 :: .int .u8 r.x3.Own.x3 :: .int .u8 r.x3.Own.x4 :: .int .u8 r.x3.Own.x5 :: .int .i64 r.x3.Seq :: .ro 7 r.x3.Seen.length false (enR c_TForwardMark r.x3.Seen) :: .ro 12 r.x3.Nexts.length false (enR c_TForwardHop r.x3.Nexts) :: .int .u8 r.x4.Own.x0 :: .int .u8 r.x4.Own.x1 :: .int .u8 r.x4.Own.x2 :: .int .u8 r.x4.Own.x3 :: .int .u8 r.x4.Own.x4 :: .int .u8 r.x4.Own.x5 :: .int .i64 r.x4.Seq :: .ro 7 r.x4.Seen.length false (enR c_TForwardMark r.x4.Seen) :: .ro 12 r.x4.Nexts.length false (enR c_TForwardHop r.x4.Nexts) :: .int .u8 r.x5.Own.x0 :: .int .u8 r.x5.Own.x1 :: .int .u8 r.x5.Own.x2 :: .int .u8 r.x5.Own.x3 :: .int .u8 r.x5.Own.x4 :: .int .u8 r.x5.Own.x5 :: .int .i64 r.x5.Seq :: .ro 7 r.x5.Seen.length false (enR c_TForwardMark r.x5.Seen) :: .ro 12 r.x5.Nexts.length false (enR c_TForwardHop r.x5.Nexts) :: .int .u8 r.x6.Own.x0 :: .int .u8 r.x6.Own.x1 :: .int .u8 r.x6.Own.x2 :: .int .u8 r.x6.Own.x3 :: .int .u8 r.x6.Own.x4 :: .int .u8 r.x6.Own.x5 :: .int .i64 r.x6.Seq :: .ro 7 r.x6.Seen.length false (enR c_TForwardMark r.x6.Seen) :: .ro 12 r.x6.Nexts.length false (enR c_TForwardHop r.x6.Nexts) :: .int .u8 r.x7.Own.x0 :: .int .u8 r.x7.Own.x1 :: .int .u8 r.x7.Own.x2 :: .int .u8 r.x7.Own.x3 :: .int .u8 r.x7.Own.x4 :: .int .u8 r.x7.Own.x5 :: .int .i64 r.x7.Seq :: .ro 7 r.x7.Seen.length false (enR c_TForwardMark r.x7.Seen) :: .ro 12 r.x7.Nexts.length false (enR c_TForwardHop r.x7.Nexts) :: []), [], (fun E vs F => F), by simp only [ren, renL], trivial, ?_⟩
      rw [Try.ntmps29]
      simp only [List.length_cons, List.length_nil, Nat.reduceAdd, Nat.reduceSub, List.replicate_succ, List.replicate_zero, List.cons_append, List.nil_append]
      unfold F29 at H
      try dsimp only at H
      refine sq ctNo_ok ?_
      simp only [go_sem, Nat.reduceLeDiff, Nat.reduceLT, Nat.reduceAdd, Nat.reduceMul, Nat.reduceSub, Nat.reduceEqDiff, Nat.reduceBEq, Int.reduceToNat, reduceCtorEq]
      refine seqM ?_
      refine regO ?_
      refine cutO shT_ok ctNo_ok 0 ?_
      simp only [kO_normal, List.take_succ_cons, List.take_zero, List.drop_succ_cons, List.drop_zero, go_sem, Nat.reduceLeDiff, Nat.reduceLT, Nat.reduceAdd, Nat.reduceMul, Nat.reduceSub, Nat.reduceEqDiff, Nat.reduceBEq, Int.reduceToNat, reduceCtorEq]
      refine allocO shT_ok ctNo_ok (len := 8) (z := 9) (l := (.int .u8 0 :: .int .u8 0 :: .int .u8 0 :: .int .u8 0 :: .int .u8 0 :: .int .u8 0 :: .int .i64 0 :: .ro 0 0 true (fun _ _ => .top) :: .ro 0 0 true (fun _ _ => .top) :: .int .u8 0 :: .int .u8 0 :: .int .u8 0 :: .int .u8 0 :: .int .u8 0 :: .int .u8 0 :: .int .i64 0 :: .ro 0 0 true (fun _ _ => .top) :: .ro 0 0 true (fun _ _ => .top) :: .int .u8 0 :: .int .u8 0 :: .int .u8 0 :: .int .u8 0 :: .int .u8 0 :: .int .u8 0 :: .int .i64 0 :: .ro 0 0 true (fun _ _ => .top) :: .ro 0 0 true (fun _ _ => .top) :: .int .u8 0 :: .int .u8 0 :: .int .u8 0 :: .int .u8 0 :: .int .u8 0 :: .int .u8 0 :: .int .i64 0 :: .ro 0 0 true (fun _ _ => .top) :: .ro 0 0 true (fun _ _ => .top) :: .int .u8 0 :: .int .u8 0 :: .int .u8 0 :: .int .u8 0 :: .int .u8 0 :: .int .u8 0 :: .int .i64 0 :: .ro 0 0 true (fun _ _ => .top) :: .ro 0 0 true (fun _ _ => .top) :: .int .u8 0 :: .int .u8 0 :: .int .u8 0 :: .int .u8 0 :: .int .u8 0 :: .int .u8 0 :: .int .i64 0 :: .ro 0 0 true (fun _ _ => .top) :: .ro 0 0 true (fun _ _ => .top) :: .int .u8 0 :: .int .u8 0 :: .int .u8 0 :: .int .u8 0 :: .int .u8 0 :: .int .u8 0 :: .int .i64 0 :: .ro 0 0 true (fun _ _ => .top) :: .ro 0 0 true (fun _ _ => .top) :: .int .u8 0 :: .int .u8 0 :: .int .u8 0 :: .int .u8 0 :: .int .u8 0 :: .int .u8 0 :: .int .i64 0 :: .ro 0 0 true (fun _ _ => .top) :: .ro 0 0 true (fun _ _ => .top) :: [])) (c := litC 9 (.int .u8 0 :: .int .u8 0 :: .int .u8 0 :: .int .u8 0 :: .int .u8 0 :: .int .u8 0 :: .int .i64 0 :: .ro 0 0 true (fun _ _ => .top) :: .ro 0 0 true (fun _ _ => .top) :: .int .u8 0 :: .int .u8 0 :: .int .u8 0 :: .int .u8 0 :: .int .u8 0 :: .int .u8 0 :: .int .i64 0 :: .ro 0 0 true (fun _ _ => .top) :: .ro 0 0 true (fun _ _ => .top) :: .int .u8 0 :: .int .u8 0 :: .int .u8 0 :: .int .u8 0 :: .int .u8 0 :: .int .u8 0 :: .int .i64 0 :: .ro 0 0 true (fun _ _ => .top) :: .ro 0 0 true (fun _ _ => .top) :: .int .u8 0 :: .int .u8 0 :: .int .u8 0 :: .int .u8 0 :: .int .u8 0 :: .int .u8 0 :: .int .i64 0 :: .ro 0 0 true (fun _ _ => .top) :: .ro 0 0 true (fun _ _ => .top) :: .int .u8 0 :: .int .u8 0 :: .int .u8 0 :: .int .u8 0 :: .int .u8 0 :: .int .u8 0 :: .int .i64 0 :: .ro 0 0 true (fun _ _ => .top) :: .ro 0 0 true (fun _ _ => .top) :: .int .u8 0 :: .int .u8 0 :: .int .u8 0 :: .int .u8 0 :: .int .u8 0 :: .int .u8 0 :: .int .i64 0 :: .ro 0 0 true (fun _ _ => .top) :: .ro 0 0 true (fun _ _ => .top) :: .int .u8 0 :: .int .u8 0 :: .int .u8 0 :: .int .u8 0 :: .int .u8 0 :: .int .u8 0 :: .int .i64 0 :: .ro 0 0 true (fun _ _ => .top) :: .ro 0 0 true (fun _ _ => .top) :: .int .u8 0 :: .int .u8 0 :: .int .u8 0 :: .int .u8 0 :: .int .u8 0 :: .int .u8 0 :: .int .i64 0 :: .ro 0 0 true (fun _ _ => .top) :: .ro 0 0 true (fun _ _ => .top) :: [])) rfl rfl rfl (by kernel_rfl) rfl (fun _ _ _ _ => rfl) ?_
      simp only [go_sem, Nat.reduceLeDiff, Nat.reduceLT, Nat.reduceAdd, Nat.reduceMul, Nat.reduceSub, Nat.reduceEqDiff, Nat.reduceBEq, Int.reduceToNat, reduceCtorEq]
      refine cutO shT_ok ctNo_ok 0 ?_
      simp only [kO_normal, List.take_succ_cons, List.take_zero, List.drop_succ_cons, List.drop_zero, go_sem, Nat.reduceLeDiff, Nat.reduceLT, Nat.reduceAdd, Nat.reduceMul, Nat.reduceSub, Nat.reduceEqDiff, Nat.reduceBEq, Int.reduceToNat, reduceCtorEq]
      refine endO ?_
      refine seqM ?_
      refine seqM ?_
      obtain ⟨w1, hw2, H⟩ := bsi H
      replace hw2 := Option.some.inj hw2
      have lhw2 : w1.length = 8 := by rw [← hw2]; exact (by first | rfl | simp)
      refine subF_mean (t2 := (.ptr 0 0 0 0 :: .ptr 1 9 0 0 :: tp 14 [])) (h2 := [.lit 62 (.int .u8 0 :: .int .u8 0 :: .int .u8 0 :: .int .u8 0 :: .int .u8 0 :: .int .u8 0 :: .int .i64 0 :: .ro 0 0 true (fun _ _ => .top) :: .ro 0 0 true (fun _ _ => .top) :: .int .u8 0 :: .int .u8 0 :: .int .u8 0 :: .int .u8 0 :: .int .u8 0 :: .int .u8 0 :: .int .i64 0 :: .ro 0 0 true (fun _ _ => .top) :: .ro 0 0 true (fun _ _ => .top) :: .int .u8 0 :: .int .u8 0 :: .int .u8 0 :: .int .u8 0 :: .int .u8 0 :: .int .u8 0 :: .int .i64 0 :: .ro 0 0 true (fun _ _ => .top) :: .ro 0 0 true (fun _ _ => .top) :: .int .u8 0 :: .int .u8 0 :: .int .u8 0 :: .int .u8 0 :: .int .u8 0 :: .int .u8 0 :: .int .i64 0 :: .ro 0 0 true (fun _ _ => .top) :: .ro 0 0 true (fun _ _ => .top) :: .int .u8 0 :: .int .u8 0 :: .int .u8 0 :: .int .u8 0 :: .int .u8 0 :: .int .u8 0 :: .int .i64 0 :: .ro 0 0 true (fun _ _ => .top) :: .ro 0 0 true (fun _ _ => .top) :: .int .u8 0 :: .int .u8 0 :: .int .u8 0 :: .int .u8 0 :: .int .u8 0 :: .int .u8 0 :: .int .i64 0 :: .ro 0 0 true (fun _ _ => .top) :: .ro 0 0 true (fun _ _ => .top) :: .int .u8 0 :: .int .u8 0 :: .int .u8 0 :: .int .u8 0 :: .int .u8 0 :: .int .u8 0 :: .int .i64 0 :: .ro 0 0 true (fun _ _ => .top) :: .ro 0 0 true (fun _ _ => .top) :: .int .u8 0 :: .int .u8 0 :: .int .u8 0 :: .int .u8 0 :: .int .u8 0 :: .int .u8 0 :: .int .i64 0 :: .ro 0 0 true (fun _ _ => .top) :: .ro 0 0 true (fun _ _ => .top) :: []), .row 62 9 w1.length (enR c_TForward w1)]) ?_ ?_
      · refine SubF_of ⟨[some 0, some 1], ?_, ?_, by rfl, by rfl⟩
        · simp [CvL, Cv, getM, tp, lhw2]
        · exact ⟨(by simp [CvB, CvL, Cv, blkAt, geth, getM, lhw2]), CvB_rowW lhw2 (hw2 ▸ (lit_rowW (f := c_TForward) ([(TForward.mk (A6u8.mk 0 0 0 0 0 0) 0 [] []), (TForward.mk (A6u8.mk 0 0 0 0 0 0) 0 [] []), (TForward.mk (A6u8.mk 0 0 0 0 0 0) 0 [] []), (TForward.mk (A6u8.mk 0 0 0 0 0 0) 0 [] []), (TForward.mk (A6u8.mk 0 0 0 0 0 0) 0 [] []), (TForward.mk (A6u8.mk 0 0 0 0 0 0) 0 [] []), (TForward.mk (A6u8.mk 0 0 0 0 0 0) 0 [] []), (TForward.mk (A6u8.mk 0 0 0 0 0 0) 0 [] [])]) (.int .u8 0 :: .int .u8 0 :: .int .u8 0 :: .int .u8 0 :: .int .u8 0 :: .int .u8 0 :: .int .i64 0 :: .ro 0 0 true (fun _ _ => .top) :: .ro 0 0 true (fun _ _ => .top) :: .int .u8 0 :: .int .u8 0 :: .int .u8 0 :: .int .u8 0 :: .int .u8 0 :: .int .u8 0 :: .int .i64 0 :: .ro 0 0 true (fun _ _ => .top) :: .ro 0 0 true (fun _ _ => .top) :: .int .u8 0 :: .int .u8 0 :: .int .u8 0 :: .int .u8 0 :: .int .u8 0 :: .int .u8 0 :: .int .i64 0 :: .ro 0 0 true (fun _ _ => .top) :: .ro 0 0 true (fun _ _ => .top) :: .int .u8 0 :: .int .u8 0 :: .int .u8 0 :: .int .u8 0 :: .int .u8 0 :: .int .u8 0 :: .int .i64 0 :: .ro 0 0 true (fun _ _ => .top) :: .ro 0 0 true (fun _ _ => .top) :: .int .u8 0 :: .int .u8 0 :: .int .u8 0 :: .int .u8 0 :: .int .u8 0 :: .int .u8 0 :: .int .i64 0 :: .ro 0 0 true (fun _ _ => .top) :: .ro 0 0 true (fun _ _ => .top) :: .int .u8 0 :: .int .u8 0 :: .int .u8 0 :: .int .u8 0 :: .int .u8 0 :: .int .u8 0 :: .int .i64 0 :: .ro 0 0 true (fun _ _ => .top) :: .ro 0 0 true (fun _ _ => .top) :: .int .u8 0 :: .int .u8 0 :: .int .u8 0 :: .int .u8 0 :: .int .u8 0 :: .int .u8 0 :: .int .i64 0 :: .ro 0 0 true (fun _ _ => .top) :: .ro 0 0 true (fun _ _ => .top) :: .int .u8 0 :: .int .u8 0 :: .int .u8 0 :: .int .u8 0 :: .int .u8 0 :: .int .u8 0 :: .int .i64 0 :: .ro 0 0 true (fun _ _ => .top) :: .ro 0 0 true (fun _ _ => .top) :: []) (fun _ _ => rfl) (fun _ => by simp [c_TForward, CvL, Cv]))), trivial⟩
      simp only [tp]
      refine rg ctNo_ok ?_
      simp only [go_sem, Nat.reduceLeDiff, Nat.reduceLT, Nat.reduceAdd, Nat.reduceMul, Nat.reduceSub, Nat.reduceEqDiff, Nat.reduceBEq, Int.reduceToNat, reduceCtorEq]
      refine blkM ?_
      refine loop_den (fun s : (List TForward) × Int => (.ptr 0 0 0 0 :: .ptr 2 9 0 0 :: .int .i64 s.2 :: tp 13 [])) (fun s => [.lit 62 (.int .u8 0 :: .int .u8 0 :: .int .u8 0 :: .int .u8 0 :: .int .u8 0 :: .int .u8 0 :: .int .i64 0 :: .ro 0 0 true (fun _ _ => .top) :: .ro 0 0 true (fun _ _ => .top) :: .int .u8 0 :: .int .u8 0 :: .int .u8 0 :: .int .u8 0 :: .int .u8 0 :: .int .u8 0 :: .int .i64 0 :: .ro 0 0 true (fun _ _ => .top) :: .ro 0 0 true (fun _ _ => .top) :: .int .u8 0 :: .int .u8 0 :: .int .u8 0 :: .int .u8 0 :: .int .u8 0 :: .int .u8 0 :: .int .i64 0 :: .ro 0 0 true (fun _ _ => .top) :: .ro 0 0 true (fun _ _ => .top) :: .int .u8 0 :: .int .u8 0 :: .int .u8 0 :: .int .u8 0 :: .int .u8 0 :: .int .u8 0 :: .int .i64 0 :: .ro 0 0 true (fun _ _ => .top) :: .ro 0 0 true (fun _ _ => .top) :: .int .u8 0 :: .int .u8 0 :: .int .u8 0 :: .int .u8 0 :: .int .u8 0 :: .int .u8 0 :: .int .i64 0 :: .ro 0 0 true (fun _ _ => .top) :: .ro 0 0 true (fun _ _ => .top) :: .int .u8 0 :: .int .u8 0 :: .int .u8 0 :: .int .u8 0 :: .int .u8 0 :: .int .u8 0 :: .int .i64 0 :: .ro 0 0 true (fun _ _ => .top) :: .ro 0 0 true (fun _ _ => .top) :: .int .u8 0 :: .int .u8 0 :: .int .u8 0 :: .int .u8 0 :: .int .u8 0 :: .int .u8 0 :: .int .i64 0 :: .ro 0 0 true (fun _ _ => .top) :: .ro 0 0 true (fun _ _ => .top) :: .int .u8 0 :: .int .u8 0 :: .int .u8 0 :: .int .u8 0 :: .int .u8 0 :: .int .u8 0 :: .int .i64 0 :: .ro 0 0 true (fun _ _ => .top) :: .ro 0 0 true (fun _ _ => .top) :: []), .dead, .row 62 9 s.1.length (enR c_TForward s.1)]) (fun e : List TForward => (.ptr 0 0 0 0 :: .ptr 2 9 0 0 :: tp 14 [])) (fun e => [.lit 62 (.int .u8 0 :: .int .u8 0 :: .int .u8 0 :: .int .u8 0 :: .int .u8 0 :: .int .u8 0 :: .int .i64 0 :: .ro 0 0 true (fun _ _ => .top) :: .ro 0 0 true (fun _ _ => .top) :: .int .u8 0 :: .int .u8 0 :: .int .u8 0 :: .int .u8 0 :: .int .u8 0 :: .int .u8 0 :: .int .i64 0 :: .ro 0 0 true (fun _ _ => .top) :: .ro 0 0 true (fun _ _ => .top) :: .int .u8 0 :: .int .u8 0 :: .int .u8 0 :: .int .u8 0 :: .int .u8 0 :: .int .u8 0 :: .int .i64 0 :: .ro 0 0 true (fun _ _ => .top) :: .ro 0 0 true (fun _ _ => .top) :: .int .u8 0 :: .int .u8 0 :: .int .u8 0 :: .int .u8 0 :: .int .u8 0 :: .int .u8 0 :: .int .i64 0 :: .ro 0 0 true (fun _ _ => .top) :: .ro 0 0 true (fun _ _ => .top) :: .int .u8 0 :: .int .u8 0 :: .int .u8 0 :: .int .u8 0 :: .int .u8 0 :: .int .u8 0 :: .int .i64 0 :: .ro 0 0 true (fun _ _ => .top) :: .ro 0 0 true (fun _ _ => .top) :: .int .u8 0 :: .int .u8 0 :: .int .u8 0 :: .int .u8 0 :: .int .u8 0 :: .int .u8 0 :: .int .i64 0 :: .ro 0 0 true (fun _ _ => .top) :: .ro 0 0 true (fun _ _ => .top) :: .int .u8 0 :: .int .u8 0 :: .int .u8 0 :: .int .u8 0 :: .int .u8 0 :: .int .u8 0 :: .int .i64 0 :: .ro 0 0 true (fun _ _ => .top) :: .ro 0 0 true (fun _ _ => .top) :: .int .u8 0 :: .int .u8 0 :: .int .u8 0 :: .int .u8 0 :: .int .u8 0 :: .int .u8 0 :: .int .i64 0 :: .ro 0 0 true (fun _ _ => .top) :: .ro 0 0 true (fun _ _ => .top) :: []), .dead, .row 62 9 e.length (enR c_TForward e)]) H ?_ (fun s o H hn1_1 hn2_1 => ?_) (fun w1_3 H => ?_)
      · refine SubF_of ⟨[some 0, some 1, some 1], ?_, ?_, by rfl, by rfl⟩
        · simp [CvL, Cv, getM, tp]
        · exact ⟨cv, CvB_dead, CvB_row nr_TForward cl (fun _ _ _ _ => rfl), trivial⟩
      · obtain ⟨v1_1, v1_2⟩ := s
        unfold F29_L1 at H
        try dsimp only at H ⊢
        try simp only [tp]
        refine seqM ?_
        refine sq ctNo_ok ?_
        simp only [go_sem, Nat.reduceLeDiff, Nat.reduceLT, Nat.reduceAdd, Nat.reduceMul, Nat.reduceSub, Nat.reduceEqDiff, Nat.reduceBEq, Int.reduceToNat, reduceCtorEq]
        refine condM' rfl trivial (fun hc => ?_) (fun hc => ?_)
        · replace H := cond_f hc H
          refine rg ctNo_ok ?_
          simp only [go_sem, Nat.reduceLeDiff, Nat.reduceLT, Nat.reduceAdd, Nat.reduceMul, Nat.reduceSub, Nat.reduceEqDiff, Nat.reduceBEq, Int.reduceToNat, reduceCtorEq]
          refine ⟨_, (Option.some.inj H).symm, ?_⟩
          refine SubF_of ⟨[some 0, some 1, some 2], ?_, ?_, by rfl, by rfl⟩
          · simp [CvL, Cv, getM, tp]
          · exact ⟨cv, CvB_dead, CvB_row nr_TForward cl (fun _ _ _ _ => rfl), trivial⟩
        replace H := cond_t hc H
        refine rg ctNo_ok ?_
        simp only [go_sem, Nat.reduceLeDiff, Nat.reduceLT, Nat.reduceAdd, Nat.reduceMul, Nat.reduceSub, Nat.reduceEqDiff, Nat.reduceBEq, Int.reduceToNat, reduceCtorEq]
        refine seqM ?_
        refine blkM ?_
        refine regO ?_
        obtain ⟨r3, e4, H⟩ := bsi H
        obtain ⟨r5, e6, H⟩ := bsi H
        obtain ⟨f7, H⟩ := need_some.1 H
        replace f7 := inb_iff.1 f7
        obtain ⟨f8, H⟩ := need_some.1 H
        replace f8 := inb_iff.1 f8
        refine cutO shT_ok ct29t0_ok 8 ?_
        simp only [kO_normal, List.take_succ_cons, List.take_zero, List.drop_succ_cons, List.drop_zero, go_sem, Nat.reduceLeDiff, Nat.reduceLT, Nat.reduceAdd, Nat.reduceMul, Nat.reduceSub, Nat.reduceEqDiff, Nat.reduceBEq, Int.reduceToNat, reduceCtorEq, ct29t0_31, body31, ct29t0_35, body35, e4, e6, f7, f8]
        repeat ((with_reducible refine And.intro ?_ ?_); focus exact an0)
        refine fzO [3, 4] ?_ ?_
        · simp only [go_sem, Nat.reduceEqDiff, Nat.reduceBEq, Nat.reduceAdd]
          try exact at0
        simp only [go_sem, Nat.reduceEqDiff, Nat.reduceBEq, Nat.reduceAdd]
        refine cutO shT_ok ctNo_ok 1 ?_
        simp only [kO_normal, List.take_succ_cons, List.take_zero, List.drop_succ_cons, List.drop_zero, go_sem, Nat.reduceLeDiff, Nat.reduceLT, Nat.reduceAdd, Nat.reduceMul, Nat.reduceSub, Nat.reduceEqDiff, Nat.reduceBEq, Int.reduceToNat, reduceCtorEq]
        repeat ((with_reducible refine And.intro ?_ ?_); focus exact an0)
        refine endO ?_
        refine rg ctNo_ok ?_
        simp only [go_sem, Nat.reduceLeDiff, Nat.reduceLT, Nat.reduceAdd, Nat.reduceMul, Nat.reduceSub, Nat.reduceEqDiff, Nat.reduceBEq, Int.reduceToNat, reduceCtorEq]
        refine ⟨_, (Option.some.inj H).symm, ?_⟩
        refine SubF_of ⟨[some 0, some 1, some 2], ?_, ?_, by rfl, by rfl⟩
        · simp [CvL, Cv, getM, tp]
        · exact ⟨cv, CvB_dead, CvB_row nr_TForward cl (upc_row (f := c_TForward) v1_1 v1_2.toNat 0 r5.1 (fun _ _ _ _ => rfl) (fun y hy => match y, hy with | 0, _ => rfl | 1, _ => rfl | 2, _ => rfl | 3, _ => rfl | 4, _ => rfl | 5, _ => rfl | 6, _ => rfl | 7, _ => rfl | 8, _ => rfl | (y+9), h => absurd h nlt)), trivial⟩
      · try dsimp only at H ⊢
        try simp only [tp]
        try simp only [m_normal, k_normal, b_normal, kL_normal, r_normal]
        refine seqM ?_
        refine regO ?_
        refine cutO shT_ok ctNo_ok 0 ?_
        simp only [kO_normal, List.take_succ_cons, List.take_zero, List.drop_succ_cons, List.drop_zero, go_sem, Nat.reduceLeDiff, Nat.reduceLT, Nat.reduceAdd, Nat.reduceMul, Nat.reduceSub, Nat.reduceEqDiff, Nat.reduceBEq, Int.reduceToNat, reduceCtorEq]
        repeat ((with_reducible refine And.intro ?_ ?_); focus exact an4)
        obtain ⟨f9, H⟩ := need_some.1 H
        replace f9 := decide_eq_true_iff.1 f9
        refine loadArrO shT_ok ctNo_ok (b := 2) (z := 9) (n := 8) (cells := (.int .u8 (((gd w1_3 0).Own).x0) :: .int .u8 (((gd w1_3 0).Own).x1) :: .int .u8 (((gd w1_3 0).Own).x2) :: .int .u8 (((gd w1_3 0).Own).x3) :: .int .u8 (((gd w1_3 0).Own).x4) :: .int .u8 (((gd w1_3 0).Own).x5) :: .int .i64 ((gd w1_3 0).Seq) :: .ro 7 (((gd w1_3 0).Seen).length) false (enR c_TForwardMark ((gd w1_3 0).Seen)) :: .ro 12 (((gd w1_3 0).Nexts).length) false (enR c_TForwardHop ((gd w1_3 0).Nexts)) :: .int .u8 (((gd w1_3 1).Own).x0) :: .int .u8 (((gd w1_3 1).Own).x1) :: .int .u8 (((gd w1_3 1).Own).x2) :: .int .u8 (((gd w1_3 1).Own).x3) :: .int .u8 (((gd w1_3 1).Own).x4) :: .int .u8 (((gd w1_3 1).Own).x5) :: .int .i64 ((gd w1_3 1).Seq) :: .ro 7 (((gd w1_3 1).Seen).length) false (enR c_TForwardMark ((gd w1_3 1).Seen)) :: .ro 12 (((gd w1_3 1).Nexts).length) false (enR c_TForwardHop ((gd w1_3 1).Nexts)) :: .int .u8 (((gd w1_3 2).Own).x0) :: .int .u8 (((gd w1_3 2).Own).x1) :: .int .u8 (((gd w1_3 2).Own).x2) :: .int .u8 (((gd w1_3 2).Own).x3) :: .int .u8 (((gd w1_3 2).Own).x4) :: .int .u8 (((gd w1_3 2).Own).x5) :: .int .i64 ((gd w1_3 2).Seq) :: .ro 7 (((gd w1_3 2).Seen).length) false (enR c_TForwardMark ((gd w1_3 2).Seen)) :: .ro 12 (((gd w1_3 2).Nexts).length) false (enR c_TForwardHop ((gd w1_3 2).Nexts)) :: .int .u8 (((gd w1_3 3).Own).x0) :: .int .u8 (((gd w1_3 3).Own).x1) :: .int .u8 (((gd w1_3 3).Own).x2) :: .int .u8 (((gd w1_3 3).Own).x3) :: .int .u8 (((gd w1_3 3).Own).x4) :: .int .u8 (((gd w1_3 3).Own).x5) :: .int .i64 ((gd w1_3 3).Seq) :: .ro 7 (((gd w1_3 3).Seen).length) false (enR c_TForwardMark ((gd w1_3 3).Seen)) :: .ro 12 (((gd w1_3 3).Nexts).length) false (enR c_TForwardHop ((gd w1_3 3).Nexts)) :: .int .u8 (((gd w1_3 4).Own).x0) :: .int .u8 (((gd w1_3 4).Own).x1) :: .int .u8 (((gd w1_3 4).Own).x2) :: .int .u8 (((gd w1_3 4).Own).x3) :: .int .u8 (((gd w1_3 4).Own).x4) :: .int .u8 (((gd w1_3 4).Own).x5) :: .int .i64 ((gd w1_3 4).Seq) :: .ro 7 (((gd w1_3 4).Seen).length) false (enR c_TForwardMark ((gd w1_3 4).Seen)) :: .ro 12 (((gd w1_3 4).Nexts).length) false (enR c_TForwardHop ((gd w1_3 4).Nexts)) :: .int .u8 (((gd w1_3 5).Own).x0) :: .int .u8 (((gd w1_3 5).Own).x1) :: .int .u8 (((gd w1_3 5).Own).x2) :: .int .u8 (((gd w1_3 5).Own).x3) :: .int .u8 (((gd w1_3 5).Own).x4) :: .int .u8 (((gd w1_3 5).Own).x5) :: .int .i64 ((gd w1_3 5).Seq) :: .ro 7 (((gd w1_3 5).Seen).length) false (enR c_TForwardMark ((gd w1_3 5).Seen)) :: .ro 12 (((gd w1_3 5).Nexts).length) false (enR c_TForwardHop ((gd w1_3 5).Nexts)) :: .int .u8 (((gd w1_3 6).Own).x0) :: .int .u8 (((gd w1_3 6).Own).x1) :: .int .u8 (((gd w1_3 6).Own).x2) :: .int .u8 (((gd w1_3 6).Own).x3) :: .int .u8 (((gd w1_3 6).Own).x4) :: .int .u8 (((gd w1_3 6).Own).x5) :: .int .i64 ((gd w1_3 6).Seq) :: .ro 7 (((gd w1_3 6).Seen).length) false (enR c_TForwardMark ((gd w1_3 6).Seen)) :: .ro 12 (((gd w1_3 6).Nexts).length) false (enR c_TForwardHop ((gd w1_3 6).Nexts)) :: .int .u8 (((gd w1_3 7).Own).x0) :: .int .u8 (((gd w1_3 7).Own).x1) :: .int .u8 (((gd w1_3 7).Own).x2) :: .int .u8 (((gd w1_3 7).Own).x3) :: .int .u8 (((gd w1_3 7).Own).x4) :: .int .u8 (((gd w1_3 7).Own).x5) :: .int .i64 ((gd w1_3 7).Seq) :: .ro 7 (((gd w1_3 7).Seen).length) false (enR c_TForwardMark ((gd w1_3 7).Seen)) :: .ro 12 (((gd w1_3 7).Nexts).length) false (enR c_TForwardHop ((gd w1_3 7).Nexts)) :: [])) rfl rfl rfl rfl (by first | exact trivial | (simp only [go_sem, Nat.reduceLeDiff, Nat.reduceLT, Nat.reduceAdd, Nat.reduceMul, Nat.reduceSub, Nat.reduceEqDiff, Nat.reduceBEq, Int.reduceToNat, reduceCtorEq]; done) | simp [og]) rfl f9 (by kernel_rfl) (by kernel_rfl) rfl (by decide) (fun x y hx hy => (flat_get (f := fun x => c_TForward (gd w1_3 x)) (n := 8) (fun _ => rfl) x y (by omega) hy).symm) ?_
        simp only [go_sem, Nat.reduceLeDiff, Nat.reduceLT, Nat.reduceAdd, Nat.reduceMul, Nat.reduceSub, Nat.reduceEqDiff, Nat.reduceBEq, Int.reduceToNat, reduceCtorEq]
        refine cutO shT_ok ctNo_ok 1 ?_
        simp only [kO_normal, List.take_succ_cons, List.take_zero, List.drop_succ_cons, List.drop_zero, go_sem, Nat.reduceLeDiff, Nat.reduceLT, Nat.reduceAdd, Nat.reduceMul, Nat.reduceSub, Nat.reduceEqDiff, Nat.reduceBEq, Int.reduceToNat, reduceCtorEq]
        repeat ((with_reducible refine And.intro ?_ ?_); focus exact an4)
        refine endO ?_
        refine rg ctNo_ok ?_
        simp only [go_sem, Nat.reduceLeDiff, Nat.reduceLT, Nat.reduceAdd, Nat.reduceMul, Nat.reduceSub, Nat.reduceEqDiff, Nat.reduceBEq, Int.reduceToNat, reduceCtorEq]
        obtain rfl := Option.some.inj H
        refine ⟨[0], ?_, ?_, [], ?_, ?_, rfl⟩
        · simp only [go_sem, Nat.reduceEqDiff, Nat.reduceBEq, Nat.reduceAdd]
          try exact at0
        · simp only [go_sem, Nat.reduceEqDiff, Nat.reduceBEq, Nat.reduceAdd]
          try exact at0
        · simp only [go_sem, Nat.reduceEqDiff, Nat.reduceBEq, Nat.reduceAdd]
          exact (Cv_agg (CvL_cons Cv_int (CvL_cons Cv_int (CvL_cons Cv_int (CvL_cons Cv_int (CvL_cons Cv_int (CvL_cons Cv_int (CvL_cons Cv_int (CvL_cons (Cv_nf (by simp only [nref])) (CvL_cons (Cv_nf (by simp only [nref])) (CvL_cons Cv_int (CvL_cons Cv_int (CvL_cons Cv_int (CvL_cons Cv_int (CvL_cons Cv_int (CvL_cons Cv_int (CvL_cons Cv_int (CvL_cons (Cv_nf (by simp only [nref])) (CvL_cons (Cv_nf (by simp only [nref])) (CvL_cons Cv_int (CvL_cons Cv_int (CvL_cons Cv_int (CvL_cons Cv_int (CvL_cons Cv_int (CvL_cons Cv_int (CvL_cons Cv_int (CvL_cons (Cv_nf (by simp only [nref])) (CvL_cons (Cv_nf (by simp only [nref])) (CvL_cons Cv_int (CvL_cons Cv_int (CvL_cons Cv_int (CvL_cons Cv_int (CvL_cons Cv_int (CvL_cons Cv_int (CvL_cons Cv_int (CvL_cons (Cv_nf (by simp only [nref])) (CvL_cons (Cv_nf (by simp only [nref])) (CvL_cons Cv_int (CvL_cons Cv_int (CvL_cons Cv_int (CvL_cons Cv_int (CvL_cons Cv_int (CvL_cons Cv_int (CvL_cons Cv_int (CvL_cons (Cv_nf (by simp only [nref])) (CvL_cons (Cv_nf (by simp only [nref])) (CvL_cons Cv_int (CvL_cons Cv_int (CvL_cons Cv_int (CvL_cons Cv_int (CvL_cons Cv_int (CvL_cons Cv_int (CvL_cons Cv_int (CvL_cons (Cv_nf (by simp only [nref])) (CvL_cons (Cv_nf (by simp only [nref])) (CvL_cons Cv_int (CvL_cons Cv_int (CvL_cons Cv_int (CvL_cons Cv_int (CvL_cons Cv_int (CvL_cons Cv_int (CvL_cons Cv_int (CvL_cons (Cv_nf (by simp only [nref])) (CvL_cons (Cv_nf (by simp only [nref])) (CvL_cons Cv_int (CvL_cons Cv_int (CvL_cons Cv_int (CvL_cons Cv_int (CvL_cons Cv_int (CvL_cons Cv_int (CvL_cons Cv_int (CvL_cons (Cv_nf (by simp only [nref])) (CvL_cons (Cv_nf (by simp only [nref])) CvL_nil)))))))))))))))))))))))))))))))))))))))))))))))))))))))))))))))))))))))))
        · simp only [go_sem, Nat.reduceEqDiff, Nat.reduceBEq, Nat.reduceAdd, CvH]
    · cases hb
  · unfold body29 at hb
    split at hb <;> cases hb
/-! hotspot/hotspotlaw41.all -/
noncomputable def F34 : Option (A6u8) :=
  some (A6u8.mk 255 255 255 255 255 255)
noncomputable def body34 : List AV -> AR
  | [] => .pure ((F34).isSome = true) (.agg [.int .u8 ((gt F34).x0), .int .u8 ((gt F34).x1), .int .u8 ((gt F34).x2), .int .u8 ((gt F34).x3), .int .u8 ((gt F34).x4), .int .u8 ((gt F34).x5)])
  | _ => .fail
set_option maxHeartbeats 4000000 in
set_option maxRecDepth 20000 in
theorem ok34 : FnOk Try.prog 34 (pureC body34) := by
  refine pure_fnM body34 (rs := [.cell 0 23]) Try.func34 (by kernel_rfl) rfl rfl ?_
  intro l ob v hb hob
  unfold body34 at hb
  split at hb
  · injection hb with q1 q2; subst q1 q2
    obtain ⟨r, H⟩ := Option.isSome_iff_exists.1 hob
    rw [H, gt_some]
    refine ⟨[], _, (fun E vs F => F), rfl, rfl, ?_⟩
    rw [Try.ntmps34]
    simp only [List.length_cons, List.length_nil, Nat.reduceAdd, Nat.reduceSub, List.replicate_succ, List.replicate_zero, List.cons_append, List.nil_append]
    unfold F34 at H
    try dsimp only at H
    refine sq ctNo_ok ?_
    simp only [go_sem, Nat.reduceLeDiff, Nat.reduceLT, Nat.reduceAdd, Nat.reduceMul, Nat.reduceSub, Nat.reduceEqDiff, Nat.reduceBEq, Int.reduceToNat, reduceCtorEq]
    refine sq ctNo_ok ?_
    simp only [go_sem, Nat.reduceLeDiff, Nat.reduceLT, Nat.reduceAdd, Nat.reduceMul, Nat.reduceSub, Nat.reduceEqDiff, Nat.reduceBEq, Int.reduceToNat, reduceCtorEq]
    repeat ((with_reducible refine And.intro ?_ ?_); focus exact an4)
    refine rg ctNo_ok ?_
    simp only [go_sem, Nat.reduceLeDiff, Nat.reduceLT, Nat.reduceAdd, Nat.reduceMul, Nat.reduceSub, Nat.reduceEqDiff, Nat.reduceBEq, Int.reduceToNat, reduceCtorEq]
    obtain rfl := Option.some.inj H
    first | rfl | simp only [Bool.and_false, Bool.false_and, Bool.and_true, Bool.true_and]
  · cases hb
/-! hotspot/forward.Send$1 -/
noncomputable def F56_0 (p0 : TForwardMark) (p1 : TForwardMark) : Option (Bool) :=
  some (bEq p0.Enter.x0 p1.Enter.x0 && (bEq p0.Enter.x1 p1.Enter.x1 && (bEq p0.Enter.x2 p1.Enter.x2 && (bEq p0.Enter.x3 p1.Enter.x3 && (bEq p0.Enter.x4 p1.Enter.x4 && (bEq p0.Enter.x5 p1.Enter.x5 && (bEq p0.Seq p1.Seq)))))))
noncomputable def body56_0 : List AV -> AR
  | [v0, v1] => .pure (aK 7 k_TForwardMark v0 /\ rK 7 k_TForwardMark v1 /\ (F56_0 (g_TForwardMark (aL v0)) (g_TForwardMark (rG v1))).isSome = true) (.bool (gt (F56_0 (g_TForwardMark (aL v0)) (g_TForwardMark (rG v1)))))
  | _ => .fail
set_option maxHeartbeats 4000000 in
set_option maxRecDepth 20000 in
theorem ok56_0 : FnOk Try.prog 56 (pureC body56_0) := by
  refine pure_fnM body56_0 (rs := [.tmp 3]) Try.func56 (by kernel_rfl) rfl rfl ?_
  intro l ob v hb hob
  unfold body56_0 at hb
  split at hb
  · rename_i v0 v1
    injection hb with q1 q2; subst q1 q2
    obtain ⟨hk0_0, hk1_0, hob⟩ := hob
    obtain ⟨r, H⟩ := Option.isSome_iff_exists.1 hob
    rw [H, gt_some]
    have hw0 := wA_TForwardMark hk0_0
    have hw1 := rK_wk (f := c_TForwardMark) (g := g_TForwardMark) (fun r h => w_TForwardMark h) hk1_0
    generalize g_TForwardMark (aL v0) = p0 at H hw0
    generalize g_TForwardMark (rG v1) = p1 at H hw1
    refine ⟨[.agg [.int .u8 p0.Enter.x0, .int .u8 p0.Enter.x1, .int .u8 p0.Enter.x2, .int .u8 p0.Enter.x3, .int .u8 p0.Enter.x4, .int .u8 p0.Enter.x5, .int .i64 p0.Seq], .rptr 7 1 0 0 (enR c_TForwardMark [p1])], _, (fun E vs F => FR_wk1 hw0.1 F (fun vs F => FR_wk1 hw1.1 F (fun vs F => F))), rfl, rfl, ?_⟩
    rw [Try.ntmps56]
    simp only [List.length_cons, List.length_nil, Nat.reduceAdd, Nat.reduceSub, List.replicate_succ, List.replicate_zero, List.cons_append, List.nil_append]
    unfold F56_0 at H
    try dsimp only at H
    refine sq ctNo_ok ?_
    simp only [go_sem, Nat.reduceLeDiff, Nat.reduceLT, Nat.reduceAdd, Nat.reduceMul, Nat.reduceSub, Nat.reduceEqDiff, Nat.reduceBEq, Int.reduceToNat, reduceCtorEq]
    refine sq ctNo_ok ?_
    simp only [go_sem, Nat.reduceLeDiff, Nat.reduceLT, Nat.reduceAdd, Nat.reduceMul, Nat.reduceSub, Nat.reduceEqDiff, Nat.reduceBEq, Int.reduceToNat, reduceCtorEq]
    refine rg ctNo_ok ?_
    simp only [go_sem, Nat.reduceLeDiff, Nat.reduceLT, Nat.reduceAdd, Nat.reduceMul, Nat.reduceSub, Nat.reduceEqDiff, Nat.reduceBEq, Int.reduceToNat, reduceCtorEq]
    obtain rfl := Option.some.inj H
    first | rfl | simp only [Bool.and_false, Bool.false_and, Bool.and_true, Bool.true_and]
  · cases hb
/-! slices.IndexFunc[[]hotspot/api.ForwardMark,hotspot/api.ForwardMark] -/
noncomputable def ct69_1t0 : Ct := tab [(56, pureC body56_0)]
theorem ct69_1t0_ok : CtOk Try.prog ct69_1t0 := tab_cons ok56_0 <| tab_nil
theorem ct69_1t0_56 (l : List AV) (h : List ABlk) : ct69_1t0 56 l h = pureC body56_0 l h := rfl
noncomputable def F69_1_L1 (p0 : List TForwardMark) (p1 : TForwardMark) (v1_1 : Int) : Option (Lp (Int) ((Unit) ⊕ (Int))) :=
  bif (bLt v1_1 (p0.length : Nat)) then (need (inb v1_1 p0.length) <| (F56_0 (TForwardMark.mk (A6u8.mk (((gd p0 v1_1.toNat).Enter).x0) (((gd p0 v1_1.toNat).Enter).x1) (((gd p0 v1_1.toNat).Enter).x2) (((gd p0 v1_1.toNat).Enter).x3) (((gd p0 v1_1.toNat).Enter).x4) (((gd p0 v1_1.toNat).Enter).x5)) ((gd p0 v1_1.toNat).Seq)) p1).bind fun r2 => bif r2 then (some (.done (.inr v1_1))) else (some (.next (wr .i64 (v1_1 + 1))))) else (some (.done (.inl ())))
noncomputable def F69_1 (p0 : List TForwardMark) (p1 : TForwardMark) : Option (Int) :=
  lp (loopD (fun s => F69_1_L1 p0 p1 s) 0) (fun _ => some (-1)) some
noncomputable def body69_1 : List AV -> AR
  | [v0, .fn 56 [v1]] => .pure (lK k_TForwardMark 7 v0 /\ rK 7 k_TForwardMark v1 /\ (F69_1 (lA g_TForwardMark v0) (g_TForwardMark (rG v1))).isSome = true) (.int .i64 (gt (F69_1 (lA g_TForwardMark v0) (g_TForwardMark (rG v1)))))
  | _ => .fail
set_option maxHeartbeats 4000000 in
set_option maxRecDepth 20000 in
theorem ok69_1 : FnOk Try.prog 69 (pureC body69_1) := by
  refine pure_fnM body69_1 (rs := [.tmp 4]) Try.func69 (by kernel_rfl) rfl rfl ?_
  intro l ob v hb hob
  unfold body69_1 at hb
  split at hb
  · rename_i v0 v1
    injection hb with q1 q2; subst q1 q2
    obtain ⟨hk0_0, hk1_0, hob⟩ := hob
    obtain ⟨r, H⟩ := Option.isSome_iff_exists.1 hob
    rw [H, gt_some]
    have hw0 := lK_wk (fun r h => w_TForwardMark h) hk0_0
    have hw1 := rK_wk (f := c_TForwardMark) (g := g_TForwardMark) (fun r h => w_TForwardMark h) hk1_0
    generalize lA g_TForwardMark v0 = p0 at H hw0
    generalize g_TForwardMark (rG v1) = p1 at H hw1
    refine ⟨[.ro 7 p0.length false (enR c_TForwardMark p0), .fn 56 [.rptr 7 1 0 0 (enR c_TForwardMark [p1])]], _, (fun E vs F => FR_wk1 hw0.1 F (fun vs F => FR_wk1 (fn_wk (LW_cons hw1.1 LW_nil)) F (fun vs F => F))), rfl, rfl, ?_⟩
    rw [Try.ntmps69]
    simp only [List.length_cons, List.length_nil, Nat.reduceAdd, Nat.reduceSub, List.replicate_succ, List.replicate_zero, List.cons_append, List.nil_append]
    unfold F69_1 at H
    try dsimp only at H
    refine sq ctNo_ok ?_
    simp only [go_sem, Nat.reduceLeDiff, Nat.reduceLT, Nat.reduceAdd, Nat.reduceMul, Nat.reduceSub, Nat.reduceEqDiff, Nat.reduceBEq, Int.reduceToNat, reduceCtorEq]
    refine seqM ?_
    refine sq ctNo_ok ?_
    simp only [go_sem, Nat.reduceLeDiff, Nat.reduceLT, Nat.reduceAdd, Nat.reduceMul, Nat.reduceSub, Nat.reduceEqDiff, Nat.reduceBEq, Int.reduceToNat, reduceCtorEq]
    repeat ((with_reducible refine And.intro ?_ ?_); focus exact an0)
    refine blkM ?_
    refine loop_den (fun s : Int => (.ro 7 p0.length false (enR c_TForwardMark p0) :: .fn 56 [.rptr 7 1 0 0 (enR c_TForwardMark [p1])] :: tp 5 (.int .i64 (p0.length : Nat) :: .int .i64 s :: tp 10 []))) (fun s => []) (fun e : Unit => (tp 19 [])) (fun e => []) H ?_ (fun v1_1 o H hn1_1 hn2_1 => ?_) (fun e H => ?_)
    · refine SubF_of ⟨[], ?_, ?_, by rfl, by rfl⟩
      · simp [CvL, Cv, getM, tp]
      · trivial
    · unfold F69_1_L1 at H
      try dsimp only at H ⊢
      try simp only [tp]
      refine sq ctNo_ok ?_
      simp only [go_sem, Nat.reduceLeDiff, Nat.reduceLT, Nat.reduceAdd, Nat.reduceMul, Nat.reduceSub, Nat.reduceEqDiff, Nat.reduceBEq, Int.reduceToNat, reduceCtorEq]
      refine seqM ?_
      refine condM' rfl trivial (fun hc => ?_) (fun hc => ?_)
      · replace H := cond_f hc H
        refine rg ctNo_ok ?_
        simp only [go_sem, Nat.reduceLeDiff, Nat.reduceLT, Nat.reduceAdd, Nat.reduceMul, Nat.reduceSub, Nat.reduceEqDiff, Nat.reduceBEq, Int.reduceToNat, reduceCtorEq]
        refine ⟨_, (Option.some.inj H).symm, ?_⟩
        refine SubF_of ⟨[], ?_, ?_, by rfl, by rfl⟩
        · simp [CvL, Cv, getM, tp]
        · trivial
      replace H := cond_t hc H
      refine rg ctNo_ok ?_
      simp only [go_sem, Nat.reduceLeDiff, Nat.reduceLT, Nat.reduceAdd, Nat.reduceMul, Nat.reduceSub, Nat.reduceEqDiff, Nat.reduceBEq, Int.reduceToNat, reduceCtorEq]
      refine seqM ?_
      refine blkM ?_
      refine sq ctNo_ok ?_
      simp only [go_sem, Nat.reduceLeDiff, Nat.reduceLT, Nat.reduceAdd, Nat.reduceMul, Nat.reduceSub, Nat.reduceEqDiff, Nat.reduceBEq, Int.reduceToNat, reduceCtorEq]
      refine seqM ?_
      obtain ⟨f1, H⟩ := need_some.1 H
      replace f1 := inb_iff.1 f1
      obtain ⟨r2, e3, H⟩ := bsi H
      refine rg ct69_1t0_ok ?_
      simp only [go_sem, Nat.reduceLeDiff, Nat.reduceLT, Nat.reduceAdd, Nat.reduceMul, Nat.reduceSub, Nat.reduceEqDiff, Nat.reduceBEq, Int.reduceToNat, reduceCtorEq, ct69_1t0_56, body56_0, f1, e3]
      repeat ((with_reducible refine And.intro ?_ ?_); focus exact an0)
      refine condM rfl trivial (fun hc => ?_) (fun hc => ?_)
      · replace H := cond_t hc H
        refine sq ctNo_ok ?_
        simp only [go_sem, Nat.reduceLeDiff, Nat.reduceLT, Nat.reduceAdd, Nat.reduceMul, Nat.reduceSub, Nat.reduceEqDiff, Nat.reduceBEq, Int.reduceToNat, reduceCtorEq]
        refine rg ctNo_ok ?_
        simp only [go_sem, Nat.reduceLeDiff, Nat.reduceLT, Nat.reduceAdd, Nat.reduceMul, Nat.reduceSub, Nat.reduceEqDiff, Nat.reduceBEq, Int.reduceToNat, reduceCtorEq]
        have H := hn2_1 _ (Option.some.inj H).symm
        obtain rfl := Option.some.inj H
        first | rfl | simp only [Bool.and_false, Bool.false_and, Bool.and_true, Bool.true_and]
      replace H := cond_f hc H
      refine rg ctNo_ok ?_
      simp only [go_sem, Nat.reduceLeDiff, Nat.reduceLT, Nat.reduceAdd, Nat.reduceMul, Nat.reduceSub, Nat.reduceEqDiff, Nat.reduceBEq, Int.reduceToNat, reduceCtorEq]
      refine rg ctNo_ok ?_
      simp only [go_sem, Nat.reduceLeDiff, Nat.reduceLT, Nat.reduceAdd, Nat.reduceMul, Nat.reduceSub, Nat.reduceEqDiff, Nat.reduceBEq, Int.reduceToNat, reduceCtorEq]
      refine ⟨_, (Option.some.inj H).symm, ?_⟩
      refine SubF_of ⟨[], ?_, ?_, by rfl, by rfl⟩
      · simp [CvL, Cv, getM, tp]
      · trivial
    · try dsimp only at H ⊢
      try simp only [tp]
      try simp only [m_normal, k_normal, b_normal, kL_normal, r_normal]
      refine sq ctNo_ok ?_
      simp only [go_sem, Nat.reduceLeDiff, Nat.reduceLT, Nat.reduceAdd, Nat.reduceMul, Nat.reduceSub, Nat.reduceEqDiff, Nat.reduceBEq, Int.reduceToNat, reduceCtorEq]
      refine rg ctNo_ok ?_
      simp only [go_sem, Nat.reduceLeDiff, Nat.reduceLT, Nat.reduceAdd, Nat.reduceMul, Nat.reduceSub, Nat.reduceEqDiff, Nat.reduceBEq, Int.reduceToNat, reduceCtorEq]
      obtain rfl := Option.some.inj H
      first | rfl | simp only [Bool.and_false, Bool.false_and, Bool.and_true, Bool.true_and]
  · cases hb
/-! slices.DeleteFunc[[]hotspot/api.ForwardMark,hotspot/api.ForwardMark] -/
noncomputable def ct54_1t0 : Ct := tab [(69, pureC body69_1)]
theorem ct54_1t0_ok : CtOk Try.prog ct54_1t0 := tab_cons ok69_1 <| tab_nil
theorem ct54_1t0_69 (l : List AV) (h : List ABlk) : ct54_1t0 69 l h = pureC body69_1 l h := rfl
noncomputable def ct54_1t1 : Ct := tab [(56, pureC body56_0)]
theorem ct54_1t1_ok : CtOk Try.prog ct54_1t1 := tab_cons ok56_0 <| tab_nil
theorem ct54_1t1_56 (l : List AV) (h : List ABlk) : ct54_1t1 56 l h = pureC body56_0 l h := rfl
noncomputable def F54_1_L1 (p1 : TForwardMark) (v1_1 : List TForwardMark) (v1_2 : Int) (v1_3 : Int) : Option (Lp ((List TForwardMark) × Int × Int) (((List TForwardMark) × Int) ⊕ (List TForwardMark))) :=
  bif (bLt v1_3 (v1_1.length : Nat)) then (need (inb v1_3 v1_1.length) <| (F56_0 (TForwardMark.mk (A6u8.mk (((gd v1_1 v1_3.toNat).Enter).x0) (((gd v1_1 v1_3.toNat).Enter).x1) (((gd v1_1 v1_3.toNat).Enter).x2) (((gd v1_1 v1_3.toNat).Enter).x3) (((gd v1_1 v1_3.toNat).Enter).x4) (((gd v1_1 v1_3.toNat).Enter).x5)) ((gd v1_1 v1_3.toNat).Seq)) p1).bind fun r4 => bif (!r4) then (need (inb v1_2 v1_1.length) <| some (.next ((v1_1.set v1_2.toNat (TForwardMark.mk (A6u8.mk (((gd v1_1 v1_3.toNat).Enter).x0) (((gd v1_1 v1_3.toNat).Enter).x1) (((gd v1_1 v1_3.toNat).Enter).x2) (((gd v1_1 v1_3.toNat).Enter).x3) (((gd v1_1 v1_3.toNat).Enter).x4) (((gd v1_1 v1_3.toNat).Enter).x5)) ((gd v1_1 v1_3.toNat).Seq))), wr .i64 (v1_2 + 1), wr .i64 (v1_3 + 1)))) else (some (.next (v1_1, v1_2, wr .i64 (v1_3 + 1))))) else (some (.done (.inl (v1_1, v1_2))))
noncomputable def F54_1 (p0 : List TForwardMark) (p1 : TForwardMark) : Option (List TForwardMark) :=
  (F69_1 p0 p1).bind fun r1 => bif (bEq r1 (-1)) then (some p0) else (lp (loopD (fun s => F54_1_L1 p1 s.1 s.2.1 s.2.2) (p0, r1, wr .i64 (r1 + 1))) (fun e1 => need (slb e1.2 (e1.1.length : Nat) e1.1.length) <| need (slb 0 e1.2 e1.1.length) <| some (List.take e1.2.toNat e1.1)) some)
noncomputable def body54_1 : List AV -> List ABlk -> ED
  | [v0, .fn 56 [v1]], h => .ed [slN v0] (oS 59 7 h v0 /\ lK k_TForwardMark 7 (roW h v0) /\ rK 7 k_TForwardMark (roD (deadL h [slN v0]) v1) /\ roDOb (deadL h [slN v0]) v1 /\ (F54_1 (lA g_TForwardMark (roW h v0)) (g_TForwardMark (rG (roD (deadL h [slN v0]) v1)))).isSome = true) (.sl 1 7 0 ((gt (F54_1 (lA g_TForwardMark (roW h v0)) (g_TForwardMark (rG (roD (deadL h [slN v0]) v1))))).length) false) [.dead, .row 59 7 ((gt (F54_1 (lA g_TForwardMark (roW h v0)) (g_TForwardMark (rG (roD (deadL h [slN v0]) v1))))).length) (enR c_TForwardMark (gt (F54_1 (lA g_TForwardMark (roW h v0)) (g_TForwardMark (rG (roD (deadL h [slN v0]) v1))))))]
  | _, _ => .fail
set_option maxHeartbeats 4000000 in
set_option maxRecDepth 20000 in
theorem ok54_1 : FnOk Try.prog 54 (edC body54_1) := by
  refine edit_fnV body54_1 (rs := [.tmp 4]) Try.func54 (by kernel_rfl) rfl rfl ?_
  intro l h bs ob q0 g0 hb hob
  unfold body54_1 at hb
  split at hb
  · rename_i v0 v1
    injection hb with q1 q2 q3 q4; subst q1 q2 q3 q4
    obtain ⟨hk0_0, hk0_1, hk1_0, hk1_1, hob⟩ := hob
    obtain ⟨r, H⟩ := Option.isSome_iff_exists.1 hob
    rw [H, gt_some]
    obtain ⟨p0, hp0⟩ : ∃ p0, p0 = lA g_TForwardMark (roW h v0) := ⟨_, rfl⟩
    rw [← hp0] at H
    obtain ⟨ev0, eb0⟩ := own_row2 (f := c_TForwardMark) (g := g_TForwardMark) (bs := [slN v0]) (i := 0) (fun hr => w_TForwardMark hr) hk0_0 hk0_1 (L := p0) (by rw [hp0]) rfl
    have hw1 := rK_wk (f := c_TForwardMark) (g := g_TForwardMark) (fun r h => w_TForwardMark h) hk1_0
    obtain ⟨p1, hp_p1⟩ : ∃ p1, p1 = g_TForwardMark (rG (roD (deadL h [slN v0]) v1)) := ⟨_, rfl⟩
    rw [← hp_p1] at H hw1
    refine ⟨[.sl 0 7 0 p0.length false, .fn 56 [.rptr 7 1 0 0 (enR c_TForwardMark [p1])]], [.row 59 7 p0.length (enR c_TForwardMark p0)], rfl, ⟨(EW_own ev0 (by simp only [noro])), ⟨(EW_fn ⟨(EW_view hk1_1 hw1), trivial⟩), trivial⟩⟩, ⟨eb0, trivial⟩, ⟨noroB_en, trivial⟩, ⟨trivial, ⟨(nfB_en nr_TForwardMark), trivial⟩⟩, ⟨trivial, ⟨noroB_en, trivial⟩⟩, (by first | (simp only [noro, noroL, and_self]; done) | (simp only [noro, noroL]; and_intros <;> first | trivial | exact noro_bif (by simp only [noro]) (by simp only [noro]) | (simp only [noro, noroL, and_self]))), ?_⟩
    rw [Try.ntmps54]
    simp only [List.length_cons, List.length_nil, Nat.reduceAdd, Nat.reduceSub, List.replicate_succ, List.replicate_zero, List.cons_append, List.nil_append]
    unfold F54_1 at H
    try dsimp only at H
    refine sq ctNo_ok ?_
    simp only [go_sem, Nat.reduceLeDiff, Nat.reduceLT, Nat.reduceAdd, Nat.reduceMul, Nat.reduceSub, Nat.reduceEqDiff, Nat.reduceBEq, Int.reduceToNat, reduceCtorEq]
    refine seqM ?_
    obtain ⟨r1, e2, H⟩ := bsi H
    refine rg ct54_1t0_ok ?_
    simp only [go_sem, Nat.reduceLeDiff, Nat.reduceLT, Nat.reduceAdd, Nat.reduceMul, Nat.reduceSub, Nat.reduceEqDiff, Nat.reduceBEq, Int.reduceToNat, reduceCtorEq, ct54_1t0_69, body69_1, e2]
    repeat ((with_reducible refine And.intro ?_ ?_); focus exact an0)
    refine seqM ?_
    refine sq ctNo_ok ?_
    simp only [go_sem, Nat.reduceLeDiff, Nat.reduceLT, Nat.reduceAdd, Nat.reduceMul, Nat.reduceSub, Nat.reduceEqDiff, Nat.reduceBEq, Int.reduceToNat, reduceCtorEq]
    refine condM rfl trivial (fun hc => ?_) (fun hc => ?_)
    · replace H := cond_t hc H
      refine sq ctNo_ok ?_
      simp only [go_sem, Nat.reduceLeDiff, Nat.reduceLT, Nat.reduceAdd, Nat.reduceMul, Nat.reduceSub, Nat.reduceEqDiff, Nat.reduceBEq, Int.reduceToNat, reduceCtorEq]
      refine rg ctNo_ok ?_
      simp only [go_sem, Nat.reduceLeDiff, Nat.reduceLT, Nat.reduceAdd, Nat.reduceMul, Nat.reduceSub, Nat.reduceEqDiff, Nat.reduceBEq, Int.reduceToNat, reduceCtorEq]
      obtain rfl := Option.some.inj H
      refine RetE_mk [] [some 0, some 0] ?_ ?_ ?_ ?_ (by rfl) (by rfl)
      · simp only [go_sem, Nat.reduceEqDiff, Nat.reduceBEq, Nat.reduceAdd]
        try exact at0
      · simp only [go_sem, Nat.reduceEqDiff, Nat.reduceBEq, Nat.reduceAdd]
        try exact at0
      · simp only [go_sem, Nat.reduceEqDiff, Nat.reduceBEq, Nat.reduceAdd]
        exact (by first | (simp [Cv, CvL, getM, gt_some]; done) | (simp [Cv, CvL, getM, gt_some]; omega))
      · simp only [go_sem, Nat.reduceEqDiff, Nat.reduceBEq, Nat.reduceAdd, CvH, gt_some, Option.isSome_some, Option.isSome_none]
        first | exact ⟨CvB_dead, CvB_row nr_TForwardMark cl (fun _ _ _ _ => rfl)⟩ | trivial
    replace H := cond_f hc H
    refine rg ctNo_ok ?_
    simp only [go_sem, Nat.reduceLeDiff, Nat.reduceLT, Nat.reduceAdd, Nat.reduceMul, Nat.reduceSub, Nat.reduceEqDiff, Nat.reduceBEq, Int.reduceToNat, reduceCtorEq]
    refine seqM ?_
    refine sq ctNo_ok ?_
    simp only [go_sem, Nat.reduceLeDiff, Nat.reduceLT, Nat.reduceAdd, Nat.reduceMul, Nat.reduceSub, Nat.reduceEqDiff, Nat.reduceBEq, Int.reduceToNat, reduceCtorEq]
    refine blkM ?_
    refine loop_den (fun s : (List TForwardMark) × Int × Int => (.sl 1 7 0 s.1.length false :: .fn 56 [.rptr 7 1 0 0 (enR c_TForwardMark [p1])] :: .top :: .top :: .top :: .int .i64 s.2.1 :: .int .i64 s.2.2 :: tp 35 [])) (fun s => [.dead, .row 59 7 s.1.length (enR c_TForwardMark s.1)]) (fun e : (List TForwardMark) × Int => (.sl 1 7 0 e.1.length false :: tp 4 (.int .i64 e.2 :: tp 36 []))) (fun e => [.dead, .row 59 7 e.1.length (enR c_TForwardMark e.1)]) H ?_ (fun s o H hn1_1 hn2_1 => ?_) (fun e H => ?_)
    · refine SubF_of ⟨[some 0, some 0], ?_, ?_, by rfl, by rfl⟩
      · simp [CvL, Cv, getM, tp]
      · exact ⟨CvB_dead, CvB_row nr_TForwardMark cl (fun _ _ _ _ => rfl), trivial⟩
    · obtain ⟨v1_1, v1_2, v1_3⟩ := s
      unfold F54_1_L1 at H
      try dsimp only at H ⊢
      try simp only [tp]
      refine seqM ?_
      refine sq ctNo_ok ?_
      simp only [go_sem, Nat.reduceLeDiff, Nat.reduceLT, Nat.reduceAdd, Nat.reduceMul, Nat.reduceSub, Nat.reduceEqDiff, Nat.reduceBEq, Int.reduceToNat, reduceCtorEq]
      repeat ((with_reducible refine And.intro ?_ ?_); focus exact an0)
      refine condM' rfl trivial (fun hc => ?_) (fun hc => ?_)
      · replace H := cond_f hc H
        refine rg ctNo_ok ?_
        simp only [go_sem, Nat.reduceLeDiff, Nat.reduceLT, Nat.reduceAdd, Nat.reduceMul, Nat.reduceSub, Nat.reduceEqDiff, Nat.reduceBEq, Int.reduceToNat, reduceCtorEq]
        refine ⟨_, (Option.some.inj H).symm, ?_⟩
        refine SubF_of ⟨[some 0, some 1], ?_, ?_, by rfl, by rfl⟩
        · simp [CvL, Cv, getM, tp]
        · exact ⟨CvB_dead, CvB_row nr_TForwardMark cl (fun _ _ _ _ => rfl), trivial⟩
      replace H := cond_t hc H
      refine rg ctNo_ok ?_
      simp only [go_sem, Nat.reduceLeDiff, Nat.reduceLT, Nat.reduceAdd, Nat.reduceMul, Nat.reduceSub, Nat.reduceEqDiff, Nat.reduceBEq, Int.reduceToNat, reduceCtorEq]
      refine seqM ?_
      refine blkM ?_
      refine seqM ?_
      obtain ⟨f3, H⟩ := need_some.1 H
      replace f3 := inb_iff.1 f3
      refine rg ctNo_ok ?_
      simp only [go_sem, Nat.reduceLeDiff, Nat.reduceLT, Nat.reduceAdd, Nat.reduceMul, Nat.reduceSub, Nat.reduceEqDiff, Nat.reduceBEq, Int.reduceToNat, reduceCtorEq, f3]
      repeat ((with_reducible refine And.intro ?_ ?_); focus exact an4)
      refine seqM ?_
      obtain ⟨r4, e5, H⟩ := bsi H
      refine rg ct54_1t1_ok ?_
      simp only [go_sem, Nat.reduceLeDiff, Nat.reduceLT, Nat.reduceAdd, Nat.reduceMul, Nat.reduceSub, Nat.reduceEqDiff, Nat.reduceBEq, Int.reduceToNat, reduceCtorEq, ct54_1t1_56, body56_0, e5]
      repeat ((with_reducible refine And.intro ?_ ?_); focus exact an0)
      refine condM' rfl trivial (fun hc => ?_) (fun hc => ?_)
      · replace H := cond_f hc H
        refine rg ctNo_ok ?_
        simp only [go_sem, Nat.reduceLeDiff, Nat.reduceLT, Nat.reduceAdd, Nat.reduceMul, Nat.reduceSub, Nat.reduceEqDiff, Nat.reduceBEq, Int.reduceToNat, reduceCtorEq]
        refine rg ctNo_ok ?_
        simp only [go_sem, Nat.reduceLeDiff, Nat.reduceLT, Nat.reduceAdd, Nat.reduceMul, Nat.reduceSub, Nat.reduceEqDiff, Nat.reduceBEq, Int.reduceToNat, reduceCtorEq]
        refine ⟨_, (Option.some.inj H).symm, ?_⟩
        refine SubF_of ⟨[some 0, some 1], ?_, ?_, by rfl, by rfl⟩
        · simp [CvL, Cv, getM, tp]
        · exact ⟨CvB_dead, CvB_row nr_TForwardMark cl (fun _ _ _ _ => rfl), trivial⟩
      replace H := cond_t hc H
      refine seqM ?_
      obtain ⟨f6, H⟩ := need_some.1 H
      replace f6 := inb_iff.1 f6
      refine rg ctNo_ok ?_
      simp only [go_sem, Nat.reduceLeDiff, Nat.reduceLT, Nat.reduceAdd, Nat.reduceMul, Nat.reduceSub, Nat.reduceEqDiff, Nat.reduceBEq, Int.reduceToNat, reduceCtorEq, f6]
      repeat ((with_reducible refine And.intro ?_ ?_); focus exact an4)
      refine rg ctNo_ok ?_
      simp only [go_sem, Nat.reduceLeDiff, Nat.reduceLT, Nat.reduceAdd, Nat.reduceMul, Nat.reduceSub, Nat.reduceEqDiff, Nat.reduceBEq, Int.reduceToNat, reduceCtorEq]
      refine rg ctNo_ok ?_
      simp only [go_sem, Nat.reduceLeDiff, Nat.reduceLT, Nat.reduceAdd, Nat.reduceMul, Nat.reduceSub, Nat.reduceEqDiff, Nat.reduceBEq, Int.reduceToNat, reduceCtorEq]
      refine ⟨_, (Option.some.inj H).symm, ?_⟩
      refine SubF_of ⟨[some 0, some 1], ?_, ?_, by rfl, by rfl⟩
      · simp [CvL, Cv, getM, tp]
      · exact ⟨CvB_dead, CvB_row nr_TForwardMark cl (upc_row (f := c_TForwardMark) v1_1 v1_2.toNat 0 (TForwardMark.mk (A6u8.mk (((gd v1_1 v1_3.toNat).Enter).x0) (((gd v1_1 v1_3.toNat).Enter).x1) (((gd v1_1 v1_3.toNat).Enter).x2) (((gd v1_1 v1_3.toNat).Enter).x3) (((gd v1_1 v1_3.toNat).Enter).x4) (((gd v1_1 v1_3.toNat).Enter).x5)) ((gd v1_1 v1_3.toNat).Seq)) (fun _ _ _ _ => rfl) (fun y hy => match y, hy with | 0, _ => rfl | 1, _ => rfl | 2, _ => rfl | 3, _ => rfl | 4, _ => rfl | 5, _ => rfl | 6, _ => rfl | (y+7), h => absurd h nlt)), trivial⟩
    · obtain ⟨w1_4, w1_5⟩ := e
      try dsimp only at H ⊢
      try simp only [tp]
      try simp only [m_normal, k_normal, b_normal, kL_normal, r_normal]
      refine seqM ?_
      obtain ⟨f7, H⟩ := need_some.1 H
      replace f7 := slb_iff.1 f7
      refine rg ctNo_ok ?_
      simp only [go_sem, Nat.reduceLeDiff, Nat.reduceLT, Nat.reduceAdd, Nat.reduceMul, Nat.reduceSub, Nat.reduceEqDiff, Nat.reduceBEq, Int.reduceToNat, reduceCtorEq, f7]
      repeat ((with_reducible refine And.intro ?_ ?_); focus exact an2)
      refine seqM ?_
      obtain ⟨f8, H⟩ := need_some.1 H
      replace f8 := slb_iff.1 f8
      refine rg ctNo_ok ?_
      simp only [go_sem, Nat.reduceLeDiff, Nat.reduceLT, Nat.reduceAdd, Nat.reduceMul, Nat.reduceSub, Nat.reduceEqDiff, Nat.reduceBEq, Int.reduceToNat, reduceCtorEq, f8]
      repeat ((with_reducible refine And.intro ?_ ?_); focus exact an4)
      refine rg ctNo_ok ?_
      simp only [go_sem, Nat.reduceLeDiff, Nat.reduceLT, Nat.reduceAdd, Nat.reduceMul, Nat.reduceSub, Nat.reduceEqDiff, Nat.reduceBEq, Int.reduceToNat, reduceCtorEq]
      obtain rfl := Option.some.inj H
      refine RetE_mk [] [some 0, some 1] ?_ ?_ ?_ ?_ (by rfl) (by rfl)
      · simp only [go_sem, Nat.reduceEqDiff, Nat.reduceBEq, Nat.reduceAdd]
        try exact at0
      · simp only [go_sem, Nat.reduceEqDiff, Nat.reduceBEq, Nat.reduceAdd]
        try exact at0
      · simp only [go_sem, Nat.reduceEqDiff, Nat.reduceBEq, Nat.reduceAdd]
        exact (by first | (simp [Cv, CvL, getM, gt_some, (show (List.take w1_5.toNat w1_4).length = w1_5.toNat from take_len (n := w1_4.length) cl (by omega))]; done) | (simp [Cv, CvL, getM, gt_some, (show (List.take w1_5.toNat w1_4).length = w1_5.toNat from take_len (n := w1_4.length) cl (by omega))]; omega))
      · simp only [go_sem, Nat.reduceEqDiff, Nat.reduceBEq, Nat.reduceAdd, CvH, gt_some, Option.isSome_some, Option.isSome_none]
        first | exact ⟨CvB_dead, (CvB_pre nr_TForwardMark (by rw [show (List.take w1_5.toNat w1_4).length = w1_5.toNat from take_len (n := w1_4.length) cl (by omega)]; omega) (clr_row (fun _ _ _ _ => rfl)))⟩ | trivial
  · cases hb
/-! hotspot/forward.Send -/
noncomputable def ct32t0 : Ct := tab [(27, pureC body27)]
theorem ct32t0_ok : CtOk Try.prog ct32t0 := tab_cons ok27 <| tab_nil
theorem ct32t0_27 (l : List AV) (h : List ABlk) : ct32t0 27 l h = pureC body27 l h := rfl
noncomputable def ct32t1 : Ct := tab [(43, pureC body43)]
theorem ct32t1_ok : CtOk Try.prog ct32t1 := tab_cons ok43 <| tab_nil
theorem ct32t1_43 (l : List AV) (h : List ABlk) : ct32t1 43 l h = pureC body43 l h := rfl
noncomputable def ct32t2 : Ct := tab [(37, edC body37)]
theorem ct32t2_ok : CtOk Try.prog ct32t2 := tab_cons ok37 <| tab_nil
theorem ct32t2_37 (l : List AV) (h : List ABlk) : ct32t2 37 l h = edC body37 l h := rfl
noncomputable def ct32t3 : Ct := tab [(54, edC body54_1), (55, edC body55)]
theorem ct32t3_ok : CtOk Try.prog ct32t3 := tab_cons ok54_1 <| tab_cons ok55 <| tab_nil
theorem ct32t3_54 (l : List AV) (h : List ABlk) : ct32t3 54 l h = edC body54_1 l h := rfl
theorem ct32t3_55 (l : List AV) (h : List ABlk) : ct32t3 55 l h = edC body55 l h := rfl
noncomputable def ct32t4 : Ct := tab [(42, edC body42)]
theorem ct32t4_ok : CtOk Try.prog ct32t4 := tab_cons ok42 <| tab_nil
theorem ct32t4_42 (l : List AV) (h : List ABlk) : ct32t4 42 l h = edC body42 l h := rfl
noncomputable def ct32t5 : Ct := tab [(39, pureC body39)]
theorem ct32t5_ok : CtOk Try.prog ct32t5 := tab_cons ok39 <| tab_nil
theorem ct32t5_39 (l : List AV) (h : List ABlk) : ct32t5 39 l h = pureC body39 l h := rfl
noncomputable def F32 (p0 : TForward) (p1 : A6u8) (p2 : A6u8) (p3 : A6u8) (p4 : List Int) : Option (TForward × TMeshFrame × Int) :=
  (F27 p0).bind fun r1 => (F43 p0 p1).bind fun r3 => bif (!bEq r1 0) then (bif (!bEq r1 0) then (some ((TForward.mk (A6u8.mk 0 0 0 0 0 0) 0 [] []), (TMeshFrame.mk (A6u8.mk 0 0 0 0 0 0) (A6u8.mk 0 0 0 0 0 0) (A6u8.mk 0 0 0 0 0 0) (A6u8.mk 0 0 0 0 0 0) (A6u8.mk 0 0 0 0 0 0) (A6u8.mk 0 0 0 0 0 0) 0 0 []), r1)) else ((F37 p4).bind fun r5 => (F55 p0.Seen).bind fun r7 => (F54_1 r7 (TForwardMark.mk (A6u8.mk p0.Own.x0 p0.Own.x1 p0.Own.x2 p0.Own.x3 p0.Own.x4 p0.Own.x5) p0.Seq)).bind fun r9 => (F42 (TForward.mk (A6u8.mk p0.Own.x0 p0.Own.x1 p0.Own.x2 p0.Own.x3 p0.Own.x4 p0.Own.x5) p0.Seq r9 p0.Nexts) p0.Own p0.Seq).bind fun r11 => some ((TForward.mk (A6u8.mk r11.Own.x0 r11.Own.x1 r11.Own.x2 r11.Own.x3 r11.Own.x4 r11.Own.x5) ((wr .i64 (r11.Seq + 1)).tmod 65536) r11.Seen r11.Nexts), (TMeshFrame.mk (A6u8.mk p0.Own.x0 p0.Own.x1 p0.Own.x2 p0.Own.x3 p0.Own.x4 p0.Own.x5) (A6u8.mk r3.1.x0 r3.1.x1 r3.1.x2 r3.1.x3 r3.1.x4 r3.1.x5) (A6u8.mk p0.Own.x0 p0.Own.x1 p0.Own.x2 p0.Own.x3 p0.Own.x4 p0.Own.x5) (A6u8.mk p1.x0 p1.x1 p1.x2 p1.x3 p1.x4 p1.x5) (A6u8.mk p2.x0 p2.x1 p2.x2 p2.x3 p2.x4 p2.x5) (A6u8.mk p3.x0 p3.x1 p3.x2 p3.x3 p3.x4 p3.x5) p0.Seq 31 r5), 0))) else (bif (bEq p1.x0 p0.Own.x0 && (bEq p1.x1 p0.Own.x1 && (bEq p1.x2 p0.Own.x2 && (bEq p1.x3 p0.Own.x3 && (bEq p1.x4 p0.Own.x4 && (bEq p1.x5 p0.Own.x5)))))) then (some ((TForward.mk (A6u8.mk 0 0 0 0 0 0) 0 [] []), (TMeshFrame.mk (A6u8.mk 0 0 0 0 0 0) (A6u8.mk 0 0 0 0 0 0) (A6u8.mk 0 0 0 0 0 0) (A6u8.mk 0 0 0 0 0 0) (A6u8.mk 0 0 0 0 0 0) (A6u8.mk 0 0 0 0 0 0) 0 0 []), 2)) else (bif (bLt 2264 (p4.length : Nat)) then (some ((TForward.mk (A6u8.mk 0 0 0 0 0 0) 0 [] []), (TMeshFrame.mk (A6u8.mk 0 0 0 0 0 0) (A6u8.mk 0 0 0 0 0 0) (A6u8.mk 0 0 0 0 0 0) (A6u8.mk 0 0 0 0 0 0) (A6u8.mk 0 0 0 0 0 0) (A6u8.mk 0 0 0 0 0 0) 0 0 []), 4)) else ((F39 p1).bind fun r13 => bif r13 then (bif (!bEq r1 0) then (some ((TForward.mk (A6u8.mk 0 0 0 0 0 0) 0 [] []), (TMeshFrame.mk (A6u8.mk 0 0 0 0 0 0) (A6u8.mk 0 0 0 0 0 0) (A6u8.mk 0 0 0 0 0 0) (A6u8.mk 0 0 0 0 0 0) (A6u8.mk 0 0 0 0 0 0) (A6u8.mk 0 0 0 0 0 0) 0 0 []), r1)) else ((F37 p4).bind fun r15 => (F55 p0.Seen).bind fun r17 => (F54_1 r17 (TForwardMark.mk (A6u8.mk p0.Own.x0 p0.Own.x1 p0.Own.x2 p0.Own.x3 p0.Own.x4 p0.Own.x5) p0.Seq)).bind fun r19 => (F42 (TForward.mk (A6u8.mk p0.Own.x0 p0.Own.x1 p0.Own.x2 p0.Own.x3 p0.Own.x4 p0.Own.x5) p0.Seq r19 p0.Nexts) p0.Own p0.Seq).bind fun r21 => some ((TForward.mk (A6u8.mk r21.Own.x0 r21.Own.x1 r21.Own.x2 r21.Own.x3 r21.Own.x4 r21.Own.x5) ((wr .i64 (r21.Seq + 1)).tmod 65536) r21.Seen r21.Nexts), (TMeshFrame.mk (A6u8.mk p0.Own.x0 p0.Own.x1 p0.Own.x2 p0.Own.x3 p0.Own.x4 p0.Own.x5) (A6u8.mk p1.x0 p1.x1 p1.x2 p1.x3 p1.x4 p1.x5) (A6u8.mk p0.Own.x0 p0.Own.x1 p0.Own.x2 p0.Own.x3 p0.Own.x4 p0.Own.x5) (A6u8.mk p1.x0 p1.x1 p1.x2 p1.x3 p1.x4 p1.x5) (A6u8.mk p2.x0 p2.x1 p2.x2 p2.x3 p2.x4 p2.x5) (A6u8.mk p3.x0 p3.x1 p3.x2 p3.x3 p3.x4 p3.x5) p0.Seq 31 r15), 0))) else (bif (!r3.2) then (some ((TForward.mk (A6u8.mk 0 0 0 0 0 0) 0 [] []), (TMeshFrame.mk (A6u8.mk 0 0 0 0 0 0) (A6u8.mk 0 0 0 0 0 0) (A6u8.mk 0 0 0 0 0 0) (A6u8.mk 0 0 0 0 0 0) (A6u8.mk 0 0 0 0 0 0) (A6u8.mk 0 0 0 0 0 0) 0 0 []), 6)) else (bif (!bEq r1 0) then (some ((TForward.mk (A6u8.mk 0 0 0 0 0 0) 0 [] []), (TMeshFrame.mk (A6u8.mk 0 0 0 0 0 0) (A6u8.mk 0 0 0 0 0 0) (A6u8.mk 0 0 0 0 0 0) (A6u8.mk 0 0 0 0 0 0) (A6u8.mk 0 0 0 0 0 0) (A6u8.mk 0 0 0 0 0 0) 0 0 []), r1)) else ((F37 p4).bind fun r23 => (F55 p0.Seen).bind fun r25 => (F54_1 r25 (TForwardMark.mk (A6u8.mk p0.Own.x0 p0.Own.x1 p0.Own.x2 p0.Own.x3 p0.Own.x4 p0.Own.x5) p0.Seq)).bind fun r27 => (F42 (TForward.mk (A6u8.mk p0.Own.x0 p0.Own.x1 p0.Own.x2 p0.Own.x3 p0.Own.x4 p0.Own.x5) p0.Seq r27 p0.Nexts) p0.Own p0.Seq).bind fun r29 => some ((TForward.mk (A6u8.mk r29.Own.x0 r29.Own.x1 r29.Own.x2 r29.Own.x3 r29.Own.x4 r29.Own.x5) ((wr .i64 (r29.Seq + 1)).tmod 65536) r29.Seen r29.Nexts), (TMeshFrame.mk (A6u8.mk p0.Own.x0 p0.Own.x1 p0.Own.x2 p0.Own.x3 p0.Own.x4 p0.Own.x5) (A6u8.mk r3.1.x0 r3.1.x1 r3.1.x2 r3.1.x3 r3.1.x4 r3.1.x5) (A6u8.mk p0.Own.x0 p0.Own.x1 p0.Own.x2 p0.Own.x3 p0.Own.x4 p0.Own.x5) (A6u8.mk p1.x0 p1.x1 p1.x2 p1.x3 p1.x4 p1.x5) (A6u8.mk p2.x0 p2.x1 p2.x2 p2.x3 p2.x4 p2.x5) (A6u8.mk p3.x0 p3.x1 p3.x2 p3.x3 p3.x4 p3.x5) p0.Seq 31 r23), 0)))))))
noncomputable def body32 : List AV -> Nat -> AR
  | [v0, v1, v2, v3, v4], _ => .pure (aK 9 k_TForward v0 /\ aK 6 k_A6u8 v1 /\ aK 6 k_A6u8 v2 /\ aK 6 k_A6u8 v3 /\ lK k_u8 1 v4 /\ (F32 (g_TForward (aL v0)) (g_A6u8 (aL v1)) (g_A6u8 (aL v2)) (g_A6u8 (aL v3)) (lA g_u8 v4)).isSome = true) (.tup [.agg [.int .u8 ((((gt (F32 (g_TForward (aL v0)) (g_A6u8 (aL v1)) (g_A6u8 (aL v2)) (g_A6u8 (aL v3)) (lA g_u8 v4))).1).Own).x0), .int .u8 ((((gt (F32 (g_TForward (aL v0)) (g_A6u8 (aL v1)) (g_A6u8 (aL v2)) (g_A6u8 (aL v3)) (lA g_u8 v4))).1).Own).x1), .int .u8 ((((gt (F32 (g_TForward (aL v0)) (g_A6u8 (aL v1)) (g_A6u8 (aL v2)) (g_A6u8 (aL v3)) (lA g_u8 v4))).1).Own).x2), .int .u8 ((((gt (F32 (g_TForward (aL v0)) (g_A6u8 (aL v1)) (g_A6u8 (aL v2)) (g_A6u8 (aL v3)) (lA g_u8 v4))).1).Own).x3), .int .u8 ((((gt (F32 (g_TForward (aL v0)) (g_A6u8 (aL v1)) (g_A6u8 (aL v2)) (g_A6u8 (aL v3)) (lA g_u8 v4))).1).Own).x4), .int .u8 ((((gt (F32 (g_TForward (aL v0)) (g_A6u8 (aL v1)) (g_A6u8 (aL v2)) (g_A6u8 (aL v3)) (lA g_u8 v4))).1).Own).x5), .int .i64 (((gt (F32 (g_TForward (aL v0)) (g_A6u8 (aL v1)) (g_A6u8 (aL v2)) (g_A6u8 (aL v3)) (lA g_u8 v4))).1).Seq), .ro 7 ((((gt (F32 (g_TForward (aL v0)) (g_A6u8 (aL v1)) (g_A6u8 (aL v2)) (g_A6u8 (aL v3)) (lA g_u8 v4))).1).Seen).length) false (enR c_TForwardMark (((gt (F32 (g_TForward (aL v0)) (g_A6u8 (aL v1)) (g_A6u8 (aL v2)) (g_A6u8 (aL v3)) (lA g_u8 v4))).1).Seen)), .ro 12 ((((gt (F32 (g_TForward (aL v0)) (g_A6u8 (aL v1)) (g_A6u8 (aL v2)) (g_A6u8 (aL v3)) (lA g_u8 v4))).1).Nexts).length) false (enR c_TForwardHop (((gt (F32 (g_TForward (aL v0)) (g_A6u8 (aL v1)) (g_A6u8 (aL v2)) (g_A6u8 (aL v3)) (lA g_u8 v4))).1).Nexts))], .agg (.int .u8 ((((gt (F32 (g_TForward (aL v0)) (g_A6u8 (aL v1)) (g_A6u8 (aL v2)) (g_A6u8 (aL v3)) (lA g_u8 v4))).2.1).From).x0) :: .int .u8 ((((gt (F32 (g_TForward (aL v0)) (g_A6u8 (aL v1)) (g_A6u8 (aL v2)) (g_A6u8 (aL v3)) (lA g_u8 v4))).2.1).From).x1) :: .int .u8 ((((gt (F32 (g_TForward (aL v0)) (g_A6u8 (aL v1)) (g_A6u8 (aL v2)) (g_A6u8 (aL v3)) (lA g_u8 v4))).2.1).From).x2) :: .int .u8 ((((gt (F32 (g_TForward (aL v0)) (g_A6u8 (aL v1)) (g_A6u8 (aL v2)) (g_A6u8 (aL v3)) (lA g_u8 v4))).2.1).From).x3) :: .int .u8 ((((gt (F32 (g_TForward (aL v0)) (g_A6u8 (aL v1)) (g_A6u8 (aL v2)) (g_A6u8 (aL v3)) (lA g_u8 v4))).2.1).From).x4) :: .int .u8 ((((gt (F32 (g_TForward (aL v0)) (g_A6u8 (aL v1)) (g_A6u8 (aL v2)) (g_A6u8 (aL v3)) (lA g_u8 v4))).2.1).From).x5) :: .int .u8 ((((gt (F32 (g_TForward (aL v0)) (g_A6u8 (aL v1)) (g_A6u8 (aL v2)) (g_A6u8 (aL v3)) (lA g_u8 v4))).2.1).To).x0) :: .int .u8 ((((gt (F32 (g_TForward (aL v0)) (g_A6u8 (aL v1)) (g_A6u8 (aL v2)) (g_A6u8 (aL v3)) (lA g_u8 v4))).2.1).To).x1) :: .int .u8 ((((gt (F32 (g_TForward (aL v0)) (g_A6u8 (aL v1)) (g_A6u8 (aL v2)) (g_A6u8 (aL v3)) (lA g_u8 v4))).2.1).To).x2) :: .int .u8 ((((gt (F32 (g_TForward (aL v0)) (g_A6u8 (aL v1)) (g_A6u8 (aL v2)) (g_A6u8 (aL v3)) (lA g_u8 v4))).2.1).To).x3) :: .int .u8 ((((gt (F32 (g_TForward (aL v0)) (g_A6u8 (aL v1)) (g_A6u8 (aL v2)) (g_A6u8 (aL v3)) (lA g_u8 v4))).2.1).To).x4) :: .int .u8 ((((gt (F32 (g_TForward (aL v0)) (g_A6u8 (aL v1)) (g_A6u8 (aL v2)) (g_A6u8 (aL v3)) (lA g_u8 v4))).2.1).To).x5) :: .int .u8 ((((gt (F32 (g_TForward (aL v0)) (g_A6u8 (aL v1)) (g_A6u8 (aL v2)) (g_A6u8 (aL v3)) (lA g_u8 v4))).2.1).Enter).x0) :: .int .u8 ((((gt (F32 (g_TForward (aL v0)) (g_A6u8 (aL v1)) (g_A6u8 (aL v2)) (g_A6u8 (aL v3)) (lA g_u8 v4))).2.1).Enter).x1) :: .int .u8 ((((gt (F32 (g_TForward (aL v0)) (g_A6u8 (aL v1)) (g_A6u8 (aL v2)) (g_A6u8 (aL v3)) (lA g_u8 v4))).2.1).Enter).x2) :: .int .u8 ((((gt (F32 (g_TForward (aL v0)) (g_A6u8 (aL v1)) (g_A6u8 (aL v2)) (g_A6u8 (aL v3)) (lA g_u8 v4))).2.1).Enter).x3) :: .int .u8 ((((gt (F32 (g_TForward (aL v0)) (g_A6u8 (aL v1)) (g_A6u8 (aL v2)) (g_A6u8 (aL v3)) (lA g_u8 v4))).2.1).Enter).x4) :: .int .u8 ((((gt (F32 (g_TForward (aL v0)) (g_A6u8 (aL v1)) (g_A6u8 (aL v2)) (g_A6u8 (aL v3)) (lA g_u8 v4))).2.1).Enter).x5) :: .int .u8 ((((gt (F32 (g_TForward (aL v0)) (g_A6u8 (aL v1)) (g_A6u8 (aL v2)) (g_A6u8 (aL v3)) (lA g_u8 v4))).2.1).Leave).x0) :: .int .u8 ((((gt (F32 (g_TForward (aL v0)) (g_A6u8 (aL v1)) (g_A6u8 (aL v2)) (g_A6u8 (aL v3)) (lA g_u8 v4))).2.1).Leave).x1) :: .int .u8 ((((gt (F32 (g_TForward (aL v0)) (g_A6u8 (aL v1)) (g_A6u8 (aL v2)) (g_A6u8 (aL v3)) (lA g_u8 v4))).2.1).Leave).x2) :: .int .u8 ((((gt (F32 (g_TForward (aL v0)) (g_A6u8 (aL v1)) (g_A6u8 (aL v2)) (g_A6u8 (aL v3)) (lA g_u8 v4))).2.1).Leave).x3) :: .int .u8 ((((gt (F32 (g_TForward (aL v0)) (g_A6u8 (aL v1)) (g_A6u8 (aL v2)) (g_A6u8 (aL v3)) (lA g_u8 v4))).2.1).Leave).x4) :: .int .u8 ((((gt (F32 (g_TForward (aL v0)) (g_A6u8 (aL v1)) (g_A6u8 (aL v2)) (g_A6u8 (aL v3)) (lA g_u8 v4))).2.1).Leave).x5) :: .int .u8 ((((gt (F32 (g_TForward (aL v0)) (g_A6u8 (aL v1)) (g_A6u8 (aL v2)) (g_A6u8 (aL v3)) (lA g_u8 v4))).2.1).Source).x0) :: .int .u8 ((((gt (F32 (g_TForward (aL v0)) (g_A6u8 (aL v1)) (g_A6u8 (aL v2)) (g_A6u8 (aL v3)) (lA g_u8 v4))).2.1).Source).x1) :: .int .u8 ((((gt (F32 (g_TForward (aL v0)) (g_A6u8 (aL v1)) (g_A6u8 (aL v2)) (g_A6u8 (aL v3)) (lA g_u8 v4))).2.1).Source).x2) :: .int .u8 ((((gt (F32 (g_TForward (aL v0)) (g_A6u8 (aL v1)) (g_A6u8 (aL v2)) (g_A6u8 (aL v3)) (lA g_u8 v4))).2.1).Source).x3) :: .int .u8 ((((gt (F32 (g_TForward (aL v0)) (g_A6u8 (aL v1)) (g_A6u8 (aL v2)) (g_A6u8 (aL v3)) (lA g_u8 v4))).2.1).Source).x4) :: .int .u8 ((((gt (F32 (g_TForward (aL v0)) (g_A6u8 (aL v1)) (g_A6u8 (aL v2)) (g_A6u8 (aL v3)) (lA g_u8 v4))).2.1).Source).x5) :: .int .u8 ((((gt (F32 (g_TForward (aL v0)) (g_A6u8 (aL v1)) (g_A6u8 (aL v2)) (g_A6u8 (aL v3)) (lA g_u8 v4))).2.1).Target).x0) :: .int .u8 ((((gt (F32 (g_TForward (aL v0)) (g_A6u8 (aL v1)) (g_A6u8 (aL v2)) (g_A6u8 (aL v3)) (lA g_u8 v4))).2.1).Target).x1) :: .int .u8 ((((gt (F32 (g_TForward (aL v0)) (g_A6u8 (aL v1)) (g_A6u8 (aL v2)) (g_A6u8 (aL v3)) (lA g_u8 v4))).2.1).Target).x2) :: .int .u8 ((((gt (F32 (g_TForward (aL v0)) (g_A6u8 (aL v1)) (g_A6u8 (aL v2)) (g_A6u8 (aL v3)) (lA g_u8 v4))).2.1).Target).x3) :: .int .u8 ((((gt (F32 (g_TForward (aL v0)) (g_A6u8 (aL v1)) (g_A6u8 (aL v2)) (g_A6u8 (aL v3)) (lA g_u8 v4))).2.1).Target).x4) :: .int .u8 ((((gt (F32 (g_TForward (aL v0)) (g_A6u8 (aL v1)) (g_A6u8 (aL v2)) (g_A6u8 (aL v3)) (lA g_u8 v4))).2.1).Target).x5) :: .int .i64 (((gt (F32 (g_TForward (aL v0)) (g_A6u8 (aL v1)) (g_A6u8 (aL v2)) (g_A6u8 (aL v3)) (lA g_u8 v4))).2.1).Seq) :: .int .i64 (((gt (F32 (g_TForward (aL v0)) (g_A6u8 (aL v1)) (g_A6u8 (aL v2)) (g_A6u8 (aL v3)) (lA g_u8 v4))).2.1).Ttl) :: .ro 1 ((((gt (F32 (g_TForward (aL v0)) (g_A6u8 (aL v1)) (g_A6u8 (aL v2)) (g_A6u8 (aL v3)) (lA g_u8 v4))).2.1).Data).length) false (enR c_u8 (((gt (F32 (g_TForward (aL v0)) (g_A6u8 (aL v1)) (g_A6u8 (aL v2)) (g_A6u8 (aL v3)) (lA g_u8 v4))).2.1).Data)) :: []), .int .i64 ((gt (F32 (g_TForward (aL v0)) (g_A6u8 (aL v1)) (g_A6u8 (aL v2)) (g_A6u8 (aL v3)) (lA g_u8 v4))).2.2)])
  | _, _ => .fail
set_option maxHeartbeats 4000000 in
set_option maxRecDepth 20000 in
theorem ok32 : FnOk Try.prog 32 (genC body32) := by
  refine gen_fn body32 (rs := [.cell 10 31, .cell 11 26, .tmp 12]) Try.func32 (by kernel_rfl) rfl rfl ?_
  intro l s ob v ns hb hob
  rcases hb with ⟨hb, rfl⟩ | hb
  · unfold body32 at hb
    split at hb
    · rename_i v0 v1 v2 v3 v4
      injection hb with q1 q2; subst q1 q2
      obtain ⟨hk0_0, hk1_0, hk2_0, hk3_0, hk4_0, hob⟩ := hob
      obtain ⟨r, H⟩ := Option.isSome_iff_exists.1 hob
      rw [H, gt_some]
      have hw0 := wA_TForward hk0_0
      have hw1 := wA_A6u8 hk1_0
      have hw2 := wA_A6u8 hk2_0
      have hw3 := wA_A6u8 hk3_0
      have hw4 := lK_wk (fun r h => w_u8 h) hk4_0
      generalize g_TForward (aL v0) = p0 at H hw0
      generalize g_A6u8 (aL v1) = p1 at H hw1
      generalize g_A6u8 (aL v2) = p2 at H hw2
      generalize g_A6u8 (aL v3) = p3 at H hw3
      generalize lA g_u8 v4 = p4 at H hw4
      refine ⟨[.agg [.int .u8 p0.Own.x0, .int .u8 p0.Own.x1, .int .u8 p0.Own.x2, .int .u8 p0.Own.x3, .int .u8 p0.Own.x4, .int .u8 p0.Own.x5, .int .i64 p0.Seq, .ro 7 p0.Seen.length false (enR c_TForwardMark p0.Seen), .ro 12 p0.Nexts.length false (enR c_TForwardHop p0.Nexts)], .agg [.int .u8 p1.x0, .int .u8 p1.x1, .int .u8 p1.x2, .int .u8 p1.x3, .int .u8 p1.x4, .int .u8 p1.x5], .agg [.int .u8 p2.x0, .int .u8 p2.x1, .int .u8 p2.x2, .int .u8 p2.x3, .int .u8 p2.x4, .int .u8 p2.x5], .agg [.int .u8 p3.x0, .int .u8 p3.x1, .int .u8 p3.x2, .int .u8 p3.x3, .int .u8 p3.x4, .int .u8 p3.x5], .ro 1 p4.length false (enR c_u8 p4)], .tup [.agg [.int .u8 r.1.Own.x0, .int .u8 r.1.Own.x1, .int .u8 r.1.Own.x2, .int .u8 r.1.Own.x3, .int .u8 r.1.Own.x4, .int .u8 r.1.Own.x5, .int .i64 r.1.Seq, .ro 7 r.1.Seen.length false (enR c_TForwardMark r.1.Seen), .ro 12 r.1.Nexts.length false (enR c_TForwardHop r.1.Nexts)], .agg (.int .u8 r.2.1.From.x0 :: .int .u8 r.2.1.From.x1 :: .int .u8 r.2.1.From.x2 :: .int .u8 r.2.1.From.x3 :: .int .u8 r.2.1.From.x4 :: .int .u8 r.2.1.From.x5 :: .int .u8 r.2.1.To.x0 :: .int .u8 r.2.1.To.x1 :: .int .u8 r.2.1.To.x2 :: .int .u8 r.2.1.To.x3 :: .int .u8 r.2.1.To.x4 :: .int .u8 r.2.1.To.x5 :: .int .u8 r.2.1.Enter.x0 :: .int .u8 r.2.1.Enter.x1 :: .int .u8 r.2.1.Enter.x2 :: .int .u8 r.2.1.Enter.x3 :: .int .u8 r.2.1.Enter.x4 :: .int .u8 r.2.1.Enter.x5 :: .int .u8 r.2.1.Leave.x0 :: .int .u8 r.2.1.Leave.x1 :: .int .u8 r.2.1.Leave.x2 :: .int .u8 r.2.1.Leave.x3 :: .int .u8 r.2.1.Leave.x4 :: .int .u8 r.2.1.Leave.x5 :: .int .u8 r.2.1.Source.x0 :: .int .u8 r.2.1.Source.x1 :: .int .u8 r.2.1.Source.x2 :: .int .u8 r.2.1.Source.x3 :: .int .u8 r.2.1.Source.x4 :: .int .u8 r.2.1.Source.x5 :: .int .u8 r.2.1.Target.x0 :: .int .u8 r.2.1.Target.x1 :: .int .u8 r.2.1.Target.x2 :: .int .u8 r.2.1.Target.x3 :: .int .u8 r.2.1.Target.x4 :: .int .u8 r.2.1.Target.x5 :: .int .i64 r.2.1.Seq :: .int .i64 r.2.1.Ttl :: .ro 1 r.2.1.Data.length false (enR c_u8 r.2.1.Data) :: []), .int .i64 r.2.2], [], (fun E vs F => FR_wk1 hw0.1 F (fun vs F => FR_wk1 hw1.1 F (fun vs F => FR_wk1 hw2.1 F (fun vs F => FR_wk1 hw3.1 F (fun vs F => FR_wk1 hw4.1 F (fun vs F => F)))))), by simp only [ren, renL], trivial, ?_⟩
      rw [Try.ntmps32]
      simp only [List.length_cons, List.length_nil, Nat.reduceAdd, Nat.reduceSub, List.replicate_succ, List.replicate_zero, List.cons_append, List.nil_append]
      unfold F32 at H
      try dsimp only at H
      refine sq ctNo_ok ?_
      simp only [go_sem, Nat.reduceLeDiff, Nat.reduceLT, Nat.reduceAdd, Nat.reduceMul, Nat.reduceSub, Nat.reduceEqDiff, Nat.reduceBEq, Int.reduceToNat, reduceCtorEq]
      refine seqM ?_
      obtain ⟨r1, e2, H⟩ := bsi H
      refine rg ct32t0_ok ?_
      simp only [go_sem, Nat.reduceLeDiff, Nat.reduceLT, Nat.reduceAdd, Nat.reduceMul, Nat.reduceSub, Nat.reduceEqDiff, Nat.reduceBEq, Int.reduceToNat, reduceCtorEq, ct32t0_27, body27, e2]
      repeat ((with_reducible refine And.intro ?_ ?_); focus exact an0)
      refine seqM ?_
      obtain ⟨r3, e4, H⟩ := bsi H
      refine rg ct32t1_ok ?_
      simp only [go_sem, Nat.reduceLeDiff, Nat.reduceLT, Nat.reduceAdd, Nat.reduceMul, Nat.reduceSub, Nat.reduceEqDiff, Nat.reduceBEq, Int.reduceToNat, reduceCtorEq, ct32t1_43, body43, e4]
      repeat ((with_reducible refine And.intro ?_ ?_); focus exact an0)
      refine seqM ?_
      refine blkM ?_
      refine sq ctNo_ok ?_
      simp only [go_sem, Nat.reduceLeDiff, Nat.reduceLT, Nat.reduceAdd, Nat.reduceMul, Nat.reduceSub, Nat.reduceEqDiff, Nat.reduceBEq, Int.reduceToNat, reduceCtorEq]
      refine condM rfl trivial (fun hc => ?_) (fun hc => ?_)
      · replace H := cond_t hc H
        refine rg ctNo_ok ?_
        simp only [go_sem, Nat.reduceLeDiff, Nat.reduceLT, Nat.reduceAdd, Nat.reduceMul, Nat.reduceSub, Nat.reduceEqDiff, Nat.reduceBEq, Int.reduceToNat, reduceCtorEq]
        refine seqM ?_
        refine sq ctNo_ok ?_
        simp only [go_sem, Nat.reduceLeDiff, Nat.reduceLT, Nat.reduceAdd, Nat.reduceMul, Nat.reduceSub, Nat.reduceEqDiff, Nat.reduceBEq, Int.reduceToNat, reduceCtorEq]
        refine condM rfl trivial (fun hc => ?_) (fun hc => ?_)
        · replace H := cond_t hc H
          refine sq ctNo_ok ?_
          simp only [go_sem, Nat.reduceLeDiff, Nat.reduceLT, Nat.reduceAdd, Nat.reduceMul, Nat.reduceSub, Nat.reduceEqDiff, Nat.reduceBEq, Int.reduceToNat, reduceCtorEq]
          repeat ((with_reducible refine And.intro ?_ ?_); focus exact an4)
          refine rg ctNo_ok ?_
          simp only [go_sem, Nat.reduceLeDiff, Nat.reduceLT, Nat.reduceAdd, Nat.reduceMul, Nat.reduceSub, Nat.reduceEqDiff, Nat.reduceBEq, Int.reduceToNat, reduceCtorEq]
          obtain rfl := Option.some.inj H
          refine ⟨[0, 1, 2, 3, 4, 5, 6], ?_, ?_, [], ?_, ?_, rfl⟩
          · simp only [go_sem, Nat.reduceEqDiff, Nat.reduceBEq, Nat.reduceAdd]
            try exact at0
          · simp only [go_sem, Nat.reduceEqDiff, Nat.reduceBEq, Nat.reduceAdd]
            try exact at0
          · simp only [go_sem, Nat.reduceEqDiff, Nat.reduceBEq, Nat.reduceAdd]
            exact Cv_tup (CvL_cons (Cv_agg (CvL_cons Cv_int (CvL_cons Cv_int (CvL_cons Cv_int (CvL_cons Cv_int (CvL_cons Cv_int (CvL_cons Cv_int (CvL_cons Cv_int (CvL_cons (Cv_ronil (α := TForwardMark)) (CvL_cons (Cv_ronil (α := TForwardHop)) CvL_nil)))))))))) (CvL_cons (Cv_agg (CvL_cons Cv_int (CvL_cons Cv_int (CvL_cons Cv_int (CvL_cons Cv_int (CvL_cons Cv_int (CvL_cons Cv_int (CvL_cons Cv_int (CvL_cons Cv_int (CvL_cons Cv_int (CvL_cons Cv_int (CvL_cons Cv_int (CvL_cons Cv_int (CvL_cons Cv_int (CvL_cons Cv_int (CvL_cons Cv_int (CvL_cons Cv_int (CvL_cons Cv_int (CvL_cons Cv_int (CvL_cons Cv_int (CvL_cons Cv_int (CvL_cons Cv_int (CvL_cons Cv_int (CvL_cons Cv_int (CvL_cons Cv_int (CvL_cons Cv_int (CvL_cons Cv_int (CvL_cons Cv_int (CvL_cons Cv_int (CvL_cons Cv_int (CvL_cons Cv_int (CvL_cons Cv_int (CvL_cons Cv_int (CvL_cons Cv_int (CvL_cons Cv_int (CvL_cons Cv_int (CvL_cons Cv_int (CvL_cons Cv_int (CvL_cons Cv_int (CvL_cons (Cv_ronil (α := Int)) CvL_nil)))))))))))))))))))))))))))))))))))))))) (CvL_cons Cv_int CvL_nil)))
          · simp only [go_sem, Nat.reduceEqDiff, Nat.reduceBEq, Nat.reduceAdd, CvH]
        replace H := cond_f hc H
        refine rg ctNo_ok ?_
        simp only [go_sem, Nat.reduceLeDiff, Nat.reduceLT, Nat.reduceAdd, Nat.reduceMul, Nat.reduceSub, Nat.reduceEqDiff, Nat.reduceBEq, Int.reduceToNat, reduceCtorEq]
        refine seqM ?_
        obtain ⟨r5, e6, H⟩ := bsi H
        refine draw_rule shT_ok ct32t2_ok 2 (by kernel_rfl) (by kernel_rfl) ?_
        intro an han
        simp only [d_nil, d_cons, nxtD, xrD, xoD, roEq, minL, List.append_nil, refsOp, refs, refsL, mask, maskF, place, placeF, okLog, pairOk, hit, inL, slotsF, ren, renL, rnN, nrH, nrB, nrL, nr, dead0, deadS, List.replicate_zero, List.replicate_succ, Nat.sub_self, Nat.add_zero, Nat.zero_add, Nat.reduceSub, Nat.not_lt_zero, Nat.zero_le, Nat.lt_add_one, go_sem, Nat.reduceLeDiff, Nat.reduceLT, Nat.reduceAdd, Nat.reduceMul, Nat.reduceSub, Nat.reduceEqDiff, Nat.reduceBEq, Int.reduceToNat, reduceCtorEq, ct32t2_37, body37, e6]
        repeat ((with_reducible refine And.intro ?_ ?_); focus exact an1)
        refine sq ctNo_ok ?_
        simp only [go_sem, Nat.reduceLeDiff, Nat.reduceLT, Nat.reduceAdd, Nat.reduceMul, Nat.reduceSub, Nat.reduceEqDiff, Nat.reduceBEq, Int.reduceToNat, reduceCtorEq]
        repeat ((with_reducible refine And.intro ?_ ?_); focus exact an4)
        refine seqM ?_
        obtain ⟨r7, e8, H⟩ := bsi H
        obtain ⟨r9, e10, H⟩ := bsi H
        refine rg ct32t3_ok ?_
        simp only [go_sem, Nat.reduceLeDiff, Nat.reduceLT, Nat.reduceAdd, Nat.reduceMul, Nat.reduceSub, Nat.reduceEqDiff, Nat.reduceBEq, Int.reduceToNat, reduceCtorEq, ct32t3_54, body54_1, ct32t3_55, body55, e8, e10]
        repeat ((with_reducible refine And.intro ?_ ?_); focus exact an0)
        refine seqM ?_
        obtain ⟨r11, e12, H⟩ := bsi H
        refine rg ct32t4_ok ?_
        simp only [go_sem, Nat.reduceLeDiff, Nat.reduceLT, Nat.reduceAdd, Nat.reduceMul, Nat.reduceSub, Nat.reduceEqDiff, Nat.reduceBEq, Int.reduceToNat, reduceCtorEq, ct32t4_42, body42, e12]
        repeat ((with_reducible refine And.intro ?_ ?_); focus exact an0)
        refine sq ctNo_ok ?_
        simp only [go_sem, Nat.reduceLeDiff, Nat.reduceLT, Nat.reduceAdd, Nat.reduceMul, Nat.reduceSub, Nat.reduceEqDiff, Nat.reduceBEq, Int.reduceToNat, reduceCtorEq]
        repeat ((with_reducible refine And.intro ?_ ?_); focus exact an4)
        refine seqM ?_
        refine draw_rule shT_ok ctNo_ok 0 (by kernel_rfl) (by kernel_rfl) ?_
        intro an han
        simp only [d_nil, d_cons, nxtD, xrD, xoD, roEq, minL, List.append_nil, refsOp, refs, refsL, mask, maskF, place, placeF, okLog, pairOk, hit, inL, slotsF, ren, renL, rnN, nrH, nrB, nrL, nr, dead0, deadS, List.replicate_zero, List.replicate_succ, Nat.sub_self, Nat.add_zero, Nat.zero_add, Nat.reduceSub, Nat.not_lt_zero, Nat.zero_le, Nat.lt_add_one, go_sem, Nat.reduceLeDiff, Nat.reduceLT, Nat.reduceAdd, Nat.reduceMul, Nat.reduceSub, Nat.reduceEqDiff, Nat.reduceBEq, Int.reduceToNat, reduceCtorEq]
        repeat ((with_reducible refine And.intro ?_ ?_); focus exact an1)
        refine rg ctNo_ok ?_
        simp only [go_sem, Nat.reduceLeDiff, Nat.reduceLT, Nat.reduceAdd, Nat.reduceMul, Nat.reduceSub, Nat.reduceEqDiff, Nat.reduceBEq, Int.reduceToNat, reduceCtorEq]
        obtain rfl := Option.some.inj H
        refine ⟨[12, 13, 7, 0, 1, 2, 3, 4, 5, 6, 8, 9], ?_, ?_, [], ?_, ?_, rfl⟩
        · simp only [go_sem, Nat.reduceEqDiff, Nat.reduceBEq, Nat.reduceAdd]
          try exact at0
        · simp only [go_sem, Nat.reduceEqDiff, Nat.reduceBEq, Nat.reduceAdd]
          try exact at0
        · simp only [go_sem, Nat.reduceEqDiff, Nat.reduceBEq, Nat.reduceAdd]
          exact Cv_tup (CvL_cons (Cv_agg (CvL_cons Cv_int (CvL_cons Cv_int (CvL_cons Cv_int (CvL_cons Cv_int (CvL_cons Cv_int (CvL_cons Cv_int (CvL_cons Cv_int (CvL_cons (ro_row (by first | rfl | simp) (fun _ _ _ _ => rfl)) (CvL_cons (ro_row (by first | rfl | simp) (fun _ _ _ _ => rfl)) CvL_nil)))))))))) (CvL_cons (Cv_agg (CvL_cons Cv_int (CvL_cons Cv_int (CvL_cons Cv_int (CvL_cons Cv_int (CvL_cons Cv_int (CvL_cons Cv_int (CvL_cons Cv_int (CvL_cons Cv_int (CvL_cons Cv_int (CvL_cons Cv_int (CvL_cons Cv_int (CvL_cons Cv_int (CvL_cons Cv_int (CvL_cons Cv_int (CvL_cons Cv_int (CvL_cons Cv_int (CvL_cons Cv_int (CvL_cons Cv_int (CvL_cons Cv_int (CvL_cons Cv_int (CvL_cons Cv_int (CvL_cons Cv_int (CvL_cons Cv_int (CvL_cons Cv_int (CvL_cons Cv_int (CvL_cons Cv_int (CvL_cons Cv_int (CvL_cons Cv_int (CvL_cons Cv_int (CvL_cons Cv_int (CvL_cons Cv_int (CvL_cons Cv_int (CvL_cons Cv_int (CvL_cons Cv_int (CvL_cons Cv_int (CvL_cons Cv_int (CvL_cons Cv_int (CvL_cons Cv_int (CvL_cons (ro_row (by first | rfl | simp) (fun _ _ _ _ => rfl)) CvL_nil)))))))))))))))))))))))))))))))))))))))) (CvL_cons Cv_int CvL_nil)))
        · simp only [go_sem, Nat.reduceEqDiff, Nat.reduceBEq, Nat.reduceAdd, CvH]
      replace H := cond_f hc H
      refine sq ctNo_ok ?_
      simp only [go_sem, Nat.reduceLeDiff, Nat.reduceLT, Nat.reduceAdd, Nat.reduceMul, Nat.reduceSub, Nat.reduceEqDiff, Nat.reduceBEq, Int.reduceToNat, reduceCtorEq]
      refine condM rfl trivial (fun hc => ?_) (fun hc => ?_)
      · replace H := cond_t hc H
        refine rg ctNo_ok ?_
        simp only [go_sem, Nat.reduceLeDiff, Nat.reduceLT, Nat.reduceAdd, Nat.reduceMul, Nat.reduceSub, Nat.reduceEqDiff, Nat.reduceBEq, Int.reduceToNat, reduceCtorEq]
        refine seqM ?_
        refine sq ctNo_ok ?_
        simp only [go_sem, Nat.reduceLeDiff, Nat.reduceLT, Nat.reduceAdd, Nat.reduceMul, Nat.reduceSub, Nat.reduceEqDiff, Nat.reduceBEq, Int.reduceToNat, reduceCtorEq, (by decide : bEq (2) (0) = false)]
        refine condM rfl trivial (fun hc => ?_) (fun hc => ?_)
        rotate_left
        · cases hc
        refine sq ctNo_ok ?_
        simp only [go_sem, Nat.reduceLeDiff, Nat.reduceLT, Nat.reduceAdd, Nat.reduceMul, Nat.reduceSub, Nat.reduceEqDiff, Nat.reduceBEq, Int.reduceToNat, reduceCtorEq]
        repeat ((with_reducible refine And.intro ?_ ?_); focus exact an4)
        refine rg ctNo_ok ?_
        simp only [go_sem, Nat.reduceLeDiff, Nat.reduceLT, Nat.reduceAdd, Nat.reduceMul, Nat.reduceSub, Nat.reduceEqDiff, Nat.reduceBEq, Int.reduceToNat, reduceCtorEq]
        obtain rfl := Option.some.inj H
        refine ⟨[0, 1, 2, 3, 4, 5, 6], ?_, ?_, [], ?_, ?_, rfl⟩
        · simp only [go_sem, Nat.reduceEqDiff, Nat.reduceBEq, Nat.reduceAdd]
          try exact at0
        · simp only [go_sem, Nat.reduceEqDiff, Nat.reduceBEq, Nat.reduceAdd]
          try exact at0
        · simp only [go_sem, Nat.reduceEqDiff, Nat.reduceBEq, Nat.reduceAdd]
          exact Cv_tup (CvL_cons (Cv_agg (CvL_cons Cv_int (CvL_cons Cv_int (CvL_cons Cv_int (CvL_cons Cv_int (CvL_cons Cv_int (CvL_cons Cv_int (CvL_cons Cv_int (CvL_cons (Cv_ronil (α := TForwardMark)) (CvL_cons (Cv_ronil (α := TForwardHop)) CvL_nil)))))))))) (CvL_cons (Cv_agg (CvL_cons Cv_int (CvL_cons Cv_int (CvL_cons Cv_int (CvL_cons Cv_int (CvL_cons Cv_int (CvL_cons Cv_int (CvL_cons Cv_int (CvL_cons Cv_int (CvL_cons Cv_int (CvL_cons Cv_int (CvL_cons Cv_int (CvL_cons Cv_int (CvL_cons Cv_int (CvL_cons Cv_int (CvL_cons Cv_int (CvL_cons Cv_int (CvL_cons Cv_int (CvL_cons Cv_int (CvL_cons Cv_int (CvL_cons Cv_int (CvL_cons Cv_int (CvL_cons Cv_int (CvL_cons Cv_int (CvL_cons Cv_int (CvL_cons Cv_int (CvL_cons Cv_int (CvL_cons Cv_int (CvL_cons Cv_int (CvL_cons Cv_int (CvL_cons Cv_int (CvL_cons Cv_int (CvL_cons Cv_int (CvL_cons Cv_int (CvL_cons Cv_int (CvL_cons Cv_int (CvL_cons Cv_int (CvL_cons Cv_int (CvL_cons Cv_int (CvL_cons (Cv_ronil (α := Int)) CvL_nil)))))))))))))))))))))))))))))))))))))))) (CvL_cons Cv_int CvL_nil)))
        · simp only [go_sem, Nat.reduceEqDiff, Nat.reduceBEq, Nat.reduceAdd, CvH]
      replace H := cond_f hc H
      refine sq ctNo_ok ?_
      simp only [go_sem, Nat.reduceLeDiff, Nat.reduceLT, Nat.reduceAdd, Nat.reduceMul, Nat.reduceSub, Nat.reduceEqDiff, Nat.reduceBEq, Int.reduceToNat, reduceCtorEq]
      repeat ((with_reducible refine And.intro ?_ ?_); focus exact an0)
      refine condM rfl trivial (fun hc => ?_) (fun hc => ?_)
      · replace H := cond_t hc H
        refine rg ctNo_ok ?_
        simp only [go_sem, Nat.reduceLeDiff, Nat.reduceLT, Nat.reduceAdd, Nat.reduceMul, Nat.reduceSub, Nat.reduceEqDiff, Nat.reduceBEq, Int.reduceToNat, reduceCtorEq]
        refine seqM ?_
        refine sq ctNo_ok ?_
        simp only [go_sem, Nat.reduceLeDiff, Nat.reduceLT, Nat.reduceAdd, Nat.reduceMul, Nat.reduceSub, Nat.reduceEqDiff, Nat.reduceBEq, Int.reduceToNat, reduceCtorEq, (by decide : bEq (4) (0) = false)]
        refine condM rfl trivial (fun hc => ?_) (fun hc => ?_)
        rotate_left
        · cases hc
        refine sq ctNo_ok ?_
        simp only [go_sem, Nat.reduceLeDiff, Nat.reduceLT, Nat.reduceAdd, Nat.reduceMul, Nat.reduceSub, Nat.reduceEqDiff, Nat.reduceBEq, Int.reduceToNat, reduceCtorEq]
        repeat ((with_reducible refine And.intro ?_ ?_); focus exact an4)
        refine rg ctNo_ok ?_
        simp only [go_sem, Nat.reduceLeDiff, Nat.reduceLT, Nat.reduceAdd, Nat.reduceMul, Nat.reduceSub, Nat.reduceEqDiff, Nat.reduceBEq, Int.reduceToNat, reduceCtorEq]
        obtain rfl := Option.some.inj H
        refine ⟨[0, 1, 2, 3, 4, 5, 6], ?_, ?_, [], ?_, ?_, rfl⟩
        · simp only [go_sem, Nat.reduceEqDiff, Nat.reduceBEq, Nat.reduceAdd]
          try exact at0
        · simp only [go_sem, Nat.reduceEqDiff, Nat.reduceBEq, Nat.reduceAdd]
          try exact at0
        · simp only [go_sem, Nat.reduceEqDiff, Nat.reduceBEq, Nat.reduceAdd]
          exact Cv_tup (CvL_cons (Cv_agg (CvL_cons Cv_int (CvL_cons Cv_int (CvL_cons Cv_int (CvL_cons Cv_int (CvL_cons Cv_int (CvL_cons Cv_int (CvL_cons Cv_int (CvL_cons (Cv_ronil (α := TForwardMark)) (CvL_cons (Cv_ronil (α := TForwardHop)) CvL_nil)))))))))) (CvL_cons (Cv_agg (CvL_cons Cv_int (CvL_cons Cv_int (CvL_cons Cv_int (CvL_cons Cv_int (CvL_cons Cv_int (CvL_cons Cv_int (CvL_cons Cv_int (CvL_cons Cv_int (CvL_cons Cv_int (CvL_cons Cv_int (CvL_cons Cv_int (CvL_cons Cv_int (CvL_cons Cv_int (CvL_cons Cv_int (CvL_cons Cv_int (CvL_cons Cv_int (CvL_cons Cv_int (CvL_cons Cv_int (CvL_cons Cv_int (CvL_cons Cv_int (CvL_cons Cv_int (CvL_cons Cv_int (CvL_cons Cv_int (CvL_cons Cv_int (CvL_cons Cv_int (CvL_cons Cv_int (CvL_cons Cv_int (CvL_cons Cv_int (CvL_cons Cv_int (CvL_cons Cv_int (CvL_cons Cv_int (CvL_cons Cv_int (CvL_cons Cv_int (CvL_cons Cv_int (CvL_cons Cv_int (CvL_cons Cv_int (CvL_cons Cv_int (CvL_cons Cv_int (CvL_cons (Cv_ronil (α := Int)) CvL_nil)))))))))))))))))))))))))))))))))))))))) (CvL_cons Cv_int CvL_nil)))
        · simp only [go_sem, Nat.reduceEqDiff, Nat.reduceBEq, Nat.reduceAdd, CvH]
      replace H := cond_f hc H
      refine seqM ?_
      obtain ⟨r13, e14, H⟩ := bsi H
      refine rg ct32t5_ok ?_
      simp only [go_sem, Nat.reduceLeDiff, Nat.reduceLT, Nat.reduceAdd, Nat.reduceMul, Nat.reduceSub, Nat.reduceEqDiff, Nat.reduceBEq, Int.reduceToNat, reduceCtorEq, ct32t5_39, body39, e14]
      repeat ((with_reducible refine And.intro ?_ ?_); focus exact an0)
      refine condM rfl trivial (fun hc => ?_) (fun hc => ?_)
      · replace H := cond_t hc H
        refine rg ctNo_ok ?_
        simp only [go_sem, Nat.reduceLeDiff, Nat.reduceLT, Nat.reduceAdd, Nat.reduceMul, Nat.reduceSub, Nat.reduceEqDiff, Nat.reduceBEq, Int.reduceToNat, reduceCtorEq]
        repeat ((with_reducible refine And.intro ?_ ?_); focus exact an4)
        refine seqM ?_
        refine sq ctNo_ok ?_
        simp only [go_sem, Nat.reduceLeDiff, Nat.reduceLT, Nat.reduceAdd, Nat.reduceMul, Nat.reduceSub, Nat.reduceEqDiff, Nat.reduceBEq, Int.reduceToNat, reduceCtorEq]
        refine condM rfl trivial (fun hc => ?_) (fun hc => ?_)
        · replace H := cond_t hc H
          refine sq ctNo_ok ?_
          simp only [go_sem, Nat.reduceLeDiff, Nat.reduceLT, Nat.reduceAdd, Nat.reduceMul, Nat.reduceSub, Nat.reduceEqDiff, Nat.reduceBEq, Int.reduceToNat, reduceCtorEq]
          repeat ((with_reducible refine And.intro ?_ ?_); focus exact an4)
          refine rg ctNo_ok ?_
          simp only [go_sem, Nat.reduceLeDiff, Nat.reduceLT, Nat.reduceAdd, Nat.reduceMul, Nat.reduceSub, Nat.reduceEqDiff, Nat.reduceBEq, Int.reduceToNat, reduceCtorEq]
          obtain rfl := Option.some.inj H
          refine ⟨[0, 1, 2, 3, 4, 5, 6], ?_, ?_, [], ?_, ?_, rfl⟩
          · simp only [go_sem, Nat.reduceEqDiff, Nat.reduceBEq, Nat.reduceAdd]
            try exact at0
          · simp only [go_sem, Nat.reduceEqDiff, Nat.reduceBEq, Nat.reduceAdd]
            try exact at0
          · simp only [go_sem, Nat.reduceEqDiff, Nat.reduceBEq, Nat.reduceAdd]
            exact Cv_tup (CvL_cons (Cv_agg (CvL_cons Cv_int (CvL_cons Cv_int (CvL_cons Cv_int (CvL_cons Cv_int (CvL_cons Cv_int (CvL_cons Cv_int (CvL_cons Cv_int (CvL_cons (Cv_ronil (α := TForwardMark)) (CvL_cons (Cv_ronil (α := TForwardHop)) CvL_nil)))))))))) (CvL_cons (Cv_agg (CvL_cons Cv_int (CvL_cons Cv_int (CvL_cons Cv_int (CvL_cons Cv_int (CvL_cons Cv_int (CvL_cons Cv_int (CvL_cons Cv_int (CvL_cons Cv_int (CvL_cons Cv_int (CvL_cons Cv_int (CvL_cons Cv_int (CvL_cons Cv_int (CvL_cons Cv_int (CvL_cons Cv_int (CvL_cons Cv_int (CvL_cons Cv_int (CvL_cons Cv_int (CvL_cons Cv_int (CvL_cons Cv_int (CvL_cons Cv_int (CvL_cons Cv_int (CvL_cons Cv_int (CvL_cons Cv_int (CvL_cons Cv_int (CvL_cons Cv_int (CvL_cons Cv_int (CvL_cons Cv_int (CvL_cons Cv_int (CvL_cons Cv_int (CvL_cons Cv_int (CvL_cons Cv_int (CvL_cons Cv_int (CvL_cons Cv_int (CvL_cons Cv_int (CvL_cons Cv_int (CvL_cons Cv_int (CvL_cons Cv_int (CvL_cons Cv_int (CvL_cons (Cv_ronil (α := Int)) CvL_nil)))))))))))))))))))))))))))))))))))))))) (CvL_cons Cv_int CvL_nil)))
          · simp only [go_sem, Nat.reduceEqDiff, Nat.reduceBEq, Nat.reduceAdd, CvH]
        replace H := cond_f hc H
        refine rg ctNo_ok ?_
        simp only [go_sem, Nat.reduceLeDiff, Nat.reduceLT, Nat.reduceAdd, Nat.reduceMul, Nat.reduceSub, Nat.reduceEqDiff, Nat.reduceBEq, Int.reduceToNat, reduceCtorEq]
        refine seqM ?_
        obtain ⟨r15, e16, H⟩ := bsi H
        refine draw_rule shT_ok ct32t2_ok 2 (by kernel_rfl) (by kernel_rfl) ?_
        intro an han
        simp only [d_nil, d_cons, nxtD, xrD, xoD, roEq, minL, List.append_nil, refsOp, refs, refsL, mask, maskF, place, placeF, okLog, pairOk, hit, inL, slotsF, ren, renL, rnN, nrH, nrB, nrL, nr, dead0, deadS, List.replicate_zero, List.replicate_succ, Nat.sub_self, Nat.add_zero, Nat.zero_add, Nat.reduceSub, Nat.not_lt_zero, Nat.zero_le, Nat.lt_add_one, go_sem, Nat.reduceLeDiff, Nat.reduceLT, Nat.reduceAdd, Nat.reduceMul, Nat.reduceSub, Nat.reduceEqDiff, Nat.reduceBEq, Int.reduceToNat, reduceCtorEq, ct32t2_37, body37, e16]
        repeat ((with_reducible refine And.intro ?_ ?_); focus exact an1)
        refine sq ctNo_ok ?_
        simp only [go_sem, Nat.reduceLeDiff, Nat.reduceLT, Nat.reduceAdd, Nat.reduceMul, Nat.reduceSub, Nat.reduceEqDiff, Nat.reduceBEq, Int.reduceToNat, reduceCtorEq]
        repeat ((with_reducible refine And.intro ?_ ?_); focus exact an4)
        refine seqM ?_
        obtain ⟨r17, e18, H⟩ := bsi H
        obtain ⟨r19, e20, H⟩ := bsi H
        refine rg ct32t3_ok ?_
        simp only [go_sem, Nat.reduceLeDiff, Nat.reduceLT, Nat.reduceAdd, Nat.reduceMul, Nat.reduceSub, Nat.reduceEqDiff, Nat.reduceBEq, Int.reduceToNat, reduceCtorEq, ct32t3_54, body54_1, ct32t3_55, body55, e18, e20]
        repeat ((with_reducible refine And.intro ?_ ?_); focus exact an0)
        refine seqM ?_
        obtain ⟨r21, e22, H⟩ := bsi H
        refine rg ct32t4_ok ?_
        simp only [go_sem, Nat.reduceLeDiff, Nat.reduceLT, Nat.reduceAdd, Nat.reduceMul, Nat.reduceSub, Nat.reduceEqDiff, Nat.reduceBEq, Int.reduceToNat, reduceCtorEq, ct32t4_42, body42, e22]
        repeat ((with_reducible refine And.intro ?_ ?_); focus exact an0)
        refine sq ctNo_ok ?_
        simp only [go_sem, Nat.reduceLeDiff, Nat.reduceLT, Nat.reduceAdd, Nat.reduceMul, Nat.reduceSub, Nat.reduceEqDiff, Nat.reduceBEq, Int.reduceToNat, reduceCtorEq]
        repeat ((with_reducible refine And.intro ?_ ?_); focus exact an4)
        refine seqM ?_
        refine draw_rule shT_ok ctNo_ok 0 (by kernel_rfl) (by kernel_rfl) ?_
        intro an han
        simp only [d_nil, d_cons, nxtD, xrD, xoD, roEq, minL, List.append_nil, refsOp, refs, refsL, mask, maskF, place, placeF, okLog, pairOk, hit, inL, slotsF, ren, renL, rnN, nrH, nrB, nrL, nr, dead0, deadS, List.replicate_zero, List.replicate_succ, Nat.sub_self, Nat.add_zero, Nat.zero_add, Nat.reduceSub, Nat.not_lt_zero, Nat.zero_le, Nat.lt_add_one, go_sem, Nat.reduceLeDiff, Nat.reduceLT, Nat.reduceAdd, Nat.reduceMul, Nat.reduceSub, Nat.reduceEqDiff, Nat.reduceBEq, Int.reduceToNat, reduceCtorEq]
        repeat ((with_reducible refine And.intro ?_ ?_); focus exact an1)
        refine rg ctNo_ok ?_
        simp only [go_sem, Nat.reduceLeDiff, Nat.reduceLT, Nat.reduceAdd, Nat.reduceMul, Nat.reduceSub, Nat.reduceEqDiff, Nat.reduceBEq, Int.reduceToNat, reduceCtorEq]
        obtain rfl := Option.some.inj H
        refine ⟨[12, 13, 7, 0, 1, 2, 3, 4, 5, 6, 8, 9], ?_, ?_, [], ?_, ?_, rfl⟩
        · simp only [go_sem, Nat.reduceEqDiff, Nat.reduceBEq, Nat.reduceAdd]
          try exact at0
        · simp only [go_sem, Nat.reduceEqDiff, Nat.reduceBEq, Nat.reduceAdd]
          try exact at0
        · simp only [go_sem, Nat.reduceEqDiff, Nat.reduceBEq, Nat.reduceAdd]
          exact Cv_tup (CvL_cons (Cv_agg (CvL_cons Cv_int (CvL_cons Cv_int (CvL_cons Cv_int (CvL_cons Cv_int (CvL_cons Cv_int (CvL_cons Cv_int (CvL_cons Cv_int (CvL_cons (ro_row (by first | rfl | simp) (fun _ _ _ _ => rfl)) (CvL_cons (ro_row (by first | rfl | simp) (fun _ _ _ _ => rfl)) CvL_nil)))))))))) (CvL_cons (Cv_agg (CvL_cons Cv_int (CvL_cons Cv_int (CvL_cons Cv_int (CvL_cons Cv_int (CvL_cons Cv_int (CvL_cons Cv_int (CvL_cons Cv_int (CvL_cons Cv_int (CvL_cons Cv_int (CvL_cons Cv_int (CvL_cons Cv_int (CvL_cons Cv_int (CvL_cons Cv_int (CvL_cons Cv_int (CvL_cons Cv_int (CvL_cons Cv_int (CvL_cons Cv_int (CvL_cons Cv_int (CvL_cons Cv_int (CvL_cons Cv_int (CvL_cons Cv_int (CvL_cons Cv_int (CvL_cons Cv_int (CvL_cons Cv_int (CvL_cons Cv_int (CvL_cons Cv_int (CvL_cons Cv_int (CvL_cons Cv_int (CvL_cons Cv_int (CvL_cons Cv_int (CvL_cons Cv_int (CvL_cons Cv_int (CvL_cons Cv_int (CvL_cons Cv_int (CvL_cons Cv_int (CvL_cons Cv_int (CvL_cons Cv_int (CvL_cons Cv_int (CvL_cons (ro_row (by first | rfl | simp) (fun _ _ _ _ => rfl)) CvL_nil)))))))))))))))))))))))))))))))))))))))) (CvL_cons Cv_int CvL_nil)))
        · simp only [go_sem, Nat.reduceEqDiff, Nat.reduceBEq, Nat.reduceAdd, CvH]
      replace H := cond_f hc H
      refine sq ctNo_ok ?_
      simp only [go_sem, Nat.reduceLeDiff, Nat.reduceLT, Nat.reduceAdd, Nat.reduceMul, Nat.reduceSub, Nat.reduceEqDiff, Nat.reduceBEq, Int.reduceToNat, reduceCtorEq]
      refine condM rfl trivial (fun hc => ?_) (fun hc => ?_)
      · replace H := cond_t hc H
        refine rg ctNo_ok ?_
        simp only [go_sem, Nat.reduceLeDiff, Nat.reduceLT, Nat.reduceAdd, Nat.reduceMul, Nat.reduceSub, Nat.reduceEqDiff, Nat.reduceBEq, Int.reduceToNat, reduceCtorEq]
        refine seqM ?_
        refine sq ctNo_ok ?_
        simp only [go_sem, Nat.reduceLeDiff, Nat.reduceLT, Nat.reduceAdd, Nat.reduceMul, Nat.reduceSub, Nat.reduceEqDiff, Nat.reduceBEq, Int.reduceToNat, reduceCtorEq, (by decide : bEq (6) (0) = false)]
        refine condM rfl trivial (fun hc => ?_) (fun hc => ?_)
        rotate_left
        · cases hc
        refine sq ctNo_ok ?_
        simp only [go_sem, Nat.reduceLeDiff, Nat.reduceLT, Nat.reduceAdd, Nat.reduceMul, Nat.reduceSub, Nat.reduceEqDiff, Nat.reduceBEq, Int.reduceToNat, reduceCtorEq]
        repeat ((with_reducible refine And.intro ?_ ?_); focus exact an4)
        refine rg ctNo_ok ?_
        simp only [go_sem, Nat.reduceLeDiff, Nat.reduceLT, Nat.reduceAdd, Nat.reduceMul, Nat.reduceSub, Nat.reduceEqDiff, Nat.reduceBEq, Int.reduceToNat, reduceCtorEq]
        obtain rfl := Option.some.inj H
        refine ⟨[0, 1, 2, 3, 4, 5, 6], ?_, ?_, [], ?_, ?_, rfl⟩
        · simp only [go_sem, Nat.reduceEqDiff, Nat.reduceBEq, Nat.reduceAdd]
          try exact at0
        · simp only [go_sem, Nat.reduceEqDiff, Nat.reduceBEq, Nat.reduceAdd]
          try exact at0
        · simp only [go_sem, Nat.reduceEqDiff, Nat.reduceBEq, Nat.reduceAdd]
          exact Cv_tup (CvL_cons (Cv_agg (CvL_cons Cv_int (CvL_cons Cv_int (CvL_cons Cv_int (CvL_cons Cv_int (CvL_cons Cv_int (CvL_cons Cv_int (CvL_cons Cv_int (CvL_cons (Cv_ronil (α := TForwardMark)) (CvL_cons (Cv_ronil (α := TForwardHop)) CvL_nil)))))))))) (CvL_cons (Cv_agg (CvL_cons Cv_int (CvL_cons Cv_int (CvL_cons Cv_int (CvL_cons Cv_int (CvL_cons Cv_int (CvL_cons Cv_int (CvL_cons Cv_int (CvL_cons Cv_int (CvL_cons Cv_int (CvL_cons Cv_int (CvL_cons Cv_int (CvL_cons Cv_int (CvL_cons Cv_int (CvL_cons Cv_int (CvL_cons Cv_int (CvL_cons Cv_int (CvL_cons Cv_int (CvL_cons Cv_int (CvL_cons Cv_int (CvL_cons Cv_int (CvL_cons Cv_int (CvL_cons Cv_int (CvL_cons Cv_int (CvL_cons Cv_int (CvL_cons Cv_int (CvL_cons Cv_int (CvL_cons Cv_int (CvL_cons Cv_int (CvL_cons Cv_int (CvL_cons Cv_int (CvL_cons Cv_int (CvL_cons Cv_int (CvL_cons Cv_int (CvL_cons Cv_int (CvL_cons Cv_int (CvL_cons Cv_int (CvL_cons Cv_int (CvL_cons Cv_int (CvL_cons (Cv_ronil (α := Int)) CvL_nil)))))))))))))))))))))))))))))))))))))))) (CvL_cons Cv_int CvL_nil)))
        · simp only [go_sem, Nat.reduceEqDiff, Nat.reduceBEq, Nat.reduceAdd, CvH]
      replace H := cond_f hc H
      refine rg ctNo_ok ?_
      simp only [go_sem, Nat.reduceLeDiff, Nat.reduceLT, Nat.reduceAdd, Nat.reduceMul, Nat.reduceSub, Nat.reduceEqDiff, Nat.reduceBEq, Int.reduceToNat, reduceCtorEq]
      refine seqM ?_
      refine sq ctNo_ok ?_
      simp only [go_sem, Nat.reduceLeDiff, Nat.reduceLT, Nat.reduceAdd, Nat.reduceMul, Nat.reduceSub, Nat.reduceEqDiff, Nat.reduceBEq, Int.reduceToNat, reduceCtorEq]
      refine condM rfl trivial (fun hc => ?_) (fun hc => ?_)
      · replace H := cond_t hc H
        refine sq ctNo_ok ?_
        simp only [go_sem, Nat.reduceLeDiff, Nat.reduceLT, Nat.reduceAdd, Nat.reduceMul, Nat.reduceSub, Nat.reduceEqDiff, Nat.reduceBEq, Int.reduceToNat, reduceCtorEq]
        repeat ((with_reducible refine And.intro ?_ ?_); focus exact an4)
        refine rg ctNo_ok ?_
        simp only [go_sem, Nat.reduceLeDiff, Nat.reduceLT, Nat.reduceAdd, Nat.reduceMul, Nat.reduceSub, Nat.reduceEqDiff, Nat.reduceBEq, Int.reduceToNat, reduceCtorEq]
        obtain rfl := Option.some.inj H
        refine ⟨[0, 1, 2, 3, 4, 5, 6], ?_, ?_, [], ?_, ?_, rfl⟩
        · simp only [go_sem, Nat.reduceEqDiff, Nat.reduceBEq, Nat.reduceAdd]
          try exact at0
        · simp only [go_sem, Nat.reduceEqDiff, Nat.reduceBEq, Nat.reduceAdd]
          try exact at0
        · simp only [go_sem, Nat.reduceEqDiff, Nat.reduceBEq, Nat.reduceAdd]
          exact Cv_tup (CvL_cons (Cv_agg (CvL_cons Cv_int (CvL_cons Cv_int (CvL_cons Cv_int (CvL_cons Cv_int (CvL_cons Cv_int (CvL_cons Cv_int (CvL_cons Cv_int (CvL_cons (Cv_ronil (α := TForwardMark)) (CvL_cons (Cv_ronil (α := TForwardHop)) CvL_nil)))))))))) (CvL_cons (Cv_agg (CvL_cons Cv_int (CvL_cons Cv_int (CvL_cons Cv_int (CvL_cons Cv_int (CvL_cons Cv_int (CvL_cons Cv_int (CvL_cons Cv_int (CvL_cons Cv_int (CvL_cons Cv_int (CvL_cons Cv_int (CvL_cons Cv_int (CvL_cons Cv_int (CvL_cons Cv_int (CvL_cons Cv_int (CvL_cons Cv_int (CvL_cons Cv_int (CvL_cons Cv_int (CvL_cons Cv_int (CvL_cons Cv_int (CvL_cons Cv_int (CvL_cons Cv_int (CvL_cons Cv_int (CvL_cons Cv_int (CvL_cons Cv_int (CvL_cons Cv_int (CvL_cons Cv_int (CvL_cons Cv_int (CvL_cons Cv_int (CvL_cons Cv_int (CvL_cons Cv_int (CvL_cons Cv_int (CvL_cons Cv_int (CvL_cons Cv_int (CvL_cons Cv_int (CvL_cons Cv_int (CvL_cons Cv_int (CvL_cons Cv_int (CvL_cons Cv_int (CvL_cons (Cv_ronil (α := Int)) CvL_nil)))))))))))))))))))))))))))))))))))))))) (CvL_cons Cv_int CvL_nil)))
        · simp only [go_sem, Nat.reduceEqDiff, Nat.reduceBEq, Nat.reduceAdd, CvH]
      replace H := cond_f hc H
      refine rg ctNo_ok ?_
      simp only [go_sem, Nat.reduceLeDiff, Nat.reduceLT, Nat.reduceAdd, Nat.reduceMul, Nat.reduceSub, Nat.reduceEqDiff, Nat.reduceBEq, Int.reduceToNat, reduceCtorEq]
      refine seqM ?_
      obtain ⟨r23, e24, H⟩ := bsi H
      refine draw_rule shT_ok ct32t2_ok 2 (by kernel_rfl) (by kernel_rfl) ?_
      intro an han
      simp only [d_nil, d_cons, nxtD, xrD, xoD, roEq, minL, List.append_nil, refsOp, refs, refsL, mask, maskF, place, placeF, okLog, pairOk, hit, inL, slotsF, ren, renL, rnN, nrH, nrB, nrL, nr, dead0, deadS, List.replicate_zero, List.replicate_succ, Nat.sub_self, Nat.add_zero, Nat.zero_add, Nat.reduceSub, Nat.not_lt_zero, Nat.zero_le, Nat.lt_add_one, go_sem, Nat.reduceLeDiff, Nat.reduceLT, Nat.reduceAdd, Nat.reduceMul, Nat.reduceSub, Nat.reduceEqDiff, Nat.reduceBEq, Int.reduceToNat, reduceCtorEq, ct32t2_37, body37, e24]
      repeat ((with_reducible refine And.intro ?_ ?_); focus exact an1)
      refine sq ctNo_ok ?_
      simp only [go_sem, Nat.reduceLeDiff, Nat.reduceLT, Nat.reduceAdd, Nat.reduceMul, Nat.reduceSub, Nat.reduceEqDiff, Nat.reduceBEq, Int.reduceToNat, reduceCtorEq]
      repeat ((with_reducible refine And.intro ?_ ?_); focus exact an4)
      refine seqM ?_
      obtain ⟨r25, e26, H⟩ := bsi H
      obtain ⟨r27, e28, H⟩ := bsi H
      refine rg ct32t3_ok ?_
      simp only [go_sem, Nat.reduceLeDiff, Nat.reduceLT, Nat.reduceAdd, Nat.reduceMul, Nat.reduceSub, Nat.reduceEqDiff, Nat.reduceBEq, Int.reduceToNat, reduceCtorEq, ct32t3_54, body54_1, ct32t3_55, body55, e26, e28]
      repeat ((with_reducible refine And.intro ?_ ?_); focus exact an0)
      refine seqM ?_
      obtain ⟨r29, e30, H⟩ := bsi H
      refine rg ct32t4_ok ?_
      simp only [go_sem, Nat.reduceLeDiff, Nat.reduceLT, Nat.reduceAdd, Nat.reduceMul, Nat.reduceSub, Nat.reduceEqDiff, Nat.reduceBEq, Int.reduceToNat, reduceCtorEq, ct32t4_42, body42, e30]
      repeat ((with_reducible refine And.intro ?_ ?_); focus exact an0)
      refine sq ctNo_ok ?_
      simp only [go_sem, Nat.reduceLeDiff, Nat.reduceLT, Nat.reduceAdd, Nat.reduceMul, Nat.reduceSub, Nat.reduceEqDiff, Nat.reduceBEq, Int.reduceToNat, reduceCtorEq]
      repeat ((with_reducible refine And.intro ?_ ?_); focus exact an4)
      refine seqM ?_
      refine draw_rule shT_ok ctNo_ok 0 (by kernel_rfl) (by kernel_rfl) ?_
      intro an han
      simp only [d_nil, d_cons, nxtD, xrD, xoD, roEq, minL, List.append_nil, refsOp, refs, refsL, mask, maskF, place, placeF, okLog, pairOk, hit, inL, slotsF, ren, renL, rnN, nrH, nrB, nrL, nr, dead0, deadS, List.replicate_zero, List.replicate_succ, Nat.sub_self, Nat.add_zero, Nat.zero_add, Nat.reduceSub, Nat.not_lt_zero, Nat.zero_le, Nat.lt_add_one, go_sem, Nat.reduceLeDiff, Nat.reduceLT, Nat.reduceAdd, Nat.reduceMul, Nat.reduceSub, Nat.reduceEqDiff, Nat.reduceBEq, Int.reduceToNat, reduceCtorEq]
      repeat ((with_reducible refine And.intro ?_ ?_); focus exact an1)
      refine rg ctNo_ok ?_
      simp only [go_sem, Nat.reduceLeDiff, Nat.reduceLT, Nat.reduceAdd, Nat.reduceMul, Nat.reduceSub, Nat.reduceEqDiff, Nat.reduceBEq, Int.reduceToNat, reduceCtorEq]
      obtain rfl := Option.some.inj H
      refine ⟨[12, 13, 7, 0, 1, 2, 3, 4, 5, 6, 8, 9], ?_, ?_, [], ?_, ?_, rfl⟩
      · simp only [go_sem, Nat.reduceEqDiff, Nat.reduceBEq, Nat.reduceAdd]
        try exact at0
      · simp only [go_sem, Nat.reduceEqDiff, Nat.reduceBEq, Nat.reduceAdd]
        try exact at0
      · simp only [go_sem, Nat.reduceEqDiff, Nat.reduceBEq, Nat.reduceAdd]
        exact Cv_tup (CvL_cons (Cv_agg (CvL_cons Cv_int (CvL_cons Cv_int (CvL_cons Cv_int (CvL_cons Cv_int (CvL_cons Cv_int (CvL_cons Cv_int (CvL_cons Cv_int (CvL_cons (ro_row (by first | rfl | simp) (fun _ _ _ _ => rfl)) (CvL_cons (ro_row (by first | rfl | simp) (fun _ _ _ _ => rfl)) CvL_nil)))))))))) (CvL_cons (Cv_agg (CvL_cons Cv_int (CvL_cons Cv_int (CvL_cons Cv_int (CvL_cons Cv_int (CvL_cons Cv_int (CvL_cons Cv_int (CvL_cons Cv_int (CvL_cons Cv_int (CvL_cons Cv_int (CvL_cons Cv_int (CvL_cons Cv_int (CvL_cons Cv_int (CvL_cons Cv_int (CvL_cons Cv_int (CvL_cons Cv_int (CvL_cons Cv_int (CvL_cons Cv_int (CvL_cons Cv_int (CvL_cons Cv_int (CvL_cons Cv_int (CvL_cons Cv_int (CvL_cons Cv_int (CvL_cons Cv_int (CvL_cons Cv_int (CvL_cons Cv_int (CvL_cons Cv_int (CvL_cons Cv_int (CvL_cons Cv_int (CvL_cons Cv_int (CvL_cons Cv_int (CvL_cons Cv_int (CvL_cons Cv_int (CvL_cons Cv_int (CvL_cons Cv_int (CvL_cons Cv_int (CvL_cons Cv_int (CvL_cons Cv_int (CvL_cons Cv_int (CvL_cons (ro_row (by first | rfl | simp) (fun _ _ _ _ => rfl)) CvL_nil)))))))))))))))))))))))))))))))))))))))) (CvL_cons Cv_int CvL_nil)))
      · simp only [go_sem, Nat.reduceEqDiff, Nat.reduceBEq, Nat.reduceAdd, CvH]
    · cases hb
  · unfold body32 at hb
    split at hb <;> cases hb
end Go.Proofs.Ytbahnppiobafoaa
