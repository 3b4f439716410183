/-
  What TriggerMap reaches.
-/
import Derived.Test.YtnclkplbeenmdaaY9p1
namespace Go.Proofs.Ytnclkplbeenmdaa
open Go.Am
set_option linter.unusedVariables false
set_option linter.unusedSimpArgs false
/-! hotspot/trigger.Begin -/
noncomputable def ct29t0 : Ct := tab [(20, pureC body20), (34, pureC body34)]
theorem ct29t0_ok : CtOk Try.prog ct29t0 := tab_cons ok20 <| tab_cons ok34 <| tab_nil
theorem ct29t0_20 (l : List AV) (h : List ABlk) : ct29t0 20 l h = pureC body20 l h := rfl
theorem ct29t0_34 (l : List AV) (h : List ABlk) : ct29t0 34 l h = pureC body34 l h := rfl
noncomputable def ct29t1 : Ct := tab [(52, pureC body52_1)]
theorem ct29t1_ok : CtOk Try.prog ct29t1 := tab_cons ok52_1 <| tab_nil
theorem ct29t1_52 (l : List AV) (h : List ABlk) : ct29t1 52 l h = pureC body52_1 l h := rfl
noncomputable def ct29t2 (gi : Nat) : Ct := tab [(54, genC (body54f gi))]
theorem ct29t2_ok (gi : Nat) : CtOk Try.prog (ct29t2 gi) := tab_cons (ok54f gi) <| tab_nil
theorem ct29t2_54 (gi : Nat) (l : List AV) (h : List ABlk) : (ct29t2 gi) 54 l h = genC (body54f gi) l h := rfl
noncomputable def ct29t3 : Ct := tab [(56, pureC body56_0)]
theorem ct29t3_ok : CtOk Try.prog ct29t3 := tab_cons ok56_0 <| tab_nil
theorem ct29t3_56 (l : List AV) (h : List ABlk) : ct29t3 56 l h = pureC body56_0 l h := rfl
noncomputable def ct29t4 : Ct := tab [(73, delN 73 43)]
theorem ct29t4_ok : CtOk Try.prog ct29t4 := tab_cons ok73 <| tab_nil
theorem ct29t4_73 (l : List AV) (h : List ABlk) : ct29t4 73 l h = delN 73 43 l h := rfl
noncomputable def ct29t5 : Ct := tab [(49, pureC body49_0)]
theorem ct29t5_ok : CtOk Try.prog ct29t5 := tab_cons ok49_0 <| tab_nil
theorem ct29t5_49 (l : List AV) (h : List ABlk) : ct29t5 49 l h = pureC body49_0 l h := rfl
noncomputable def ct29t6 : Ct := tab [(57, edC body57)]
theorem ct29t6_ok : CtOk Try.prog ct29t6 := tab_cons ok57 <| tab_nil
theorem ct29t6_57 (l : List AV) (h : List ABlk) : ct29t6 57 l h = edC body57 l h := rfl
noncomputable def F29_L2 (p1 : TTriggerPlan) (v1_2 : List TStored) (v2_1 : Int) (v2_2 : Int) : Option (Lp (Int × Int) ((Int) ⊕ (TPeriod × TBuffer × Int))) :=
  bif (bLt v2_2 (v1_2.length : Nat)) then (need (inb v2_2 v1_2.length) <| (F56_0 p1.Deliver (TStored.mk ((gd v1_2 v2_2.toNat).Cat) ((gd v1_2 v2_2.toNat).At) (TFrame.mk (THeader.mk ((((gd v1_2 v2_2.toNat).Frame).Head).Kind) ((((gd v1_2 v2_2.toNat).Frame).Head).Sub) ((((gd v1_2 v2_2.toNat).Frame).Head).ToDs) ((((gd v1_2 v2_2.toNat).Frame).Head).FromDs) ((((gd v1_2 v2_2.toNat).Frame).Head).More) ((((gd v1_2 v2_2.toNat).Frame).Head).Retry) ((((gd v1_2 v2_2.toNat).Frame).Head).Sleep) ((((gd v1_2 v2_2.toNat).Frame).Head).MoreData) ((((gd v1_2 v2_2.toNat).Frame).Head).Protected) ((((gd v1_2 v2_2.toNat).Frame).Head).Duration) (A6u8.mk (((((gd v1_2 v2_2.toNat).Frame).Head).A1).x0) (((((gd v1_2 v2_2.toNat).Frame).Head).A1).x1) (((((gd v1_2 v2_2.toNat).Frame).Head).A1).x2) (((((gd v1_2 v2_2.toNat).Frame).Head).A1).x3) (((((gd v1_2 v2_2.toNat).Frame).Head).A1).x4) (((((gd v1_2 v2_2.toNat).Frame).Head).A1).x5)) (A6u8.mk (((((gd v1_2 v2_2.toNat).Frame).Head).A2).x0) (((((gd v1_2 v2_2.toNat).Frame).Head).A2).x1) (((((gd v1_2 v2_2.toNat).Frame).Head).A2).x2) (((((gd v1_2 v2_2.toNat).Frame).Head).A2).x3) (((((gd v1_2 v2_2.toNat).Frame).Head).A2).x4) (((((gd v1_2 v2_2.toNat).Frame).Head).A2).x5)) (A6u8.mk (((((gd v1_2 v2_2.toNat).Frame).Head).A3).x0) (((((gd v1_2 v2_2.toNat).Frame).Head).A3).x1) (((((gd v1_2 v2_2.toNat).Frame).Head).A3).x2) (((((gd v1_2 v2_2.toNat).Frame).Head).A3).x3) (((((gd v1_2 v2_2.toNat).Frame).Head).A3).x4) (((((gd v1_2 v2_2.toNat).Frame).Head).A3).x5)) (A6u8.mk (((((gd v1_2 v2_2.toNat).Frame).Head).A4).x0) (((((gd v1_2 v2_2.toNat).Frame).Head).A4).x1) (((((gd v1_2 v2_2.toNat).Frame).Head).A4).x2) (((((gd v1_2 v2_2.toNat).Frame).Head).A4).x3) (((((gd v1_2 v2_2.toNat).Frame).Head).A4).x4) (((((gd v1_2 v2_2.toNat).Frame).Head).A4).x5)) ((((gd v1_2 v2_2.toNat).Frame).Head).Seq) ((((gd v1_2 v2_2.toNat).Frame).Head).Frag) ((((gd v1_2 v2_2.toNat).Frame).Head).Tid) ((((gd v1_2 v2_2.toNat).Frame).Head).Ack) ((((gd v1_2 v2_2.toNat).Frame).Head).Amsdu) ((((gd v1_2 v2_2.toNat).Frame).Head).Eosp)) (((gd v1_2 v2_2.toNat).Frame).Body)))).bind fun r11 => need (bif (r11 && (!(bLt v2_1 0))) then inb v2_1 v1_2.length else true) <| bif (r11 && ((bLt v2_1 0) || (bLt ((gd v1_2 v2_1.toNat).Cat) ((gd v1_2 v2_2.toNat).Cat)))) then (some (.next (v2_2, wr .i64 (v2_2 + 1)))) else (some (.next (v2_1, wr .i64 (v2_2 + 1))))) else (some (.done (.inl v2_1)))
noncomputable def F29_L1 (p1 : TTriggerPlan) (v1_1 : List TFrame) (v1_2 : List TStored) : Option (Lp ((List TFrame) × (List TStored)) (((List TFrame) × (List TStored)) ⊕ (TPeriod × TBuffer × Int))) :=
  bif ((bEq p1.Most 0) || (bLt (v1_1.length : Nat) p1.Most)) then (lp (loopD (fun s => F29_L2 p1 v1_2 s.1 s.2) ((-1), 0)) (fun w2_3 => bif (bLt w2_3 0) then (some (.done (.inl (v1_1, v1_2)))) else (need (inb w2_3 v1_2.length) <| need (delb w2_3 (wr .i64 (w2_3 + 1)) v1_2.length) <| (some (delL v1_2 w2_3 (wr .i64 (w2_3 + 1)))).bind fun w16 => need (capb 104 (v1_1.length + 1)) <| some (.next ((v1_1 ++ [(TFrame.mk (THeader.mk ((((gd v1_2 w2_3.toNat).Frame).Head).Kind) ((((gd v1_2 w2_3.toNat).Frame).Head).Sub) ((((gd v1_2 w2_3.toNat).Frame).Head).ToDs) ((((gd v1_2 w2_3.toNat).Frame).Head).FromDs) ((((gd v1_2 w2_3.toNat).Frame).Head).More) ((((gd v1_2 w2_3.toNat).Frame).Head).Retry) ((((gd v1_2 w2_3.toNat).Frame).Head).Sleep) true ((((gd v1_2 w2_3.toNat).Frame).Head).Protected) ((((gd v1_2 w2_3.toNat).Frame).Head).Duration) (A6u8.mk (((((gd v1_2 w2_3.toNat).Frame).Head).A1).x0) (((((gd v1_2 w2_3.toNat).Frame).Head).A1).x1) (((((gd v1_2 w2_3.toNat).Frame).Head).A1).x2) (((((gd v1_2 w2_3.toNat).Frame).Head).A1).x3) (((((gd v1_2 w2_3.toNat).Frame).Head).A1).x4) (((((gd v1_2 w2_3.toNat).Frame).Head).A1).x5)) (A6u8.mk (((((gd v1_2 w2_3.toNat).Frame).Head).A2).x0) (((((gd v1_2 w2_3.toNat).Frame).Head).A2).x1) (((((gd v1_2 w2_3.toNat).Frame).Head).A2).x2) (((((gd v1_2 w2_3.toNat).Frame).Head).A2).x3) (((((gd v1_2 w2_3.toNat).Frame).Head).A2).x4) (((((gd v1_2 w2_3.toNat).Frame).Head).A2).x5)) (A6u8.mk (((((gd v1_2 w2_3.toNat).Frame).Head).A3).x0) (((((gd v1_2 w2_3.toNat).Frame).Head).A3).x1) (((((gd v1_2 w2_3.toNat).Frame).Head).A3).x2) (((((gd v1_2 w2_3.toNat).Frame).Head).A3).x3) (((((gd v1_2 w2_3.toNat).Frame).Head).A3).x4) (((((gd v1_2 w2_3.toNat).Frame).Head).A3).x5)) (A6u8.mk (((((gd v1_2 w2_3.toNat).Frame).Head).A4).x0) (((((gd v1_2 w2_3.toNat).Frame).Head).A4).x1) (((((gd v1_2 w2_3.toNat).Frame).Head).A4).x2) (((((gd v1_2 w2_3.toNat).Frame).Head).A4).x3) (((((gd v1_2 w2_3.toNat).Frame).Head).A4).x4) (((((gd v1_2 w2_3.toNat).Frame).Head).A4).x5)) ((((gd v1_2 w2_3.toNat).Frame).Head).Seq) ((((gd v1_2 w2_3.toNat).Frame).Head).Frag) ((((gd v1_2 w2_3.toNat).Frame).Head).Tid) ((((gd v1_2 w2_3.toNat).Frame).Head).Ack) ((((gd v1_2 w2_3.toNat).Frame).Head).Amsdu) false) (((gd v1_2 w2_3.toNat).Frame).Body))]), w16)))) (fun r => some (.done (.inr r)))) else (some (.done (.inl (v1_1, v1_2))))
noncomputable def F29 (p0 : TBuffer) (p1 : TTriggerPlan) (p2 : Int) (p3 : A6u8) (p4 : A6u8) : Option (TPeriod × TBuffer × Int) :=
  (F34 p0).bind fun r1 => need (bif (!(!bEq r1 0)) then ((F20 p1).isSome) else true) <| bif ((!bEq r1 0) || (!bEq (gt (F20 p1)) 0)) then (some ((TPeriod.mk 0 []), (TBuffer.mk 0 0 [] []), 8)) else (bif ((bLt p2 1) || (bLt 255 p2)) then (some ((TPeriod.mk 0 []), (TBuffer.mk 0 0 [] []), 2)) else ((F52_1 p0.List p2).bind fun r4 => bif (bLt r4 0) then (some ((TPeriod.mk 0 []), (TBuffer.mk 0 0 [] []), 6)) else (need (inb r4 p0.List.length) <| bif (!((gd p0.List r4.toNat).Asleep)) then (some ((TPeriod.mk 0 []), (TBuffer.mk 0 0 [] []), 20)) else ((F54f r4.toNat p0).bind fun r7 => need (inb r4 r7.List.length) <| lp (loopD (fun s => F29_L1 p1 s.1 s.2) ([], (gd r7.List r4.toNat).Held)) (fun e => need (inb r4 r7.List.length) <| (F49_0 e.2 p1.Deliver).bind fun r20 => bif (bEq (e.1.length : Nat) 0) then ((F57 p3 p4).bind fun r22 => need (inb 0 1) <| (some (r7.List.set r4.toNat (TSleeper.mk ((gd r7.List r4.toNat).Aid) ((gd r7.List r4.toNat).Asleep) e.2))).bind fun w25 => (some (([r22].set 0 (TFrame.mk (THeader.mk (((gd [r22] 0).Head).Kind) (((gd [r22] 0).Head).Sub) (((gd [r22] 0).Head).ToDs) (((gd [r22] 0).Head).FromDs) (((gd [r22] 0).Head).More) (((gd [r22] 0).Head).Retry) (((gd [r22] 0).Head).Sleep) (((gd [r22] 0).Head).MoreData) (((gd [r22] 0).Head).Protected) (((gd [r22] 0).Head).Duration) (A6u8.mk ((((gd [r22] 0).Head).A1).x0) ((((gd [r22] 0).Head).A1).x1) ((((gd [r22] 0).Head).A1).x2) ((((gd [r22] 0).Head).A1).x3) ((((gd [r22] 0).Head).A1).x4) ((((gd [r22] 0).Head).A1).x5)) (A6u8.mk ((((gd [r22] 0).Head).A2).x0) ((((gd [r22] 0).Head).A2).x1) ((((gd [r22] 0).Head).A2).x2) ((((gd [r22] 0).Head).A2).x3) ((((gd [r22] 0).Head).A2).x4) ((((gd [r22] 0).Head).A2).x5)) (A6u8.mk ((((gd [r22] 0).Head).A3).x0) ((((gd [r22] 0).Head).A3).x1) ((((gd [r22] 0).Head).A3).x2) ((((gd [r22] 0).Head).A3).x3) ((((gd [r22] 0).Head).A3).x4) ((((gd [r22] 0).Head).A3).x5)) (A6u8.mk ((((gd [r22] 0).Head).A4).x0) ((((gd [r22] 0).Head).A4).x1) ((((gd [r22] 0).Head).A4).x2) ((((gd [r22] 0).Head).A4).x3) ((((gd [r22] 0).Head).A4).x4) ((((gd [r22] 0).Head).A4).x5)) (((gd [r22] 0).Head).Seq) (((gd [r22] 0).Head).Frag) (((gd [r22] 0).Head).Tid) (((gd [r22] 0).Head).Ack) (((gd [r22] 0).Head).Amsdu) true) ((gd [r22] 0).Body))).set 0 ((fun qq24 => (TFrame.mk (THeader.mk qq24.Head.Kind qq24.Head.Sub qq24.Head.ToDs qq24.Head.FromDs qq24.Head.More qq24.Head.Retry qq24.Head.Sleep false qq24.Head.Protected qq24.Head.Duration (A6u8.mk qq24.Head.A1.x0 qq24.Head.A1.x1 qq24.Head.A1.x2 qq24.Head.A1.x3 qq24.Head.A1.x4 qq24.Head.A1.x5) (A6u8.mk qq24.Head.A2.x0 qq24.Head.A2.x1 qq24.Head.A2.x2 qq24.Head.A2.x3 qq24.Head.A2.x4 qq24.Head.A2.x5) (A6u8.mk qq24.Head.A3.x0 qq24.Head.A3.x1 qq24.Head.A3.x2 qq24.Head.A3.x3 qq24.Head.A3.x4 qq24.Head.A3.x5) (A6u8.mk qq24.Head.A4.x0 qq24.Head.A4.x1 qq24.Head.A4.x2 qq24.Head.A4.x3 qq24.Head.A4.x4 qq24.Head.A4.x5) qq24.Head.Seq qq24.Head.Frag qq24.Head.Tid qq24.Head.Ack qq24.Head.Amsdu qq24.Head.Eosp) qq24.Body)) (gd ([r22].set 0 (TFrame.mk (THeader.mk (((gd [r22] 0).Head).Kind) (((gd [r22] 0).Head).Sub) (((gd [r22] 0).Head).ToDs) (((gd [r22] 0).Head).FromDs) (((gd [r22] 0).Head).More) (((gd [r22] 0).Head).Retry) (((gd [r22] 0).Head).Sleep) (((gd [r22] 0).Head).MoreData) (((gd [r22] 0).Head).Protected) (((gd [r22] 0).Head).Duration) (A6u8.mk ((((gd [r22] 0).Head).A1).x0) ((((gd [r22] 0).Head).A1).x1) ((((gd [r22] 0).Head).A1).x2) ((((gd [r22] 0).Head).A1).x3) ((((gd [r22] 0).Head).A1).x4) ((((gd [r22] 0).Head).A1).x5)) (A6u8.mk ((((gd [r22] 0).Head).A2).x0) ((((gd [r22] 0).Head).A2).x1) ((((gd [r22] 0).Head).A2).x2) ((((gd [r22] 0).Head).A2).x3) ((((gd [r22] 0).Head).A2).x4) ((((gd [r22] 0).Head).A2).x5)) (A6u8.mk ((((gd [r22] 0).Head).A3).x0) ((((gd [r22] 0).Head).A3).x1) ((((gd [r22] 0).Head).A3).x2) ((((gd [r22] 0).Head).A3).x3) ((((gd [r22] 0).Head).A3).x4) ((((gd [r22] 0).Head).A3).x5)) (A6u8.mk ((((gd [r22] 0).Head).A4).x0) ((((gd [r22] 0).Head).A4).x1) ((((gd [r22] 0).Head).A4).x2) ((((gd [r22] 0).Head).A4).x3) ((((gd [r22] 0).Head).A4).x4) ((((gd [r22] 0).Head).A4).x5)) (((gd [r22] 0).Head).Seq) (((gd [r22] 0).Head).Frag) (((gd [r22] 0).Head).Tid) (((gd [r22] 0).Head).Ack) (((gd [r22] 0).Head).Amsdu) true) ((gd [r22] 0).Body))) 0)))).bind fun w27 => some ((TPeriod.mk p2 w27), (TBuffer.mk r7.Limit r7.Stay w25 r7.Group), 0)) else (need (inb (wr .i64 ((e.1.length : Nat) - 1)) e.1.length) <| (some (r7.List.set r4.toNat (TSleeper.mk ((gd r7.List r4.toNat).Aid) ((gd r7.List r4.toNat).Asleep) e.2))).bind fun w30 => (some ((e.1.set ((wr .i64 ((e.1.length : Nat) - 1)).toNat) (TFrame.mk (THeader.mk (((gd e.1 ((wr .i64 ((e.1.length : Nat) - 1)).toNat)).Head).Kind) (((gd e.1 ((wr .i64 ((e.1.length : Nat) - 1)).toNat)).Head).Sub) (((gd e.1 ((wr .i64 ((e.1.length : Nat) - 1)).toNat)).Head).ToDs) (((gd e.1 ((wr .i64 ((e.1.length : Nat) - 1)).toNat)).Head).FromDs) (((gd e.1 ((wr .i64 ((e.1.length : Nat) - 1)).toNat)).Head).More) (((gd e.1 ((wr .i64 ((e.1.length : Nat) - 1)).toNat)).Head).Retry) (((gd e.1 ((wr .i64 ((e.1.length : Nat) - 1)).toNat)).Head).Sleep) (((gd e.1 ((wr .i64 ((e.1.length : Nat) - 1)).toNat)).Head).MoreData) (((gd e.1 ((wr .i64 ((e.1.length : Nat) - 1)).toNat)).Head).Protected) (((gd e.1 ((wr .i64 ((e.1.length : Nat) - 1)).toNat)).Head).Duration) (A6u8.mk ((((gd e.1 ((wr .i64 ((e.1.length : Nat) - 1)).toNat)).Head).A1).x0) ((((gd e.1 ((wr .i64 ((e.1.length : Nat) - 1)).toNat)).Head).A1).x1) ((((gd e.1 ((wr .i64 ((e.1.length : Nat) - 1)).toNat)).Head).A1).x2) ((((gd e.1 ((wr .i64 ((e.1.length : Nat) - 1)).toNat)).Head).A1).x3) ((((gd e.1 ((wr .i64 ((e.1.length : Nat) - 1)).toNat)).Head).A1).x4) ((((gd e.1 ((wr .i64 ((e.1.length : Nat) - 1)).toNat)).Head).A1).x5)) (A6u8.mk ((((gd e.1 ((wr .i64 ((e.1.length : Nat) - 1)).toNat)).Head).A2).x0) ((((gd e.1 ((wr .i64 ((e.1.length : Nat) - 1)).toNat)).Head).A2).x1) ((((gd e.1 ((wr .i64 ((e.1.length : Nat) - 1)).toNat)).Head).A2).x2) ((((gd e.1 ((wr .i64 ((e.1.length : Nat) - 1)).toNat)).Head).A2).x3) ((((gd e.1 ((wr .i64 ((e.1.length : Nat) - 1)).toNat)).Head).A2).x4) ((((gd e.1 ((wr .i64 ((e.1.length : Nat) - 1)).toNat)).Head).A2).x5)) (A6u8.mk ((((gd e.1 ((wr .i64 ((e.1.length : Nat) - 1)).toNat)).Head).A3).x0) ((((gd e.1 ((wr .i64 ((e.1.length : Nat) - 1)).toNat)).Head).A3).x1) ((((gd e.1 ((wr .i64 ((e.1.length : Nat) - 1)).toNat)).Head).A3).x2) ((((gd e.1 ((wr .i64 ((e.1.length : Nat) - 1)).toNat)).Head).A3).x3) ((((gd e.1 ((wr .i64 ((e.1.length : Nat) - 1)).toNat)).Head).A3).x4) ((((gd e.1 ((wr .i64 ((e.1.length : Nat) - 1)).toNat)).Head).A3).x5)) (A6u8.mk ((((gd e.1 ((wr .i64 ((e.1.length : Nat) - 1)).toNat)).Head).A4).x0) ((((gd e.1 ((wr .i64 ((e.1.length : Nat) - 1)).toNat)).Head).A4).x1) ((((gd e.1 ((wr .i64 ((e.1.length : Nat) - 1)).toNat)).Head).A4).x2) ((((gd e.1 ((wr .i64 ((e.1.length : Nat) - 1)).toNat)).Head).A4).x3) ((((gd e.1 ((wr .i64 ((e.1.length : Nat) - 1)).toNat)).Head).A4).x4) ((((gd e.1 ((wr .i64 ((e.1.length : Nat) - 1)).toNat)).Head).A4).x5)) (((gd e.1 ((wr .i64 ((e.1.length : Nat) - 1)).toNat)).Head).Seq) (((gd e.1 ((wr .i64 ((e.1.length : Nat) - 1)).toNat)).Head).Frag) (((gd e.1 ((wr .i64 ((e.1.length : Nat) - 1)).toNat)).Head).Tid) (((gd e.1 ((wr .i64 ((e.1.length : Nat) - 1)).toNat)).Head).Ack) (((gd e.1 ((wr .i64 ((e.1.length : Nat) - 1)).toNat)).Head).Amsdu) true) ((gd e.1 ((wr .i64 ((e.1.length : Nat) - 1)).toNat)).Body))).set ((wr .i64 ((e.1.length : Nat) - 1)).toNat) ((fun qq29 => (TFrame.mk (THeader.mk qq29.Head.Kind qq29.Head.Sub qq29.Head.ToDs qq29.Head.FromDs qq29.Head.More qq29.Head.Retry qq29.Head.Sleep r20 qq29.Head.Protected qq29.Head.Duration (A6u8.mk qq29.Head.A1.x0 qq29.Head.A1.x1 qq29.Head.A1.x2 qq29.Head.A1.x3 qq29.Head.A1.x4 qq29.Head.A1.x5) (A6u8.mk qq29.Head.A2.x0 qq29.Head.A2.x1 qq29.Head.A2.x2 qq29.Head.A2.x3 qq29.Head.A2.x4 qq29.Head.A2.x5) (A6u8.mk qq29.Head.A3.x0 qq29.Head.A3.x1 qq29.Head.A3.x2 qq29.Head.A3.x3 qq29.Head.A3.x4 qq29.Head.A3.x5) (A6u8.mk qq29.Head.A4.x0 qq29.Head.A4.x1 qq29.Head.A4.x2 qq29.Head.A4.x3 qq29.Head.A4.x4 qq29.Head.A4.x5) qq29.Head.Seq qq29.Head.Frag qq29.Head.Tid qq29.Head.Ack qq29.Head.Amsdu qq29.Head.Eosp) qq29.Body)) (gd (e.1.set ((wr .i64 ((e.1.length : Nat) - 1)).toNat) (TFrame.mk (THeader.mk (((gd e.1 ((wr .i64 ((e.1.length : Nat) - 1)).toNat)).Head).Kind) (((gd e.1 ((wr .i64 ((e.1.length : Nat) - 1)).toNat)).Head).Sub) (((gd e.1 ((wr .i64 ((e.1.length : Nat) - 1)).toNat)).Head).ToDs) (((gd e.1 ((wr .i64 ((e.1.length : Nat) - 1)).toNat)).Head).FromDs) (((gd e.1 ((wr .i64 ((e.1.length : Nat) - 1)).toNat)).Head).More) (((gd e.1 ((wr .i64 ((e.1.length : Nat) - 1)).toNat)).Head).Retry) (((gd e.1 ((wr .i64 ((e.1.length : Nat) - 1)).toNat)).Head).Sleep) (((gd e.1 ((wr .i64 ((e.1.length : Nat) - 1)).toNat)).Head).MoreData) (((gd e.1 ((wr .i64 ((e.1.length : Nat) - 1)).toNat)).Head).Protected) (((gd e.1 ((wr .i64 ((e.1.length : Nat) - 1)).toNat)).Head).Duration) (A6u8.mk ((((gd e.1 ((wr .i64 ((e.1.length : Nat) - 1)).toNat)).Head).A1).x0) ((((gd e.1 ((wr .i64 ((e.1.length : Nat) - 1)).toNat)).Head).A1).x1) ((((gd e.1 ((wr .i64 ((e.1.length : Nat) - 1)).toNat)).Head).A1).x2) ((((gd e.1 ((wr .i64 ((e.1.length : Nat) - 1)).toNat)).Head).A1).x3) ((((gd e.1 ((wr .i64 ((e.1.length : Nat) - 1)).toNat)).Head).A1).x4) ((((gd e.1 ((wr .i64 ((e.1.length : Nat) - 1)).toNat)).Head).A1).x5)) (A6u8.mk ((((gd e.1 ((wr .i64 ((e.1.length : Nat) - 1)).toNat)).Head).A2).x0) ((((gd e.1 ((wr .i64 ((e.1.length : Nat) - 1)).toNat)).Head).A2).x1) ((((gd e.1 ((wr .i64 ((e.1.length : Nat) - 1)).toNat)).Head).A2).x2) ((((gd e.1 ((wr .i64 ((e.1.length : Nat) - 1)).toNat)).Head).A2).x3) ((((gd e.1 ((wr .i64 ((e.1.length : Nat) - 1)).toNat)).Head).A2).x4) ((((gd e.1 ((wr .i64 ((e.1.length : Nat) - 1)).toNat)).Head).A2).x5)) (A6u8.mk ((((gd e.1 ((wr .i64 ((e.1.length : Nat) - 1)).toNat)).Head).A3).x0) ((((gd e.1 ((wr .i64 ((e.1.length : Nat) - 1)).toNat)).Head).A3).x1) ((((gd e.1 ((wr .i64 ((e.1.length : Nat) - 1)).toNat)).Head).A3).x2) ((((gd e.1 ((wr .i64 ((e.1.length : Nat) - 1)).toNat)).Head).A3).x3) ((((gd e.1 ((wr .i64 ((e.1.length : Nat) - 1)).toNat)).Head).A3).x4) ((((gd e.1 ((wr .i64 ((e.1.length : Nat) - 1)).toNat)).Head).A3).x5)) (A6u8.mk ((((gd e.1 ((wr .i64 ((e.1.length : Nat) - 1)).toNat)).Head).A4).x0) ((((gd e.1 ((wr .i64 ((e.1.length : Nat) - 1)).toNat)).Head).A4).x1) ((((gd e.1 ((wr .i64 ((e.1.length : Nat) - 1)).toNat)).Head).A4).x2) ((((gd e.1 ((wr .i64 ((e.1.length : Nat) - 1)).toNat)).Head).A4).x3) ((((gd e.1 ((wr .i64 ((e.1.length : Nat) - 1)).toNat)).Head).A4).x4) ((((gd e.1 ((wr .i64 ((e.1.length : Nat) - 1)).toNat)).Head).A4).x5)) (((gd e.1 ((wr .i64 ((e.1.length : Nat) - 1)).toNat)).Head).Seq) (((gd e.1 ((wr .i64 ((e.1.length : Nat) - 1)).toNat)).Head).Frag) (((gd e.1 ((wr .i64 ((e.1.length : Nat) - 1)).toNat)).Head).Tid) (((gd e.1 ((wr .i64 ((e.1.length : Nat) - 1)).toNat)).Head).Ack) (((gd e.1 ((wr .i64 ((e.1.length : Nat) - 1)).toNat)).Head).Amsdu) true) ((gd e.1 ((wr .i64 ((e.1.length : Nat) - 1)).toNat)).Body))) ((wr .i64 ((e.1.length : Nat) - 1)).toNat))))).bind fun w32 => some ((TPeriod.mk p2 w32), (TBuffer.mk r7.Limit r7.Stay w30 r7.Group), 0))) some))))
noncomputable def body29 : List AV -> Nat -> AR
  | [v0, v1, v2, v3, v4], _ => .pure (aK 4 k_TBuffer v0 /\ aK 3 k_TTriggerPlan v1 /\ iK .i64 v2 /\ aK 6 k_A6u8 v3 /\ aK 6 k_A6u8 v4 /\ (F29 (g_TBuffer (aL v0)) (g_TTriggerPlan (aL v1)) (iA v2) (g_A6u8 (aL v3)) (g_A6u8 (aL v4))).isSome = true) (.tup [.agg [.int .i64 (((gt (F29 (g_TBuffer (aL v0)) (g_TTriggerPlan (aL v1)) (iA v2) (g_A6u8 (aL v3)) (g_A6u8 (aL v4)))).1).Aid), .ro 41 ((((gt (F29 (g_TBuffer (aL v0)) (g_TTriggerPlan (aL v1)) (iA v2) (g_A6u8 (aL v3)) (g_A6u8 (aL v4)))).1).Left).length) false (enR c_TFrame (((gt (F29 (g_TBuffer (aL v0)) (g_TTriggerPlan (aL v1)) (iA v2) (g_A6u8 (aL v3)) (g_A6u8 (aL v4)))).1).Left))], .agg [.int .i64 (((gt (F29 (g_TBuffer (aL v0)) (g_TTriggerPlan (aL v1)) (iA v2) (g_A6u8 (aL v3)) (g_A6u8 (aL v4)))).2.1).Limit), .int .i64 (((gt (F29 (g_TBuffer (aL v0)) (g_TTriggerPlan (aL v1)) (iA v2) (g_A6u8 (aL v3)) (g_A6u8 (aL v4)))).2.1).Stay), .ro 3 ((((gt (F29 (g_TBuffer (aL v0)) (g_TTriggerPlan (aL v1)) (iA v2) (g_A6u8 (aL v3)) (g_A6u8 (aL v4)))).2.1).List).length) false (enR c_TSleeper (((gt (F29 (g_TBuffer (aL v0)) (g_TTriggerPlan (aL v1)) (iA v2) (g_A6u8 (aL v3)) (g_A6u8 (aL v4)))).2.1).List)), .ro 43 ((((gt (F29 (g_TBuffer (aL v0)) (g_TTriggerPlan (aL v1)) (iA v2) (g_A6u8 (aL v3)) (g_A6u8 (aL v4)))).2.1).Group).length) false (enR c_TStored (((gt (F29 (g_TBuffer (aL v0)) (g_TTriggerPlan (aL v1)) (iA v2) (g_A6u8 (aL v3)) (g_A6u8 (aL v4)))).2.1).Group))], .int .i64 ((gt (F29 (g_TBuffer (aL v0)) (g_TTriggerPlan (aL v1)) (iA v2) (g_A6u8 (aL v3)) (g_A6u8 (aL v4)))).2.2)])
  | _, _ => .fail
set_option maxHeartbeats 4000000 in
set_option maxRecDepth 20000 in
theorem ok29 : FnOk Try.prog 29 (genC body29) := by
  refine gen_fn body29 (rs := [.cell 10 33, .cell 11 52, .tmp 12]) Try.func29 (by kernel_rfl) rfl rfl ?_
  intro l s ob v ns hb hob
  rcases hb with ⟨hb, rfl⟩ | hb
  · unfold body29 at hb
    split at hb
    · rename_i v0 v1 v2 v3 v4
      injection hb with q1 q2; subst q1 q2
      obtain ⟨hk0_0, hk1_0, hk2_0, hk3_0, hk4_0, hob⟩ := hob
      obtain ⟨r, H⟩ := Option.isSome_iff_exists.1 hob
      rw [H, gt_some]
      have hw0 := wA_TBuffer hk0_0
      have hw1 := wA_TTriggerPlan hk1_0
      have hw2 := iK_wk hk2_0
      have hw3 := wA_A6u8 hk3_0
      have hw4 := wA_A6u8 hk4_0
      generalize g_TBuffer (aL v0) = p0 at H hw0
      generalize g_TTriggerPlan (aL v1) = p1 at H hw1
      generalize iA v2 = p2 at H hw2
      generalize g_A6u8 (aL v3) = p3 at H hw3
      generalize g_A6u8 (aL v4) = p4 at H hw4
      refine ⟨[.agg [.int .i64 p0.Limit, .int .i64 p0.Stay, .ro 3 p0.List.length false (enR c_TSleeper p0.List), .ro 43 p0.Group.length false (enR c_TStored p0.Group)], .agg [.int .u8 p1.Start, .int .u8 p1.Deliver, .int .i64 p1.Most], .int .i64 p2, .agg [.int .u8 p3.x0, .int .u8 p3.x1, .int .u8 p3.x2, .int .u8 p3.x3, .int .u8 p3.x4, .int .u8 p3.x5], .agg [.int .u8 p4.x0, .int .u8 p4.x1, .int .u8 p4.x2, .int .u8 p4.x3, .int .u8 p4.x4, .int .u8 p4.x5]], .tup [.agg [.int .i64 r.1.Aid, .ro 41 r.1.Left.length false (enR c_TFrame r.1.Left)], .agg [.int .i64 r.2.1.Limit, .int .i64 r.2.1.Stay, .ro 3 r.2.1.List.length false (enR c_TSleeper r.2.1.List), .ro 43 r.2.1.Group.length false (enR c_TStored r.2.1.Group)], .int .i64 r.2.2], [], (fun E vs F => FR_wk1 hw0.1 F (fun vs F => FR_wk1 hw1.1 F (fun vs F => FR_wk1 hw2.1 F (fun vs F => FR_wk1 hw3.1 F (fun vs F => FR_wk1 hw4.1 F (fun vs F => F)))))), by simp only [ren, renL], trivial, ?_⟩
      rw [Try.ntmps29]
      simp only [List.length_cons, List.length_nil, Nat.reduceAdd, Nat.reduceSub, List.replicate_succ, List.replicate_zero, List.cons_append, List.nil_append]
      unfold F29 at H
      try dsimp only at H
      refine sq ctNo_ok ?_
      simp only [go_sem, Nat.reduceLeDiff, Nat.reduceLT, Nat.reduceAdd, Nat.reduceMul, Nat.reduceSub, Nat.reduceEqDiff, Nat.reduceBEq, Int.reduceToNat, reduceCtorEq, upc_ii]
      refine seqM ?_
      refine seqM ?_
      obtain ⟨r1, e2, H⟩ := bsi H
      obtain ⟨f3, H⟩ := need_some.1 H
      replace f3 := g_iff.1 f3
      refine rg ct29t0_ok ?_
      simp only [go_sem, Nat.reduceLeDiff, Nat.reduceLT, Nat.reduceAdd, Nat.reduceMul, Nat.reduceSub, Nat.reduceEqDiff, Nat.reduceBEq, Int.reduceToNat, reduceCtorEq, upc_ii, ct29t0_20, body20, ct29t0_34, body34, e2]
      repeat ((with_reducible refine And.intro ?_ ?_); focus (first | (with_reducible trivial) | omega | exact f3 | (intro g; have q := f3 (by first | exact g | (rw [g]; rfl) | simpa using g); first | exact q | exact ⟨q.1, q.2.1⟩ | exact q.2.2 | omega | exact ⟨g, q⟩ | exact ⟨trivial, q⟩ | exact ⟨g, q.1, q.2.1⟩ | exact ⟨g, q.2.2⟩) | (intro g; (try have q0 := f3 (by first | exact g | (rw [g]; rfl) | simpa using g)); and_intros <;> first | (with_reducible trivial) | assumption | exact nfc | (intro g2; rw [g, g2]; rfl) | (intro g2; assumption) | (simp only [g, Bool.true_and, Bool.and_true, Bool.not_false, Bool.not_true]; assumption) | grind) | (and_intros <;> first | (with_reducible trivial) | omega | assumption | exact nfc | first | exact rfl | exact trivial | exact fitI | exact .inr rfl | exact .inl rfl | exact fun x hx => absurd hx (by omega)) | grind))
      refine condM rfl trivial (fun hc => ?_) (fun hc => ?_)
      · replace H := cond_t hc H
        refine sq ctNo_ok ?_
        simp only [go_sem, Nat.reduceLeDiff, Nat.reduceLT, Nat.reduceAdd, Nat.reduceMul, Nat.reduceSub, Nat.reduceEqDiff, Nat.reduceBEq, Int.reduceToNat, reduceCtorEq, upc_ii]
        repeat ((with_reducible refine And.intro ?_ ?_); focus (first | (with_reducible trivial) | omega | grind))
        refine rg ctNo_ok ?_
        simp only [go_sem, Nat.reduceLeDiff, Nat.reduceLT, Nat.reduceAdd, Nat.reduceMul, Nat.reduceSub, Nat.reduceEqDiff, Nat.reduceBEq, Int.reduceToNat, reduceCtorEq, upc_ii]
        obtain rfl := Option.some.inj H
        refine ⟨[0, 1, 2, 3, 4, 5, 6], ?_, ?_, [], ?_, ?_, rfl⟩
        · simp only [go_sem, Nat.reduceEqDiff, Nat.reduceBEq, Nat.reduceAdd]
          try (and_intros <;> first | (with_reducible trivial) | omega | exact nfc | trivial)
        · simp only [go_sem, Nat.reduceEqDiff, Nat.reduceBEq, Nat.reduceAdd]
          try (and_intros <;> first | (with_reducible trivial) | omega | exact nfc | trivial)
        · simp only [go_sem, Nat.reduceEqDiff, Nat.reduceBEq, Nat.reduceAdd]
          exact Cv_tup (CvL_cons (Cv_agg (CvL_cons Cv_int (CvL_cons (Cv_ronil (α := TFrame)) CvL_nil))) (CvL_cons (Cv_agg (CvL_cons Cv_int (CvL_cons Cv_int (CvL_cons (Cv_ronil (α := TSleeper)) (CvL_cons (Cv_ronil (α := TStored)) CvL_nil))))) (CvL_cons Cv_int CvL_nil)))
        · simp only [go_sem, Nat.reduceEqDiff, Nat.reduceBEq, Nat.reduceAdd, CvH]
      replace H := cond_f hc H
      refine rg ctNo_ok ?_
      simp only [go_sem, Nat.reduceLeDiff, Nat.reduceLT, Nat.reduceAdd, Nat.reduceMul, Nat.reduceSub, Nat.reduceEqDiff, Nat.reduceBEq, Int.reduceToNat, reduceCtorEq, upc_ii]
      refine seqM ?_
      refine sq ctNo_ok ?_
      simp only [go_sem, Nat.reduceLeDiff, Nat.reduceLT, Nat.reduceAdd, Nat.reduceMul, Nat.reduceSub, Nat.reduceEqDiff, Nat.reduceBEq, Int.reduceToNat, reduceCtorEq, upc_ii]
      repeat ((with_reducible refine And.intro ?_ ?_); focus (first | (with_reducible trivial) | omega | grind))
      refine condM rfl trivial (fun hc => ?_) (fun hc => ?_)
      · replace H := cond_t hc H
        refine sq ctNo_ok ?_
        simp only [go_sem, Nat.reduceLeDiff, Nat.reduceLT, Nat.reduceAdd, Nat.reduceMul, Nat.reduceSub, Nat.reduceEqDiff, Nat.reduceBEq, Int.reduceToNat, reduceCtorEq, upc_ii]
        repeat ((with_reducible refine And.intro ?_ ?_); focus (first | (with_reducible trivial) | omega | grind))
        refine rg ctNo_ok ?_
        simp only [go_sem, Nat.reduceLeDiff, Nat.reduceLT, Nat.reduceAdd, Nat.reduceMul, Nat.reduceSub, Nat.reduceEqDiff, Nat.reduceBEq, Int.reduceToNat, reduceCtorEq, upc_ii]
        obtain rfl := Option.some.inj H
        refine ⟨[0, 1, 2, 3, 4, 5, 6], ?_, ?_, [], ?_, ?_, rfl⟩
        · simp only [go_sem, Nat.reduceEqDiff, Nat.reduceBEq, Nat.reduceAdd]
          try (and_intros <;> first | (with_reducible trivial) | omega | exact nfc | trivial)
        · simp only [go_sem, Nat.reduceEqDiff, Nat.reduceBEq, Nat.reduceAdd]
          try (and_intros <;> first | (with_reducible trivial) | omega | exact nfc | trivial)
        · simp only [go_sem, Nat.reduceEqDiff, Nat.reduceBEq, Nat.reduceAdd]
          exact Cv_tup (CvL_cons (Cv_agg (CvL_cons Cv_int (CvL_cons (Cv_ronil (α := TFrame)) CvL_nil))) (CvL_cons (Cv_agg (CvL_cons Cv_int (CvL_cons Cv_int (CvL_cons (Cv_ronil (α := TSleeper)) (CvL_cons (Cv_ronil (α := TStored)) CvL_nil))))) (CvL_cons Cv_int CvL_nil)))
        · simp only [go_sem, Nat.reduceEqDiff, Nat.reduceBEq, Nat.reduceAdd, CvH]
      replace H := cond_f hc H
      refine rg ctNo_ok ?_
      simp only [go_sem, Nat.reduceLeDiff, Nat.reduceLT, Nat.reduceAdd, Nat.reduceMul, Nat.reduceSub, Nat.reduceEqDiff, Nat.reduceBEq, Int.reduceToNat, reduceCtorEq, upc_ii]
      refine seqM ?_
      obtain ⟨r4, e5, H⟩ := bsi H
      refine rg ct29t1_ok ?_
      simp only [go_sem, Nat.reduceLeDiff, Nat.reduceLT, Nat.reduceAdd, Nat.reduceMul, Nat.reduceSub, Nat.reduceEqDiff, Nat.reduceBEq, Int.reduceToNat, reduceCtorEq, upc_ii, ct29t1_52, body52_1, e5]
      repeat ((with_reducible refine And.intro ?_ ?_); focus (first | (and_intros <;> first | (with_reducible trivial) | omega | assumption | exact nfc | first | exact rfl | exact trivial | exact fitI | exact .inr rfl | exact .inl rfl | exact fun x hx => absurd hx (by omega)) | grind))
      refine seqM ?_
      refine blkM ?_
      refine sq ctNo_ok ?_
      simp only [go_sem, Nat.reduceLeDiff, Nat.reduceLT, Nat.reduceAdd, Nat.reduceMul, Nat.reduceSub, Nat.reduceEqDiff, Nat.reduceBEq, Int.reduceToNat, reduceCtorEq, upc_ii]
      refine condM rfl trivial (fun hc => ?_) (fun hc => ?_)
      · replace H := cond_t hc H
        refine sq ctNo_ok ?_
        simp only [go_sem, Nat.reduceLeDiff, Nat.reduceLT, Nat.reduceAdd, Nat.reduceMul, Nat.reduceSub, Nat.reduceEqDiff, Nat.reduceBEq, Int.reduceToNat, reduceCtorEq, upc_ii]
        repeat ((with_reducible refine And.intro ?_ ?_); focus (first | (with_reducible trivial) | omega | grind))
        refine rg ctNo_ok ?_
        simp only [go_sem, Nat.reduceLeDiff, Nat.reduceLT, Nat.reduceAdd, Nat.reduceMul, Nat.reduceSub, Nat.reduceEqDiff, Nat.reduceBEq, Int.reduceToNat, reduceCtorEq, upc_ii]
        obtain rfl := Option.some.inj H
        refine ⟨[0, 1, 2, 3, 4, 5, 6], ?_, ?_, [], ?_, ?_, rfl⟩
        · simp only [go_sem, Nat.reduceEqDiff, Nat.reduceBEq, Nat.reduceAdd]
          try (and_intros <;> first | (with_reducible trivial) | omega | exact nfc | trivial)
        · simp only [go_sem, Nat.reduceEqDiff, Nat.reduceBEq, Nat.reduceAdd]
          try (and_intros <;> first | (with_reducible trivial) | omega | exact nfc | trivial)
        · simp only [go_sem, Nat.reduceEqDiff, Nat.reduceBEq, Nat.reduceAdd]
          exact Cv_tup (CvL_cons (Cv_agg (CvL_cons Cv_int (CvL_cons (Cv_ronil (α := TFrame)) CvL_nil))) (CvL_cons (Cv_agg (CvL_cons Cv_int (CvL_cons Cv_int (CvL_cons (Cv_ronil (α := TSleeper)) (CvL_cons (Cv_ronil (α := TStored)) CvL_nil))))) (CvL_cons Cv_int CvL_nil)))
        · simp only [go_sem, Nat.reduceEqDiff, Nat.reduceBEq, Nat.reduceAdd, CvH]
      replace H := cond_f hc H
      refine seqM ?_
      obtain ⟨f6, H⟩ := need_some.1 H
      replace f6 := inb_iff.1 f6
      refine rg ctNo_ok ?_
      simp only [go_sem, Nat.reduceLeDiff, Nat.reduceLT, Nat.reduceAdd, Nat.reduceMul, Nat.reduceSub, Nat.reduceEqDiff, Nat.reduceBEq, Int.reduceToNat, reduceCtorEq, upc_ii, f6]
      repeat ((with_reducible refine And.intro ?_ ?_); focus (first | (with_reducible trivial) | omega | grind))
      refine condM rfl trivial (fun hc => ?_) (fun hc => ?_)
      · replace H := cond_t hc H
        refine sq ctNo_ok ?_
        simp only [go_sem, Nat.reduceLeDiff, Nat.reduceLT, Nat.reduceAdd, Nat.reduceMul, Nat.reduceSub, Nat.reduceEqDiff, Nat.reduceBEq, Int.reduceToNat, reduceCtorEq, upc_ii]
        repeat ((with_reducible refine And.intro ?_ ?_); focus (first | (with_reducible trivial) | omega | grind))
        refine rg ctNo_ok ?_
        simp only [go_sem, Nat.reduceLeDiff, Nat.reduceLT, Nat.reduceAdd, Nat.reduceMul, Nat.reduceSub, Nat.reduceEqDiff, Nat.reduceBEq, Int.reduceToNat, reduceCtorEq, upc_ii]
        obtain rfl := Option.some.inj H
        refine ⟨[0, 1, 2, 3, 4, 5, 6], ?_, ?_, [], ?_, ?_, rfl⟩
        · simp only [go_sem, Nat.reduceEqDiff, Nat.reduceBEq, Nat.reduceAdd]
          try (and_intros <;> first | (with_reducible trivial) | omega | exact nfc | trivial)
        · simp only [go_sem, Nat.reduceEqDiff, Nat.reduceBEq, Nat.reduceAdd]
          try (and_intros <;> first | (with_reducible trivial) | omega | exact nfc | trivial)
        · simp only [go_sem, Nat.reduceEqDiff, Nat.reduceBEq, Nat.reduceAdd]
          exact Cv_tup (CvL_cons (Cv_agg (CvL_cons Cv_int (CvL_cons (Cv_ronil (α := TFrame)) CvL_nil))) (CvL_cons (Cv_agg (CvL_cons Cv_int (CvL_cons Cv_int (CvL_cons (Cv_ronil (α := TSleeper)) (CvL_cons (Cv_ronil (α := TStored)) CvL_nil))))) (CvL_cons Cv_int CvL_nil)))
        · simp only [go_sem, Nat.reduceEqDiff, Nat.reduceBEq, Nat.reduceAdd, CvH]
      replace H := cond_f hc H
      refine rg ctNo_ok ?_
      simp only [go_sem, Nat.reduceLeDiff, Nat.reduceLT, Nat.reduceAdd, Nat.reduceMul, Nat.reduceSub, Nat.reduceEqDiff, Nat.reduceBEq, Int.reduceToNat, reduceCtorEq, upc_ii]
      refine seqM ?_
      obtain ⟨r7, e8, H⟩ := bsi H
      refine rg (ct29t2_ok r4.toNat) ?_
      simp only [go_sem, Nat.reduceLeDiff, Nat.reduceLT, Nat.reduceAdd, Nat.reduceMul, Nat.reduceSub, Nat.reduceEqDiff, Nat.reduceBEq, Int.reduceToNat, reduceCtorEq, upc_ii, ct29t2_54, body54f, e8]
      repeat ((with_reducible refine And.intro ?_ ?_); focus (first | (and_intros <;> first | (with_reducible trivial) | omega | assumption | exact nfc | first | exact rfl | exact trivial | exact fitI | exact .inr rfl | exact .inl rfl | exact fun x hx => absurd hx (by omega)) | grind))
      refine seqM ?_
      obtain ⟨f9, H⟩ := need_some.1 H
      replace f9 := inb_iff.1 f9
      refine draw_rule shT_ok ctNo_ok 1 (by kernel_rfl) (by kernel_rfl) ?_
      intro an han
      simp only [d_nil, d_cons, nxtD, xrD, xoD, roEq, minL, List.append_nil, refsOp, refs, refsL, mask, maskF, place, placeF, okLog, pairOk, hit, inL, slotsF, ren, renL, rnN, nrH, nrB, nrL, nr, dead0, deadS, List.replicate_zero, List.replicate_succ, Nat.sub_self, Nat.add_zero, Nat.zero_add, Nat.reduceSub, Nat.not_lt_zero, Nat.zero_le, Nat.lt_add_one, go_sem, Nat.reduceLeDiff, Nat.reduceLT, Nat.reduceAdd, Nat.reduceMul, Nat.reduceSub, Nat.reduceEqDiff, Nat.reduceBEq, Int.reduceToNat, reduceCtorEq, upc_ii, f9]
      repeat ((with_reducible refine And.intro ?_ ?_); focus (and_intros <;> first | (with_reducible trivial) | (show anB _ _ _ = true; subst han; kernel_rfl) | (show (anB _ _ _ && _) = true; subst han; kernel_rfl) | omega | assumption | exact nrc | exact nfc | first | exact rfl | exact trivial | exact fitI | exact .inr rfl | exact .inl rfl | exact fun x hx => absurd hx (by omega)))
      refine sq ctNo_ok ?_
      simp only [go_sem, Nat.reduceLeDiff, Nat.reduceLT, Nat.reduceAdd, Nat.reduceMul, Nat.reduceSub, Nat.reduceEqDiff, Nat.reduceBEq, Int.reduceToNat, reduceCtorEq, upc_ii]
      repeat ((with_reducible refine And.intro ?_ ?_); focus (first | (with_reducible trivial) | omega | grind))
      refine seqM ?_
      refine blkM ?_
      refine loop_den (fun s : (List TFrame) × (List TStored) => (tp 5 (.ptr 0 0 0 0 :: .ptr 1 0 0 0 :: .top :: .ptr 3 0 0 0 :: .ptr 4 0 0 0 :: .ptr 5 0 0 0 :: .ptr 6 0 0 0 :: .top :: .int .i64 r4 :: .ptr 10 0 0 0 :: tp 125 []))) (fun s => [.lit 52 [.int .i64 r7.Limit, .int .i64 r7.Stay, .sl 7 3 0 r7.List.length false, .sl 9 43 0 r7.Group.length false], .lit 23 [.int .u8 p1.Start, .int .u8 p1.Deliver, .int .i64 p1.Most], .dead, .lit 25 [.int .u8 p3.x0, .int .u8 p3.x1, .int .u8 p3.x2, .int .u8 p3.x3, .int .u8 p3.x4, .int .u8 p3.x5], .lit 25 [.int .u8 p4.x0, .int .u8 p4.x1, .int .u8 p4.x2, .int .u8 p4.x3, .int .u8 p4.x4, .int .u8 p4.x5], .lit 33 [.int .i64 p2, .sl 11 41 0 s.1.length false], .lit 52 [.int .i64 0, .int .i64 0, .ro 0 0 true (fun _ _ => .top), .ro 0 0 true (fun _ _ => .top)], .row 71 3 r7.List.length (upc (enR c_TSleeper r7.List) r4.toNat 2 [.sl 8 43 0 (((gd r7.List r4.toNat).Held).length) false]), .dead, .row 73 43 r7.Group.length (enR c_TStored r7.Group), .lit 103 [.sl 12 43 0 s.2.length false, .int .u8 p1.Deliver], .row 30 41 s.1.length (enR c_TFrame s.1), .row 73 43 s.2.length (enR c_TStored s.2)]) (fun e : (List TFrame) × (List TStored) => (tp 5 (.ptr 0 0 0 0 :: .top :: .top :: .ptr 3 0 0 0 :: .ptr 4 0 0 0 :: .ptr 5 0 0 0 :: .ptr 6 0 0 0 :: .top :: .int .i64 r4 :: .ptr 10 0 0 0 :: tp 125 []))) (fun e => [.lit 52 [.int .i64 r7.Limit, .int .i64 r7.Stay, .sl 7 3 0 r7.List.length false, .sl 9 43 0 r7.Group.length false], .dead, .dead, .lit 25 [.int .u8 p3.x0, .int .u8 p3.x1, .int .u8 p3.x2, .int .u8 p3.x3, .int .u8 p3.x4, .int .u8 p3.x5], .lit 25 [.int .u8 p4.x0, .int .u8 p4.x1, .int .u8 p4.x2, .int .u8 p4.x3, .int .u8 p4.x4, .int .u8 p4.x5], .lit 33 [.int .i64 p2, .sl 11 41 0 e.1.length false], .lit 52 [.int .i64 0, .int .i64 0, .ro 0 0 true (fun _ _ => .top), .ro 0 0 true (fun _ _ => .top)], .row 71 3 r7.List.length (upc (enR c_TSleeper r7.List) r4.toNat 2 [.sl 8 43 0 (((gd r7.List r4.toNat).Held).length) false]), .dead, .row 73 43 r7.Group.length (enR c_TStored r7.Group), .lit 103 [.sl 12 43 0 e.2.length false, .int .u8 p1.Deliver], .row 30 41 e.1.length (enR c_TFrame e.1), .row 73 43 e.2.length (enR c_TStored e.2)]) H ?_ (fun s o H hn1_1 hn2_1 => ?_) (fun e H => ?_)
      · refine SubF_of ⟨[some 0, some 1, some 2, some 3, some 4, some 5, some 6, some 7, some 8, some 9, some 10, none, some 8], ?_, ?_, by rfl, by rfl⟩
        · simp [CvL, Cv, getM, tp]
        · exact ⟨(by simp [CvB, CvL, Cv, blkAt, geth, getM]), (by simp [CvB, CvL, Cv, blkAt, geth, getM]), CvB_dead, (by simp [CvB, CvL, Cv, blkAt, geth, getM]), (by simp [CvB, CvL, Cv, blkAt, geth, getM]), (by simp [CvB, CvL, Cv, blkAt, geth, getM]), (by simp [CvB, CvL, Cv, blkAt, geth, getM]), (CvB_focG (i := r4.toNat) (L := r7.List) nr_TSleeper (fun x y hx => by simp only [upc_ne hx]) (fun y hy => match y, hy with | 0, _ => by simp [upc_ii, getL, Cv, getM, enR, c_TSleeper] | 1, _ => by simp [upc_ii, getL, Cv, getM, enR, c_TSleeper] | 2, _ => by simp [upc_ii, getL, Cv, getM, enR, c_TSleeper] | (y+3), h => absurd h (by omega))), CvB_dead, (CvB_same nfA), (by simp [CvB, CvL, Cv, blkAt, geth, getM]), CvB_none, CvB_row nr_TStored (by first | rfl | (simp; done) | (simp; omega)) (fun _ _ _ _ => rfl), trivial⟩
      · obtain ⟨v1_1, v1_2⟩ := s
        unfold F29_L1 at H
        try dsimp only at H ⊢
        try simp only [tp]
        refine seqM ?_
        refine sq ctNo_ok ?_
        simp only [go_sem, Nat.reduceLeDiff, Nat.reduceLT, Nat.reduceAdd, Nat.reduceMul, Nat.reduceSub, Nat.reduceEqDiff, Nat.reduceBEq, Int.reduceToNat, reduceCtorEq, upc_ii]
        repeat ((with_reducible refine And.intro ?_ ?_); focus (first | (with_reducible trivial) | omega | (intro g; and_intros <;> first | (with_reducible trivial) | assumption | exact nfc | (intro g2; rw [g, g2]; rfl) | (intro g2; assumption) | (simp only [g, Bool.true_and, Bool.and_true, Bool.not_false, Bool.not_true]; assumption) | grind) | (and_intros <;> first | (with_reducible trivial) | omega | assumption | exact nfc | first | exact rfl | exact trivial | exact fitI | exact .inr rfl | exact .inl rfl | exact fun x hx => absurd hx (by omega)) | grind))
        refine condM' rfl trivial (fun hc => ?_) (fun hc => ?_)
        · replace H := cond_f hc H
          refine rg ctNo_ok ?_
          simp only [go_sem, Nat.reduceLeDiff, Nat.reduceLT, Nat.reduceAdd, Nat.reduceMul, Nat.reduceSub, Nat.reduceEqDiff, Nat.reduceBEq, Int.reduceToNat, reduceCtorEq, upc_ii]
          refine ⟨_, (Option.some.inj H).symm, ?_⟩
          refine SubF_of ⟨[some 0, some 1, some 2, some 3, some 4, some 5, some 6, some 7, some 8, some 9, some 10, some 11, some 12], ?_, ?_, by rfl, by rfl⟩
          · simp [CvL, Cv, getM, tp]
          · exact ⟨(by simp [CvB, CvL, Cv, blkAt, geth, getM]), CvB_dead, CvB_dead, (by simp [CvB, CvL, Cv, blkAt, geth, getM]), (by simp [CvB, CvL, Cv, blkAt, geth, getM]), (by simp [CvB, CvL, Cv, blkAt, geth, getM]), (by simp [CvB, CvL, Cv, blkAt, geth, getM]), (CvB_focG (i := r4.toNat) (L := r7.List) nr_TSleeper (fun x y hx => by simp only [upc_ne hx]) (fun y hy => match y, hy with | 0, _ => by simp [upc_ii, getL, Cv, getM, enR, c_TSleeper] | 1, _ => by simp [upc_ii, getL, Cv, getM, enR, c_TSleeper] | 2, _ => by simp [upc_ii, getL, Cv, getM, enR, c_TSleeper] | (y+3), h => absurd h (by omega))), CvB_dead, (CvB_same nfA), (by simp [CvB, CvL, Cv, blkAt, geth, getM]), CvB_row nr_TFrame (by first | rfl | (simp; done) | (simp; omega)) (fun _ _ _ _ => rfl), CvB_row nr_TStored (by first | rfl | (simp; done) | (simp; omega)) (fun _ _ _ _ => rfl), trivial⟩
        replace H := cond_t hc H
        refine rg ctNo_ok ?_
        simp only [go_sem, Nat.reduceLeDiff, Nat.reduceLT, Nat.reduceAdd, Nat.reduceMul, Nat.reduceSub, Nat.reduceEqDiff, Nat.reduceBEq, Int.reduceToNat, reduceCtorEq, upc_ii]
        refine blkM ?_
        refine seqM ?_
        refine regO ?_
        refine cutO shT_ok ctNo_ok 1 ?_
        simp only [kO_normal, List.take_succ_cons, List.take_zero, List.drop_succ_cons, List.drop_zero, go_sem, Nat.reduceLeDiff, Nat.reduceLT, Nat.reduceAdd, Nat.reduceMul, Nat.reduceSub, Nat.reduceEqDiff, Nat.reduceBEq, Int.reduceToNat, reduceCtorEq, upc_ii]
        repeat ((with_reducible refine And.intro ?_ ?_); focus (first | (and_intros <;> first | (with_reducible trivial) | omega | assumption | exact nfc | first | exact rfl | exact trivial | exact fitI | exact .inr rfl | exact .inl rfl | exact fun x hx => absurd hx (by omega)) | grind))
        refine inlO (rs := [.cell 2 30, .tmp 3]) Try.func55 (by kernel_rfl) rfl rfl Try.ntmps55 (caps := []) (tc := [.ptr 10 0 0 0]) rfl (by simp only [go_sem, Nat.reduceLeDiff, Nat.reduceLT, Nat.reduceAdd, Nat.reduceMul, Nat.reduceSub, Nat.reduceEqDiff, Nat.reduceBEq, Int.reduceToNat, reduceCtorEq]) rfl ?_
        simp only [List.length_cons, List.length_nil, Nat.reduceAdd, Nat.reduceSub, List.replicate_succ, List.replicate_zero, List.cons_append, List.nil_append]
        refine sq ctNo_ok ?_
        simp only [go_sem, Nat.reduceLeDiff, Nat.reduceLT, Nat.reduceAdd, Nat.reduceMul, Nat.reduceSub, Nat.reduceEqDiff, Nat.reduceBEq, Int.reduceToNat, reduceCtorEq, upc_ii]
        refine sq ctNo_ok ?_
        simp only [go_sem, Nat.reduceLeDiff, Nat.reduceLT, Nat.reduceAdd, Nat.reduceMul, Nat.reduceSub, Nat.reduceEqDiff, Nat.reduceBEq, Int.reduceToNat, reduceCtorEq, upc_ii]
        refine seqM ?_
        refine sq ctNo_ok ?_
        simp only [go_sem, Nat.reduceLeDiff, Nat.reduceLT, Nat.reduceAdd, Nat.reduceMul, Nat.reduceSub, Nat.reduceEqDiff, Nat.reduceBEq, Int.reduceToNat, reduceCtorEq, upc_ii]
        repeat ((with_reducible refine And.intro ?_ ?_); focus (first | (and_intros <;> first | (with_reducible trivial) | omega | assumption | exact nfc | first | exact rfl | exact trivial | exact fitI | exact .inr rfl | exact .inl rfl | exact fun x hx => absurd hx (by omega)) | grind))
        refine blkM ?_
        refine loop_den (fun s : Int × Int => (.ptr 10 0 0 0 :: .top :: .ptr 13 0 0 0 :: .top :: .int .i64 s.1 :: tp 6 (.sl 12 43 0 v1_2.length false :: .int .i64 (v1_2.length : Nat) :: .int .i64 s.2 :: tp 49 []))) (fun s => [.lit 52 [.int .i64 r7.Limit, .int .i64 r7.Stay, .sl 7 3 0 r7.List.length false, .sl 9 43 0 r7.Group.length false], .lit 23 [.int .u8 p1.Start, .int .u8 p1.Deliver, .int .i64 p1.Most], .dead, .lit 25 [.int .u8 p3.x0, .int .u8 p3.x1, .int .u8 p3.x2, .int .u8 p3.x3, .int .u8 p3.x4, .int .u8 p3.x5], .lit 25 [.int .u8 p4.x0, .int .u8 p4.x1, .int .u8 p4.x2, .int .u8 p4.x3, .int .u8 p4.x4, .int .u8 p4.x5], .lit 33 [.int .i64 p2, .sl 11 41 0 v1_1.length false], .lit 52 [.int .i64 0, .int .i64 0, .ro 0 0 true (fun _ _ => .top), .ro 0 0 true (fun _ _ => .top)], .row 71 3 r7.List.length (upc (enR c_TSleeper r7.List) r4.toNat 2 [.sl 8 43 0 (((gd r7.List r4.toNat).Held).length) false]), .dead, .row 73 43 r7.Group.length (enR c_TStored r7.Group), .lit 103 [.sl 12 43 0 v1_2.length false, .int .u8 p1.Deliver], .row 30 41 v1_1.length (enR c_TFrame v1_1), .row 73 43 v1_2.length (enR c_TStored v1_2), .lit 30 (.int .u8 0 :: .int .u8 0 :: .bool false :: .bool false :: .bool false :: .bool false :: .bool false :: .bool false :: .bool false :: .int .i64 0 :: .int .u8 0 :: .int .u8 0 :: .int .u8 0 :: .int .u8 0 :: .int .u8 0 :: .int .u8 0 :: .int .u8 0 :: .int .u8 0 :: .int .u8 0 :: .int .u8 0 :: .int .u8 0 :: .int .u8 0 :: .int .u8 0 :: .int .u8 0 :: .int .u8 0 :: .int .u8 0 :: .int .u8 0 :: .int .u8 0 :: .int .u8 0 :: .int .u8 0 :: .int .u8 0 :: .int .u8 0 :: .int .u8 0 :: .int .u8 0 :: .int .i64 0 :: .int .i64 0 :: .int .i64 0 :: .int .u8 0 :: .bool false :: .bool false :: .ro 0 0 true (fun _ _ => .top) :: [])]) (fun e : Int => (.ptr 10 0 0 0 :: .top :: .ptr 13 0 0 0 :: .top :: .int .i64 e :: tp 58 [])) (fun e => [.lit 52 [.int .i64 r7.Limit, .int .i64 r7.Stay, .sl 7 3 0 r7.List.length false, .sl 9 43 0 r7.Group.length false], .lit 23 [.int .u8 p1.Start, .int .u8 p1.Deliver, .int .i64 p1.Most], .dead, .lit 25 [.int .u8 p3.x0, .int .u8 p3.x1, .int .u8 p3.x2, .int .u8 p3.x3, .int .u8 p3.x4, .int .u8 p3.x5], .lit 25 [.int .u8 p4.x0, .int .u8 p4.x1, .int .u8 p4.x2, .int .u8 p4.x3, .int .u8 p4.x4, .int .u8 p4.x5], .lit 33 [.int .i64 p2, .sl 11 41 0 v1_1.length false], .lit 52 [.int .i64 0, .int .i64 0, .ro 0 0 true (fun _ _ => .top), .ro 0 0 true (fun _ _ => .top)], .row 71 3 r7.List.length (upc (enR c_TSleeper r7.List) r4.toNat 2 [.sl 8 43 0 (((gd r7.List r4.toNat).Held).length) false]), .dead, .row 73 43 r7.Group.length (enR c_TStored r7.Group), .lit 103 [.sl 12 43 0 v1_2.length false, .int .u8 p1.Deliver], .row 30 41 v1_1.length (enR c_TFrame v1_1), .row 73 43 v1_2.length (enR c_TStored v1_2), .lit 30 (.int .u8 0 :: .int .u8 0 :: .bool false :: .bool false :: .bool false :: .bool false :: .bool false :: .bool false :: .bool false :: .int .i64 0 :: .int .u8 0 :: .int .u8 0 :: .int .u8 0 :: .int .u8 0 :: .int .u8 0 :: .int .u8 0 :: .int .u8 0 :: .int .u8 0 :: .int .u8 0 :: .int .u8 0 :: .int .u8 0 :: .int .u8 0 :: .int .u8 0 :: .int .u8 0 :: .int .u8 0 :: .int .u8 0 :: .int .u8 0 :: .int .u8 0 :: .int .u8 0 :: .int .u8 0 :: .int .u8 0 :: .int .u8 0 :: .int .u8 0 :: .int .u8 0 :: .int .i64 0 :: .int .i64 0 :: .int .i64 0 :: .int .u8 0 :: .bool false :: .bool false :: .ro 0 0 true (fun _ _ => .top) :: [])]) H ?_ (fun s o H hn1_2 hn2_2 => ?_) (fun w2_3 H => ?_)
        · refine SubF_of ⟨[some 0, some 1, some 2, some 3, some 4, some 5, some 6, some 7, some 8, some 9, some 10, some 11, some 12, some 13], ?_, ?_, by rfl, by rfl⟩
          · simp [CvL, Cv, getM, tp]
          · exact ⟨(by simp [CvB, CvL, Cv, blkAt, geth, getM]), (by simp [CvB, CvL, Cv, blkAt, geth, getM]), CvB_dead, (by simp [CvB, CvL, Cv, blkAt, geth, getM]), (by simp [CvB, CvL, Cv, blkAt, geth, getM]), (by simp [CvB, CvL, Cv, blkAt, geth, getM]), (by simp [CvB, CvL, Cv, blkAt, geth, getM]), (CvB_focG (i := r4.toNat) (L := r7.List) nr_TSleeper (fun x y hx => by simp only [upc_ne hx]) (fun y hy => match y, hy with | 0, _ => by simp [upc_ii, getL, Cv, getM, enR, c_TSleeper] | 1, _ => by simp [upc_ii, getL, Cv, getM, enR, c_TSleeper] | 2, _ => by simp [upc_ii, getL, Cv, getM, enR, c_TSleeper] | (y+3), h => absurd h (by omega))), CvB_dead, (CvB_same nfA), (by simp [CvB, CvL, Cv, blkAt, geth, getM]), (CvB_same nfA), (CvB_same nfA), (by simp [CvB, CvL, Cv, blkAt, geth, getM]), trivial⟩
        · obtain ⟨v2_1, v2_2⟩ := s
          unfold F29_L2 at H
          try dsimp only at H ⊢
          try simp only [tp]
          refine sq ctNo_ok ?_
          simp only [go_sem, Nat.reduceLeDiff, Nat.reduceLT, Nat.reduceAdd, Nat.reduceMul, Nat.reduceSub, Nat.reduceEqDiff, Nat.reduceBEq, Int.reduceToNat, reduceCtorEq, upc_ii]
          refine seqM ?_
          refine condM' rfl trivial (fun hc => ?_) (fun hc => ?_)
          · replace H := cond_f hc H
            refine rg ctNo_ok ?_
            simp only [go_sem, Nat.reduceLeDiff, Nat.reduceLT, Nat.reduceAdd, Nat.reduceMul, Nat.reduceSub, Nat.reduceEqDiff, Nat.reduceBEq, Int.reduceToNat, reduceCtorEq, upc_ii]
            refine ⟨_, (Option.some.inj H).symm, ?_⟩
            refine SubF_of ⟨[some 0, some 1, some 2, some 3, some 4, some 5, some 6, some 7, some 8, some 9, some 10, some 11, some 12, some 13], ?_, ?_, by rfl, by rfl⟩
            · simp [CvL, Cv, getM, tp]
            · exact ⟨(by simp [CvB, CvL, Cv, blkAt, geth, getM]), (by simp [CvB, CvL, Cv, blkAt, geth, getM]), CvB_dead, (by simp [CvB, CvL, Cv, blkAt, geth, getM]), (by simp [CvB, CvL, Cv, blkAt, geth, getM]), (by simp [CvB, CvL, Cv, blkAt, geth, getM]), (by simp [CvB, CvL, Cv, blkAt, geth, getM]), (CvB_focG (i := r4.toNat) (L := r7.List) nr_TSleeper (fun x y hx => by simp only [upc_ne hx]) (fun y hy => match y, hy with | 0, _ => by simp [upc_ii, getL, Cv, getM, enR, c_TSleeper] | 1, _ => by simp [upc_ii, getL, Cv, getM, enR, c_TSleeper] | 2, _ => by simp [upc_ii, getL, Cv, getM, enR, c_TSleeper] | (y+3), h => absurd h (by omega))), CvB_dead, (CvB_same nfA), (by simp [CvB, CvL, Cv, blkAt, geth, getM]), (CvB_same nfA), (CvB_same nfA), (by simp [CvB, CvL, Cv, blkAt, geth, getM]), trivial⟩
          replace H := cond_t hc H
          refine rg ctNo_ok ?_
          simp only [go_sem, Nat.reduceLeDiff, Nat.reduceLT, Nat.reduceAdd, Nat.reduceMul, Nat.reduceSub, Nat.reduceEqDiff, Nat.reduceBEq, Int.reduceToNat, reduceCtorEq, upc_ii]
          refine seqM ?_
          refine blkM ?_
          refine seqM ?_
          obtain ⟨f10, H⟩ := need_some.1 H
          replace f10 := inb_iff.1 f10
          refine rg ctNo_ok ?_
          simp only [go_sem, Nat.reduceLeDiff, Nat.reduceLT, Nat.reduceAdd, Nat.reduceMul, Nat.reduceSub, Nat.reduceEqDiff, Nat.reduceBEq, Int.reduceToNat, reduceCtorEq, upc_ii, f10]
          repeat ((with_reducible refine And.intro ?_ ?_); focus (first | (with_reducible trivial) | omega | grind))
          refine seqM ?_
          obtain ⟨r11, e12, H⟩ := bsi H
          obtain ⟨f13, H⟩ := need_some.1 H
          replace f13 := g_iff.1 f13
          replace f13 := fun g => inb_iff.1 (f13 g)
          refine draw_quiet shT_ok ct29t3_ok (by kernel_rfl) (by kernel_rfl) ?_
          simp only [go_sem, Nat.reduceLeDiff, Nat.reduceLT, Nat.reduceAdd, Nat.reduceMul, Nat.reduceSub, Nat.reduceEqDiff, Nat.reduceBEq, Int.reduceToNat, reduceCtorEq, upc_ii, ct29t3_56, body56_0, e12]
          repeat ((with_reducible refine And.intro ?_ ?_); focus (first | (with_reducible trivial) | omega | exact f13 | (intro g; have q := f13 (by first | exact g | (rw [g]; rfl) | simpa using g); first | exact q | exact ⟨q.1, q.2.1⟩ | exact q.2.2 | omega | exact ⟨g, q⟩ | exact ⟨trivial, q⟩ | exact ⟨g, q.1, q.2.1⟩ | exact ⟨g, q.2.2⟩) | (intro g; (try have q0 := f13 (by first | exact g | (rw [g]; rfl) | simpa using g)); and_intros <;> first | (with_reducible trivial) | assumption | exact nfc | (intro g2; rw [g, g2]; rfl) | (intro g2; assumption) | (simp only [g, Bool.true_and, Bool.and_true, Bool.not_false, Bool.not_true]; assumption) | grind) | (and_intros <;> first | (with_reducible trivial) | omega | assumption | exact nfc | first | exact rfl | exact trivial | exact fitI | exact .inr rfl | exact .inl rfl | exact fun x hx => absurd hx (by omega)) | grind))
          refine condM rfl trivial (fun hc => ?_) (fun hc => ?_)
          · replace H := cond_t hc H
            refine rg ctNo_ok ?_
            simp only [go_sem, Nat.reduceLeDiff, Nat.reduceLT, Nat.reduceAdd, Nat.reduceMul, Nat.reduceSub, Nat.reduceEqDiff, Nat.reduceBEq, Int.reduceToNat, reduceCtorEq, upc_ii]
            refine rg ctNo_ok ?_
            simp only [go_sem, Nat.reduceLeDiff, Nat.reduceLT, Nat.reduceAdd, Nat.reduceMul, Nat.reduceSub, Nat.reduceEqDiff, Nat.reduceBEq, Int.reduceToNat, reduceCtorEq, upc_ii]
            refine ⟨_, (Option.some.inj H).symm, ?_⟩
            refine SubF_of ⟨[some 0, some 1, some 2, some 3, some 4, some 5, some 6, some 7, some 8, some 9, some 10, some 11, some 12, some 13], ?_, ?_, by rfl, by rfl⟩
            · simp [CvL, Cv, getM, tp]
            · exact ⟨(by simp [CvB, CvL, Cv, blkAt, geth, getM]), (by simp [CvB, CvL, Cv, blkAt, geth, getM]), CvB_dead, (by simp [CvB, CvL, Cv, blkAt, geth, getM]), (by simp [CvB, CvL, Cv, blkAt, geth, getM]), (by simp [CvB, CvL, Cv, blkAt, geth, getM]), (by simp [CvB, CvL, Cv, blkAt, geth, getM]), (CvB_focG (i := r4.toNat) (L := r7.List) nr_TSleeper (fun x y hx => by simp only [upc_ne hx]) (fun y hy => match y, hy with | 0, _ => by simp [upc_ii, getL, Cv, getM, enR, c_TSleeper] | 1, _ => by simp [upc_ii, getL, Cv, getM, enR, c_TSleeper] | 2, _ => by simp [upc_ii, getL, Cv, getM, enR, c_TSleeper] | (y+3), h => absurd h (by omega))), CvB_dead, (CvB_same nfA), (by simp [CvB, CvL, Cv, blkAt, geth, getM]), (CvB_same nfA), (CvB_same nfA), (by simp [CvB, CvL, Cv, blkAt, geth, getM]), trivial⟩
          replace H := cond_f hc H
          refine rg ctNo_ok ?_
          simp only [go_sem, Nat.reduceLeDiff, Nat.reduceLT, Nat.reduceAdd, Nat.reduceMul, Nat.reduceSub, Nat.reduceEqDiff, Nat.reduceBEq, Int.reduceToNat, reduceCtorEq, upc_ii]
          refine rg ctNo_ok ?_
          simp only [go_sem, Nat.reduceLeDiff, Nat.reduceLT, Nat.reduceAdd, Nat.reduceMul, Nat.reduceSub, Nat.reduceEqDiff, Nat.reduceBEq, Int.reduceToNat, reduceCtorEq, upc_ii]
          refine ⟨_, (Option.some.inj H).symm, ?_⟩
          refine SubF_of ⟨[some 0, some 1, some 2, some 3, some 4, some 5, some 6, some 7, some 8, some 9, some 10, some 11, some 12, some 13], ?_, ?_, by rfl, by rfl⟩
          · simp [CvL, Cv, getM, tp]
          · exact ⟨(by simp [CvB, CvL, Cv, blkAt, geth, getM]), (by simp [CvB, CvL, Cv, blkAt, geth, getM]), CvB_dead, (by simp [CvB, CvL, Cv, blkAt, geth, getM]), (by simp [CvB, CvL, Cv, blkAt, geth, getM]), (by simp [CvB, CvL, Cv, blkAt, geth, getM]), (by simp [CvB, CvL, Cv, blkAt, geth, getM]), (CvB_focG (i := r4.toNat) (L := r7.List) nr_TSleeper (fun x y hx => by simp only [upc_ne hx]) (fun y hy => match y, hy with | 0, _ => by simp [upc_ii, getL, Cv, getM, enR, c_TSleeper] | 1, _ => by simp [upc_ii, getL, Cv, getM, enR, c_TSleeper] | 2, _ => by simp [upc_ii, getL, Cv, getM, enR, c_TSleeper] | (y+3), h => absurd h (by omega))), CvB_dead, (CvB_same nfA), (by simp [CvB, CvL, Cv, blkAt, geth, getM]), (CvB_same nfA), (CvB_same nfA), (by simp [CvB, CvL, Cv, blkAt, geth, getM]), trivial⟩
        · try dsimp only at H ⊢
          try simp only [tp]
          try simp only [m_normal, k_normal, b_normal, kL_normal, r_normal]
          refine seqM ?_
          refine sq ctNo_ok ?_
          simp only [go_sem, Nat.reduceLeDiff, Nat.reduceLT, Nat.reduceAdd, Nat.reduceMul, Nat.reduceSub, Nat.reduceEqDiff, Nat.reduceBEq, Int.reduceToNat, reduceCtorEq, upc_ii]
          refine condM rfl trivial (fun hc => ?_) (fun hc => ?_)
          · replace H := cond_t hc H
            refine sq ctNo_ok ?_
            simp only [go_sem, Nat.reduceLeDiff, Nat.reduceLT, Nat.reduceAdd, Nat.reduceMul, Nat.reduceSub, Nat.reduceEqDiff, Nat.reduceBEq, Int.reduceToNat, reduceCtorEq, upc_ii]
            repeat ((with_reducible refine And.intro ?_ ?_); focus (first | (with_reducible trivial) | omega | grind))
            refine rg ctNo_ok ?_
            simp only [go_sem, Nat.reduceLeDiff, Nat.reduceLT, Nat.reduceAdd, Nat.reduceMul, Nat.reduceSub, Nat.reduceEqDiff, Nat.reduceBEq, Int.reduceToNat, reduceCtorEq, upc_ii]
            refine cutO shT_ok ctNo_ok 6 ?_
            simp only [kO_normal, List.take_succ_cons, List.take_zero, List.drop_succ_cons, List.drop_zero, go_sem, Nat.reduceLeDiff, Nat.reduceLT, Nat.reduceAdd, Nat.reduceMul, Nat.reduceSub, Nat.reduceEqDiff, Nat.reduceBEq, Int.reduceToNat, reduceCtorEq, upc_ii]
            repeat ((with_reducible refine And.intro ?_ ?_); focus (first | (and_intros <;> first | (with_reducible trivial) | omega | assumption | exact nfc | first | exact rfl | exact trivial | exact fitI | exact .inr rfl | exact .inl rfl | exact fun x hx => absurd hx (by omega)) | grind))
            refine endO ?_
            refine seqM ?_
            refine sq ctNo_ok ?_
            simp only [go_sem, Nat.reduceLeDiff, Nat.reduceLT, Nat.reduceAdd, Nat.reduceMul, Nat.reduceSub, Nat.reduceEqDiff, Nat.reduceBEq, Int.reduceToNat, reduceCtorEq, upc_ii]
            refine condM rfl trivial (fun hc => ?_) (fun hc => ?_)
            rotate_left
            · cases hc
            refine rg ctNo_ok ?_
            simp only [go_sem, Nat.reduceLeDiff, Nat.reduceLT, Nat.reduceAdd, Nat.reduceMul, Nat.reduceSub, Nat.reduceEqDiff, Nat.reduceBEq, Int.reduceToNat, reduceCtorEq, upc_ii]
            refine ⟨_, (Option.some.inj H).symm, ?_⟩
            refine SubF_of ⟨[some 0, some 1, some 2, some 3, some 4, some 5, some 6, some 7, some 8, some 9, some 10, some 11, some 12], ?_, ?_, by rfl, by rfl⟩
            · simp [CvL, Cv, getM, tp]
            · exact ⟨(by simp [CvB, CvL, Cv, blkAt, geth, getM]), CvB_dead, CvB_dead, (by simp [CvB, CvL, Cv, blkAt, geth, getM]), (by simp [CvB, CvL, Cv, blkAt, geth, getM]), (by simp [CvB, CvL, Cv, blkAt, geth, getM]), (by simp [CvB, CvL, Cv, blkAt, geth, getM]), (CvB_focG (i := r4.toNat) (L := r7.List) nr_TSleeper (fun x y hx => by simp only [upc_ne hx]) (fun y hy => match y, hy with | 0, _ => by simp [upc_ii, getL, Cv, getM, enR, c_TSleeper] | 1, _ => by simp [upc_ii, getL, Cv, getM, enR, c_TSleeper] | 2, _ => by simp [upc_ii, getL, Cv, getM, enR, c_TSleeper] | (y+3), h => absurd h (by omega))), CvB_dead, (CvB_same nfA), (by simp [CvB, CvL, Cv, blkAt, geth, getM]), CvB_row nr_TFrame (by first | rfl | (simp; done) | (simp; omega)) (fun _ _ _ _ => rfl), CvB_row nr_TStored (by first | rfl | (simp; done) | (simp; omega)) (fun _ _ _ _ => rfl), trivial⟩
          replace H := cond_f hc H
          refine rg ctNo_ok ?_
          simp only [go_sem, Nat.reduceLeDiff, Nat.reduceLT, Nat.reduceAdd, Nat.reduceMul, Nat.reduceSub, Nat.reduceEqDiff, Nat.reduceBEq, Int.reduceToNat, reduceCtorEq, upc_ii]
          refine seqM ?_
          obtain ⟨f14, H⟩ := need_some.1 H
          replace f14 := inb_iff.1 f14
          refine rg ctNo_ok ?_
          simp only [go_sem, Nat.reduceLeDiff, Nat.reduceLT, Nat.reduceAdd, Nat.reduceMul, Nat.reduceSub, Nat.reduceEqDiff, Nat.reduceBEq, Int.reduceToNat, reduceCtorEq, upc_ii, f14]
          repeat ((with_reducible refine And.intro ?_ ?_); focus (first | (with_reducible trivial) | omega | grind))
          refine seqM ?_
          obtain ⟨f15, H⟩ := need_some.1 H
          replace f15 := delb_iff.1 f15
          refine rg ct29t4_ok ?_
          simp only [go_sem, Nat.reduceLeDiff, Nat.reduceLT, Nat.reduceAdd, Nat.reduceMul, Nat.reduceSub, Nat.reduceEqDiff, Nat.reduceBEq, Int.reduceToNat, reduceCtorEq, upc_ii, ct29t4_73, delN, f15]
          repeat ((with_reducible refine And.intro ?_ ?_); focus (first | (and_intros <;> first | (with_reducible trivial) | omega | assumption | exact nfc | first | exact rfl | exact trivial | exact fitI | exact .inr rfl | exact .inl rfl | exact fun x hx => absurd hx (by omega)) | grind))
          refine seqM ?_
          obtain ⟨w16, hw17, H⟩ := bsi H
          replace hw17 := Option.some.inj hw17
          have lhw17 : w16.length = v1_2.length - ((wr .i64 (w2_3 + 1)).toNat - w2_3.toNat) := by rw [← hw17]; exact (del_len f15 (by first | rfl | (simp; done) | (simp; omega)))
          refine subF_mean (t2 := (.top :: .top :: .ptr 13 0 0 0 :: tp 4 (.ptr 14 0 0 0 :: tp 55 []))) (h2 := [.lit 52 [.int .i64 r7.Limit, .int .i64 r7.Stay, .sl 7 3 0 r7.List.length false, .sl 9 43 0 r7.Group.length false], .lit 23 [.int .u8 p1.Start, .int .u8 p1.Deliver, .int .i64 p1.Most], .dead, .lit 25 [.int .u8 p3.x0, .int .u8 p3.x1, .int .u8 p3.x2, .int .u8 p3.x3, .int .u8 p3.x4, .int .u8 p3.x5], .lit 25 [.int .u8 p4.x0, .int .u8 p4.x1, .int .u8 p4.x2, .int .u8 p4.x3, .int .u8 p4.x4, .int .u8 p4.x5], .lit 33 [.int .i64 p2, .sl 11 41 0 v1_1.length false], .lit 52 [.int .i64 0, .int .i64 0, .ro 0 0 true (fun _ _ => .top), .ro 0 0 true (fun _ _ => .top)], .row 71 3 r7.List.length (upc (enR c_TSleeper r7.List) r4.toNat 2 [.sl 8 43 0 (((gd r7.List r4.toNat).Held).length) false]), .dead, .row 73 43 r7.Group.length (enR c_TStored r7.Group), .lit 103 [.sl 15 43 0 w16.length false, .int .u8 p1.Deliver], .row 30 41 v1_1.length (enR c_TFrame v1_1), .dead, .lit 30 (.int .u8 0 :: .int .u8 0 :: .bool false :: .bool false :: .bool false :: .bool false :: .bool false :: .bool false :: .bool false :: .int .i64 0 :: .int .u8 0 :: .int .u8 0 :: .int .u8 0 :: .int .u8 0 :: .int .u8 0 :: .int .u8 0 :: .int .u8 0 :: .int .u8 0 :: .int .u8 0 :: .int .u8 0 :: .int .u8 0 :: .int .u8 0 :: .int .u8 0 :: .int .u8 0 :: .int .u8 0 :: .int .u8 0 :: .int .u8 0 :: .int .u8 0 :: .int .u8 0 :: .int .u8 0 :: .int .u8 0 :: .int .u8 0 :: .int .u8 0 :: .int .u8 0 :: .int .i64 0 :: .int .i64 0 :: .int .i64 0 :: .int .u8 0 :: .bool false :: .bool false :: .ro 0 0 true (fun _ _ => .top) :: []), .lit 30 (.int .u8 ((((gd v1_2 w2_3.toNat).Frame).Head).Kind) :: .int .u8 ((((gd v1_2 w2_3.toNat).Frame).Head).Sub) :: .bool ((((gd v1_2 w2_3.toNat).Frame).Head).ToDs) :: .bool ((((gd v1_2 w2_3.toNat).Frame).Head).FromDs) :: .bool ((((gd v1_2 w2_3.toNat).Frame).Head).More) :: .bool ((((gd v1_2 w2_3.toNat).Frame).Head).Retry) :: .bool ((((gd v1_2 w2_3.toNat).Frame).Head).Sleep) :: .bool ((((gd v1_2 w2_3.toNat).Frame).Head).MoreData) :: .bool ((((gd v1_2 w2_3.toNat).Frame).Head).Protected) :: .int .i64 ((((gd v1_2 w2_3.toNat).Frame).Head).Duration) :: .int .u8 (((((gd v1_2 w2_3.toNat).Frame).Head).A1).x0) :: .int .u8 (((((gd v1_2 w2_3.toNat).Frame).Head).A1).x1) :: .int .u8 (((((gd v1_2 w2_3.toNat).Frame).Head).A1).x2) :: .int .u8 (((((gd v1_2 w2_3.toNat).Frame).Head).A1).x3) :: .int .u8 (((((gd v1_2 w2_3.toNat).Frame).Head).A1).x4) :: .int .u8 (((((gd v1_2 w2_3.toNat).Frame).Head).A1).x5) :: .int .u8 (((((gd v1_2 w2_3.toNat).Frame).Head).A2).x0) :: .int .u8 (((((gd v1_2 w2_3.toNat).Frame).Head).A2).x1) :: .int .u8 (((((gd v1_2 w2_3.toNat).Frame).Head).A2).x2) :: .int .u8 (((((gd v1_2 w2_3.toNat).Frame).Head).A2).x3) :: .int .u8 (((((gd v1_2 w2_3.toNat).Frame).Head).A2).x4) :: .int .u8 (((((gd v1_2 w2_3.toNat).Frame).Head).A2).x5) :: .int .u8 (((((gd v1_2 w2_3.toNat).Frame).Head).A3).x0) :: .int .u8 (((((gd v1_2 w2_3.toNat).Frame).Head).A3).x1) :: .int .u8 (((((gd v1_2 w2_3.toNat).Frame).Head).A3).x2) :: .int .u8 (((((gd v1_2 w2_3.toNat).Frame).Head).A3).x3) :: .int .u8 (((((gd v1_2 w2_3.toNat).Frame).Head).A3).x4) :: .int .u8 (((((gd v1_2 w2_3.toNat).Frame).Head).A3).x5) :: .int .u8 (((((gd v1_2 w2_3.toNat).Frame).Head).A4).x0) :: .int .u8 (((((gd v1_2 w2_3.toNat).Frame).Head).A4).x1) :: .int .u8 (((((gd v1_2 w2_3.toNat).Frame).Head).A4).x2) :: .int .u8 (((((gd v1_2 w2_3.toNat).Frame).Head).A4).x3) :: .int .u8 (((((gd v1_2 w2_3.toNat).Frame).Head).A4).x4) :: .int .u8 (((((gd v1_2 w2_3.toNat).Frame).Head).A4).x5) :: .int .i64 ((((gd v1_2 w2_3.toNat).Frame).Head).Seq) :: .int .i64 ((((gd v1_2 w2_3.toNat).Frame).Head).Frag) :: .int .i64 ((((gd v1_2 w2_3.toNat).Frame).Head).Tid) :: .int .u8 ((((gd v1_2 w2_3.toNat).Frame).Head).Ack) :: .bool ((((gd v1_2 w2_3.toNat).Frame).Head).Amsdu) :: .bool ((((gd v1_2 w2_3.toNat).Frame).Head).Eosp) :: .ro 1 ((((gd v1_2 w2_3.toNat).Frame).Body).length) false (enR c_u8 (((gd v1_2 w2_3.toNat).Frame).Body)) :: []), .row 73 43 w16.length (enR c_TStored w16)]) ?_ ?_
          · refine SubF_of ⟨[some 0, some 1, some 2, some 3, some 4, some 5, some 6, some 7, some 8, some 9, some 10, some 11, some 12, some 13, some 14, some 15], ?_, ?_, by rfl, by rfl⟩
            · simp [CvL, Cv, getM, tp, lhw17]
            · exact ⟨(by simp [CvB, CvL, Cv, blkAt, geth, getM, lhw17]), (by simp [CvB, CvL, Cv, blkAt, geth, getM, lhw17]), CvB_dead, (by simp [CvB, CvL, Cv, blkAt, geth, getM, lhw17]), (by simp [CvB, CvL, Cv, blkAt, geth, getM, lhw17]), (by simp [CvB, CvL, Cv, blkAt, geth, getM, lhw17]), (by simp [CvB, CvL, Cv, blkAt, geth, getM, lhw17]), (CvB_focG (i := r4.toNat) (L := r7.List) nr_TSleeper (fun x y hx => by simp only [upc_ne hx]) (fun y hy => match y, hy with | 0, _ => by simp [upc_ii, getL, Cv, getM, enR, c_TSleeper] | 1, _ => by simp [upc_ii, getL, Cv, getM, enR, c_TSleeper] | 2, _ => by simp [upc_ii, getL, Cv, getM, enR, c_TSleeper] | (y+3), h => absurd h (by omega))), CvB_dead, CvB_row nr_TStored rfl (fun _ _ _ _ => rfl), (by simp [CvB, CvL, Cv, blkAt, geth, getM, lhw17]), CvB_row nr_TFrame rfl (fun _ _ _ _ => rfl), CvB_dead, (by simp [CvB, CvL, Cv, blkAt, geth, getM, lhw17]), (by simp [CvB, CvL, Cv, blkAt, geth, getM, lhw17]), CvB_row nr_TStored lhw17 (hw17 ▸ (del_row f15 (by first | rfl | (simp; done) | (simp; omega)) (fun _ _ _ _ => rfl))), trivial⟩
          simp only [tp]
          refine rg ctNo_ok ?_
          simp only [go_sem, Nat.reduceLeDiff, Nat.reduceLT, Nat.reduceAdd, Nat.reduceMul, Nat.reduceSub, Nat.reduceEqDiff, Nat.reduceBEq, Int.reduceToNat, reduceCtorEq, upc_ii]
          repeat ((with_reducible refine And.intro ?_ ?_); focus (first | (with_reducible trivial) | omega | grind))
          refine rg ctNo_ok ?_
          simp only [go_sem, Nat.reduceLeDiff, Nat.reduceLT, Nat.reduceAdd, Nat.reduceMul, Nat.reduceSub, Nat.reduceEqDiff, Nat.reduceBEq, Int.reduceToNat, reduceCtorEq, upc_ii]
          refine cutO shT_ok ctNo_ok 6 ?_
          simp only [kO_normal, List.take_succ_cons, List.take_zero, List.drop_succ_cons, List.drop_zero, go_sem, Nat.reduceLeDiff, Nat.reduceLT, Nat.reduceAdd, Nat.reduceMul, Nat.reduceSub, Nat.reduceEqDiff, Nat.reduceBEq, Int.reduceToNat, reduceCtorEq, upc_ii]
          repeat ((with_reducible refine And.intro ?_ ?_); focus (first | (and_intros <;> first | (with_reducible trivial) | omega | assumption | exact nfc | first | exact rfl | exact trivial | exact fitI | exact .inr rfl | exact .inl rfl | exact fun x hx => absurd hx (by omega)) | grind))
          refine endO ?_
          refine seqM ?_
          refine sq ctNo_ok ?_
          simp only [go_sem, Nat.reduceLeDiff, Nat.reduceLT, Nat.reduceAdd, Nat.reduceMul, Nat.reduceSub, Nat.reduceEqDiff, Nat.reduceBEq, Int.reduceToNat, reduceCtorEq, upc_ii]
          refine condM rfl trivial (fun hc => ?_) (fun hc => ?_)
          · cases hc
          refine rg ctNo_ok ?_
          simp only [go_sem, Nat.reduceLeDiff, Nat.reduceLT, Nat.reduceAdd, Nat.reduceMul, Nat.reduceSub, Nat.reduceEqDiff, Nat.reduceBEq, Int.reduceToNat, reduceCtorEq, upc_ii]
          refine sq ctNo_ok ?_
          simp only [go_sem, Nat.reduceLeDiff, Nat.reduceLT, Nat.reduceAdd, Nat.reduceMul, Nat.reduceSub, Nat.reduceEqDiff, Nat.reduceBEq, Int.reduceToNat, reduceCtorEq, upc_ii]
          repeat ((with_reducible refine And.intro ?_ ?_); focus (first | (with_reducible trivial) | omega | grind))
          obtain ⟨f18, H⟩ := need_some.1 H
          replace f18 := capb_iff.1 f18
          refine rg ctNo_ok ?_
          simp only [go_sem, Nat.reduceLeDiff, Nat.reduceLT, Nat.reduceAdd, Nat.reduceMul, Nat.reduceSub, Nat.reduceEqDiff, Nat.reduceBEq, Int.reduceToNat, reduceCtorEq, upc_ii, f18]
          repeat ((with_reducible refine And.intro ?_ ?_); focus (first | (and_intros <;> first | (with_reducible trivial) | omega | assumption | exact nfc | first | exact rfl | exact trivial | exact fitI | exact .inr rfl | exact .inl rfl | exact fun x hx => absurd hx (by omega) | (intro x hx; (repeat (first | (and_intros <;> (first | exact rfl | exact trivial | exact fitI | exact .inr rfl | exact .inl rfl | exact fun x hx => absurd hx (by omega))) | (exfalso; omega) | (rcases x with _ | x))); done) | (refine Fit_app ?_ ?_ <;> first | exact fitI | (intro x hx; (repeat (first | (and_intros <;> (first | exact rfl | exact trivial | exact fitI | exact .inr rfl | exact .inl rfl | exact fun x hx => absurd hx (by omega))) | (exfalso; omega) | (rcases x with _ | x))); done) | (refine Fit_app ?_ ?_ <;> first | exact fitI | (intro x hx; (repeat (first | (and_intros <;> (first | exact rfl | exact trivial | exact fitI | exact .inr rfl | exact .inl rfl | exact fun x hx => absurd hx (by omega))) | (exfalso; omega) | (rcases x with _ | x))); done)))) | grind))
          refine ⟨_, (Option.some.inj H).symm, ?_⟩
          refine SubF_of ⟨[some 0, some 1, some 2, some 3, some 4, some 5, some 6, some 7, some 8, some 9, some 10, some 18, some 15], ?_, ?_, by rfl, by rfl⟩
          · simp [CvL, Cv, getM, tp]
          · exact ⟨(by simp [CvB, CvL, Cv, blkAt, geth, getM]), (by simp [CvB, CvL, Cv, blkAt, geth, getM]), CvB_dead, (by simp [CvB, CvL, Cv, blkAt, geth, getM]), (by simp [CvB, CvL, Cv, blkAt, geth, getM]), (by simp [CvB, CvL, Cv, blkAt, geth, getM]), (by simp [CvB, CvL, Cv, blkAt, geth, getM]), (CvB_focG (i := r4.toNat) (L := r7.List) nr_TSleeper (fun x y hx => by simp only [upc_ne hx]) (fun y hy => match y, hy with | 0, _ => by simp [upc_ii, getL, Cv, getM, enR, c_TSleeper] | 1, _ => by simp [upc_ii, getL, Cv, getM, enR, c_TSleeper] | 2, _ => by simp [upc_ii, getL, Cv, getM, enR, c_TSleeper] | (y+3), h => absurd h (by omega))), CvB_dead, (CvB_same nfA), (by simp [CvB, CvL, Cv, blkAt, geth, getM]), CvB_row nr_TFrame (by first | rfl | (simp; done) | (simp; omega)) (app_row (f := c_TFrame) v1_1 [(TFrame.mk (THeader.mk ((((gd v1_2 w2_3.toNat).Frame).Head).Kind) ((((gd v1_2 w2_3.toNat).Frame).Head).Sub) ((((gd v1_2 w2_3.toNat).Frame).Head).ToDs) ((((gd v1_2 w2_3.toNat).Frame).Head).FromDs) ((((gd v1_2 w2_3.toNat).Frame).Head).More) ((((gd v1_2 w2_3.toNat).Frame).Head).Retry) ((((gd v1_2 w2_3.toNat).Frame).Head).Sleep) true ((((gd v1_2 w2_3.toNat).Frame).Head).Protected) ((((gd v1_2 w2_3.toNat).Frame).Head).Duration) (A6u8.mk (((((gd v1_2 w2_3.toNat).Frame).Head).A1).x0) (((((gd v1_2 w2_3.toNat).Frame).Head).A1).x1) (((((gd v1_2 w2_3.toNat).Frame).Head).A1).x2) (((((gd v1_2 w2_3.toNat).Frame).Head).A1).x3) (((((gd v1_2 w2_3.toNat).Frame).Head).A1).x4) (((((gd v1_2 w2_3.toNat).Frame).Head).A1).x5)) (A6u8.mk (((((gd v1_2 w2_3.toNat).Frame).Head).A2).x0) (((((gd v1_2 w2_3.toNat).Frame).Head).A2).x1) (((((gd v1_2 w2_3.toNat).Frame).Head).A2).x2) (((((gd v1_2 w2_3.toNat).Frame).Head).A2).x3) (((((gd v1_2 w2_3.toNat).Frame).Head).A2).x4) (((((gd v1_2 w2_3.toNat).Frame).Head).A2).x5)) (A6u8.mk (((((gd v1_2 w2_3.toNat).Frame).Head).A3).x0) (((((gd v1_2 w2_3.toNat).Frame).Head).A3).x1) (((((gd v1_2 w2_3.toNat).Frame).Head).A3).x2) (((((gd v1_2 w2_3.toNat).Frame).Head).A3).x3) (((((gd v1_2 w2_3.toNat).Frame).Head).A3).x4) (((((gd v1_2 w2_3.toNat).Frame).Head).A3).x5)) (A6u8.mk (((((gd v1_2 w2_3.toNat).Frame).Head).A4).x0) (((((gd v1_2 w2_3.toNat).Frame).Head).A4).x1) (((((gd v1_2 w2_3.toNat).Frame).Head).A4).x2) (((((gd v1_2 w2_3.toNat).Frame).Head).A4).x3) (((((gd v1_2 w2_3.toNat).Frame).Head).A4).x4) (((((gd v1_2 w2_3.toNat).Frame).Head).A4).x5)) ((((gd v1_2 w2_3.toNat).Frame).Head).Seq) ((((gd v1_2 w2_3.toNat).Frame).Head).Frag) ((((gd v1_2 w2_3.toNat).Frame).Head).Tid) ((((gd v1_2 w2_3.toNat).Frame).Head).Ack) ((((gd v1_2 w2_3.toNat).Frame).Head).Amsdu) false) (((gd v1_2 w2_3.toNat).Frame).Body))] (fun _ _ _ _ => rfl) (lit_row (f := c_TFrame) [(TFrame.mk (THeader.mk ((((gd v1_2 w2_3.toNat).Frame).Head).Kind) ((((gd v1_2 w2_3.toNat).Frame).Head).Sub) ((((gd v1_2 w2_3.toNat).Frame).Head).ToDs) ((((gd v1_2 w2_3.toNat).Frame).Head).FromDs) ((((gd v1_2 w2_3.toNat).Frame).Head).More) ((((gd v1_2 w2_3.toNat).Frame).Head).Retry) ((((gd v1_2 w2_3.toNat).Frame).Head).Sleep) true ((((gd v1_2 w2_3.toNat).Frame).Head).Protected) ((((gd v1_2 w2_3.toNat).Frame).Head).Duration) (A6u8.mk (((((gd v1_2 w2_3.toNat).Frame).Head).A1).x0) (((((gd v1_2 w2_3.toNat).Frame).Head).A1).x1) (((((gd v1_2 w2_3.toNat).Frame).Head).A1).x2) (((((gd v1_2 w2_3.toNat).Frame).Head).A1).x3) (((((gd v1_2 w2_3.toNat).Frame).Head).A1).x4) (((((gd v1_2 w2_3.toNat).Frame).Head).A1).x5)) (A6u8.mk (((((gd v1_2 w2_3.toNat).Frame).Head).A2).x0) (((((gd v1_2 w2_3.toNat).Frame).Head).A2).x1) (((((gd v1_2 w2_3.toNat).Frame).Head).A2).x2) (((((gd v1_2 w2_3.toNat).Frame).Head).A2).x3) (((((gd v1_2 w2_3.toNat).Frame).Head).A2).x4) (((((gd v1_2 w2_3.toNat).Frame).Head).A2).x5)) (A6u8.mk (((((gd v1_2 w2_3.toNat).Frame).Head).A3).x0) (((((gd v1_2 w2_3.toNat).Frame).Head).A3).x1) (((((gd v1_2 w2_3.toNat).Frame).Head).A3).x2) (((((gd v1_2 w2_3.toNat).Frame).Head).A3).x3) (((((gd v1_2 w2_3.toNat).Frame).Head).A3).x4) (((((gd v1_2 w2_3.toNat).Frame).Head).A3).x5)) (A6u8.mk (((((gd v1_2 w2_3.toNat).Frame).Head).A4).x0) (((((gd v1_2 w2_3.toNat).Frame).Head).A4).x1) (((((gd v1_2 w2_3.toNat).Frame).Head).A4).x2) (((((gd v1_2 w2_3.toNat).Frame).Head).A4).x3) (((((gd v1_2 w2_3.toNat).Frame).Head).A4).x4) (((((gd v1_2 w2_3.toNat).Frame).Head).A4).x5)) ((((gd v1_2 w2_3.toNat).Frame).Head).Seq) ((((gd v1_2 w2_3.toNat).Frame).Head).Frag) ((((gd v1_2 w2_3.toNat).Frame).Head).Tid) ((((gd v1_2 w2_3.toNat).Frame).Head).Ack) ((((gd v1_2 w2_3.toNat).Frame).Head).Amsdu) false) (((gd v1_2 w2_3.toNat).Frame).Body))] (fun _ _ => rfl) rfl)), CvB_row nr_TStored (by first | rfl | (simp; done) | (simp; omega)) (fun _ _ _ _ => rfl), trivial⟩
      · obtain ⟨w1_5, w1_6⟩ := e
        try dsimp only at H ⊢
        try simp only [tp]
        try simp only [m_normal, k_normal, b_normal, kL_normal, r_normal]
        refine seqM ?_
        obtain ⟨f19, H⟩ := need_some.1 H
        replace f19 := inb_iff.1 f19
        refine draw_rule shT_ok ctNo_ok 0 (by kernel_rfl) (by kernel_rfl) ?_
        intro an han
        simp only [d_nil, d_cons, nxtD, xrD, xoD, roEq, minL, List.append_nil, refsOp, refs, refsL, mask, maskF, place, placeF, okLog, pairOk, hit, inL, slotsF, ren, renL, rnN, nrH, nrB, nrL, nr, dead0, deadS, List.replicate_zero, List.replicate_succ, Nat.sub_self, Nat.add_zero, Nat.zero_add, Nat.reduceSub, Nat.not_lt_zero, Nat.zero_le, Nat.lt_add_one, go_sem, Nat.reduceLeDiff, Nat.reduceLT, Nat.reduceAdd, Nat.reduceMul, Nat.reduceSub, Nat.reduceEqDiff, Nat.reduceBEq, Int.reduceToNat, reduceCtorEq, upc_ii, f19]
        repeat ((with_reducible refine And.intro ?_ ?_); focus (and_intros <;> first | (with_reducible trivial) | (show anB _ _ _ = true; subst han; kernel_rfl) | (show (anB _ _ _ && _) = true; subst han; kernel_rfl) | omega | assumption | exact nrc | exact nfc | first | exact rfl | exact trivial | exact fitI | exact .inr rfl | exact .inl rfl | exact fun x hx => absurd hx (by omega)))
        refine seqM ?_
        obtain ⟨r20, e21, H⟩ := bsi H
        refine rg ct29t5_ok ?_
        simp only [go_sem, Nat.reduceLeDiff, Nat.reduceLT, Nat.reduceAdd, Nat.reduceMul, Nat.reduceSub, Nat.reduceEqDiff, Nat.reduceBEq, Int.reduceToNat, reduceCtorEq, upc_ii, ct29t5_49, body49_0, e21]
        repeat ((with_reducible refine And.intro ?_ ?_); focus (first | (and_intros <;> first | (with_reducible trivial) | omega | assumption | exact nfc | first | exact rfl | exact trivial | exact fitI | exact .inr rfl | exact .inl rfl | exact fun x hx => absurd hx (by omega)) | grind))
        refine seqM ?_
        refine sq ctNo_ok ?_
        simp only [go_sem, Nat.reduceLeDiff, Nat.reduceLT, Nat.reduceAdd, Nat.reduceMul, Nat.reduceSub, Nat.reduceEqDiff, Nat.reduceBEq, Int.reduceToNat, reduceCtorEq, upc_ii]
        repeat ((with_reducible refine And.intro ?_ ?_); focus (first | (and_intros <;> first | (with_reducible trivial) | omega | assumption | exact nfc | first | exact rfl | exact trivial | exact fitI | exact .inr rfl | exact .inl rfl | exact fun x hx => absurd hx (by omega)) | grind))
        refine condM' rfl trivial (fun hc => ?_) (fun hc => ?_)
        · replace H := cond_f hc H
          refine rg ctNo_ok ?_
          simp only [go_sem, Nat.reduceLeDiff, Nat.reduceLT, Nat.reduceAdd, Nat.reduceMul, Nat.reduceSub, Nat.reduceEqDiff, Nat.reduceBEq, Int.reduceToNat, reduceCtorEq, upc_ii]
          refine seqM ?_
          obtain ⟨f29, H⟩ := need_some.1 H
          replace f29 := inb_iff.1 f29
          refine rg ctNo_ok ?_
          simp only [go_sem, Nat.reduceLeDiff, Nat.reduceLT, Nat.reduceAdd, Nat.reduceMul, Nat.reduceSub, Nat.reduceEqDiff, Nat.reduceBEq, Int.reduceToNat, reduceCtorEq, upc_ii, f29]
          repeat ((with_reducible refine And.intro ?_ ?_); focus (first | (and_intros <;> first | (with_reducible trivial) | omega | assumption | exact nfc | first | exact rfl | exact trivial | exact fitI | exact .inr rfl | exact .inl rfl | exact fun x hx => absurd hx (by omega)) | grind))
          refine sq ctNo_ok ?_
          simp only [go_sem, Nat.reduceLeDiff, Nat.reduceLT, Nat.reduceAdd, Nat.reduceMul, Nat.reduceSub, Nat.reduceEqDiff, Nat.reduceBEq, Int.reduceToNat, reduceCtorEq, upc_ii]
          repeat ((with_reducible refine And.intro ?_ ?_); focus (first | (with_reducible trivial) | omega | grind))
          refine seqM ?_
          refine draw_rule shT_ok ctNo_ok 0 (by kernel_rfl) (by kernel_rfl) ?_
          intro an han
          simp only [d_nil, d_cons, nxtD, xrD, xoD, roEq, minL, List.append_nil, refsOp, refs, refsL, mask, maskF, place, placeF, okLog, pairOk, hit, inL, slotsF, ren, renL, rnN, nrH, nrB, nrL, nr, dead0, deadS, List.replicate_zero, List.replicate_succ, Nat.sub_self, Nat.add_zero, Nat.zero_add, Nat.reduceSub, Nat.not_lt_zero, Nat.zero_le, Nat.lt_add_one, go_sem, Nat.reduceLeDiff, Nat.reduceLT, Nat.reduceAdd, Nat.reduceMul, Nat.reduceSub, Nat.reduceEqDiff, Nat.reduceBEq, Int.reduceToNat, reduceCtorEq, upc_ii]
          repeat ((with_reducible refine And.intro ?_ ?_); focus (and_intros <;> first | (with_reducible trivial) | (show anB _ _ _ = true; subst han; kernel_rfl) | (show (anB _ _ _ && _) = true; subst han; kernel_rfl) | omega | assumption | exact nrc | exact nfc | first | exact rfl | exact trivial | exact fitI | exact .inr rfl | exact .inl rfl | exact fun x hx => absurd hx (by omega)))
          refine fz2_mean [12] [7] ?_ ?_
          · simp only [go_sem, Nat.reduceEqDiff, Nat.reduceBEq, Nat.reduceAdd, fzObHF2, fzObB2]
            first | exact (foc_ob (L := r7.List) (i := r4.toNat) (fun a y => nrefL_getL (nr_TSleeper a) y) (fun x y hx => by simp only [upc_ne hx]) (fun y hy => match y, hy with | 0, _ => (by (simp [upc_ii, getL, fzOb, inL, geth, rowOb, enR, c_TSleeper]; all_goals (first | (with_reducible trivial) | (intros; exact nrefL_getL (NRf.h _) _) | (intros; exact nfc)))) | 1, _ => (by (simp [upc_ii, getL, fzOb, inL, geth, rowOb, enR, c_TSleeper]; all_goals (first | (with_reducible trivial) | (intros; exact nrefL_getL (NRf.h _) _) | (intros; exact nfc)))) | 2, _ => (by (simp [upc_ii, getL, fzOb, inL, geth, rowOb, enR, c_TSleeper]; all_goals (first | (with_reducible trivial) | (intros; exact nrefL_getL (NRf.h _) _) | (intros; exact nfc)))) | (y+3), h => absurd h (by omega))) | (and_intros <;> first | exact (foc_ob (L := r7.List) (i := r4.toNat) (fun a y => nrefL_getL (nr_TSleeper a) y) (fun x y hx => by simp only [upc_ne hx]) (fun y hy => match y, hy with | 0, _ => (by (simp [upc_ii, getL, fzOb, inL, geth, rowOb, enR, c_TSleeper]; all_goals (first | (with_reducible trivial) | (intros; exact nrefL_getL (NRf.h _) _) | (intros; exact nfc)))) | 1, _ => (by (simp [upc_ii, getL, fzOb, inL, geth, rowOb, enR, c_TSleeper]; all_goals (first | (with_reducible trivial) | (intros; exact nrefL_getL (NRf.h _) _) | (intros; exact nfc)))) | 2, _ => (by (simp [upc_ii, getL, fzOb, inL, geth, rowOb, enR, c_TSleeper]; all_goals (first | (with_reducible trivial) | (intros; exact nrefL_getL (NRf.h _) _) | (intros; exact nfc)))) | (y+3), h => absurd h (by omega))) | (with_reducible trivial) | omega | exact nfc | trivial)
          simp only [go_sem, Nat.reduceEqDiff, Nat.reduceBEq, Nat.reduceAdd, fzH2, fzHF2, fzB2]
          obtain ⟨w30, hw31, H⟩ := bsi H
          replace hw31 := Option.some.inj hw31
          have lhw31 : w30.length = r7.List.length := by rw [← hw31]; exact (by simp only [List.length_set])
          obtain ⟨w32, hw33, H⟩ := bsi H
          replace hw33 := Option.some.inj hw33
          have lhw33 : w32.length = w1_5.length := by rw [← hw33]; exact (by first | rfl | (simp; done) | (simp; omega))
          refine subF_mean (t2 := (tp 10 (.ptr 5 0 0 0 :: .ptr 6 0 0 0 :: .int .i64 0 :: tp 127 []))) (h2 := [.lit 52 [.int .i64 r7.Limit, .int .i64 r7.Stay, .sl 7 3 0 w30.length false, .sl 9 43 0 r7.Group.length false], .dead, .dead, .lit 25 [.int .u8 p3.x0, .int .u8 p3.x1, .int .u8 p3.x2, .int .u8 p3.x3, .int .u8 p3.x4, .int .u8 p3.x5], .lit 25 [.int .u8 p4.x0, .int .u8 p4.x1, .int .u8 p4.x2, .int .u8 p4.x3, .int .u8 p4.x4, .int .u8 p4.x5], .lit 33 [.int .i64 p2, .sl 11 41 0 w32.length false], .lit 52 [.int .i64 r7.Limit, .int .i64 r7.Stay, .sl 7 3 0 w30.length false, .sl 9 43 0 r7.Group.length false], .row 71 3 w30.length (enR c_TSleeper w30), .dead, .row 73 43 r7.Group.length (enR c_TStored r7.Group), .lit 103 [.ro 43 w1_6.length false (enR c_TStored w1_6), .int .u8 p1.Deliver], .row 30 41 w32.length (enR c_TFrame w32), .dead]) ?_ ?_
          · refine SubF_of ⟨[some 0, some 1, some 2, some 3, some 4, some 5, some 6, some 7, some 8, some 9, some 10, some 11, some 12], ?_, ?_, by rfl, by rfl⟩
            · simp [CvL, Cv, getM, tp, lhw31, lhw33]
            · exact ⟨(by simp [CvB, CvL, Cv, blkAt, geth, getM, lhw31, lhw33]), CvB_dead, CvB_dead, (by simp [CvB, CvL, Cv, blkAt, geth, getM, lhw31, lhw33]), (by simp [CvB, CvL, Cv, blkAt, geth, getM, lhw31, lhw33]), (by simp [CvB, CvL, Cv, blkAt, geth, getM, lhw31, lhw33]), (by simp [CvB, CvL, Cv, blkAt, geth, getM, lhw31, lhw33]), CvB_row nr_TSleeper lhw31 (hw31 ▸ (foc_row (L := r7.List) (i := r4.toNat) (fun a y => nrefL_getL (nr_TSleeper a) y) (fun x y hx => by simp only [upc_ne hx]) (fun y hy => match y, hy with | 0, _ => by simp [upc_ii, getL, fzV, inL, geth, enR, c_TSleeper, sub_enR0] | 1, _ => by simp [upc_ii, getL, fzV, inL, geth, enR, c_TSleeper, sub_enR0] | 2, _ => by simp [upc_ii, getL, fzV, inL, geth, enR, c_TSleeper, sub_enR0] | (y+3), h => absurd h (by omega)))), CvB_dead, CvB_row nr_TStored rfl (fun _ _ _ _ => rfl), (by simp [CvB, CvL, Cv, blkAt, geth, getM, lhw31, lhw33]), CvB_row nr_TFrame lhw33 (hw33 ▸ (upc_row (f := c_TFrame) (w1_5.set ((wr .i64 ((w1_5.length : Nat) - 1)).toNat) (TFrame.mk (THeader.mk (((gd w1_5 ((wr .i64 ((w1_5.length : Nat) - 1)).toNat)).Head).Kind) (((gd w1_5 ((wr .i64 ((w1_5.length : Nat) - 1)).toNat)).Head).Sub) (((gd w1_5 ((wr .i64 ((w1_5.length : Nat) - 1)).toNat)).Head).ToDs) (((gd w1_5 ((wr .i64 ((w1_5.length : Nat) - 1)).toNat)).Head).FromDs) (((gd w1_5 ((wr .i64 ((w1_5.length : Nat) - 1)).toNat)).Head).More) (((gd w1_5 ((wr .i64 ((w1_5.length : Nat) - 1)).toNat)).Head).Retry) (((gd w1_5 ((wr .i64 ((w1_5.length : Nat) - 1)).toNat)).Head).Sleep) (((gd w1_5 ((wr .i64 ((w1_5.length : Nat) - 1)).toNat)).Head).MoreData) (((gd w1_5 ((wr .i64 ((w1_5.length : Nat) - 1)).toNat)).Head).Protected) (((gd w1_5 ((wr .i64 ((w1_5.length : Nat) - 1)).toNat)).Head).Duration) (A6u8.mk ((((gd w1_5 ((wr .i64 ((w1_5.length : Nat) - 1)).toNat)).Head).A1).x0) ((((gd w1_5 ((wr .i64 ((w1_5.length : Nat) - 1)).toNat)).Head).A1).x1) ((((gd w1_5 ((wr .i64 ((w1_5.length : Nat) - 1)).toNat)).Head).A1).x2) ((((gd w1_5 ((wr .i64 ((w1_5.length : Nat) - 1)).toNat)).Head).A1).x3) ((((gd w1_5 ((wr .i64 ((w1_5.length : Nat) - 1)).toNat)).Head).A1).x4) ((((gd w1_5 ((wr .i64 ((w1_5.length : Nat) - 1)).toNat)).Head).A1).x5)) (A6u8.mk ((((gd w1_5 ((wr .i64 ((w1_5.length : Nat) - 1)).toNat)).Head).A2).x0) ((((gd w1_5 ((wr .i64 ((w1_5.length : Nat) - 1)).toNat)).Head).A2).x1) ((((gd w1_5 ((wr .i64 ((w1_5.length : Nat) - 1)).toNat)).Head).A2).x2) ((((gd w1_5 ((wr .i64 ((w1_5.length : Nat) - 1)).toNat)).Head).A2).x3) ((((gd w1_5 ((wr .i64 ((w1_5.length : Nat) - 1)).toNat)).Head).A2).x4) ((((gd w1_5 ((wr .i64 ((w1_5.length : Nat) - 1)).toNat)).Head).A2).x5)) (A6u8.mk ((((gd w1_5 ((wr .i64 ((w1_5.length : Nat) - 1)).toNat)).Head).A3).x0) ((((gd w1_5 ((wr .i64 ((w1_5.length : Nat) - 1)).toNat)).Head).A3).x1) ((((gd w1_5 ((wr .i64 ((w1_5.length : Nat) - 1)).toNat)).Head).A3).x2) ((((gd w1_5 ((wr .i64 ((w1_5.length : Nat) - 1)).toNat)).Head).A3).x3) ((((gd w1_5 ((wr .i64 ((w1_5.length : Nat) - 1)).toNat)).Head).A3).x4) ((((gd w1_5 ((wr .i64 ((w1_5.length : Nat) - 1)).toNat)).Head).A3).x5)) (A6u8.mk ((((gd w1_5 ((wr .i64 ((w1_5.length : Nat) - 1)).toNat)).Head).A4).x0) ((((gd w1_5 ((wr .i64 ((w1_5.length : Nat) - 1)).toNat)).Head).A4).x1) ((((gd w1_5 ((wr .i64 ((w1_5.length : Nat) - 1)).toNat)).Head).A4).x2) ((((gd w1_5 ((wr .i64 ((w1_5.length : Nat) - 1)).toNat)).Head).A4).x3) ((((gd w1_5 ((wr .i64 ((w1_5.length : Nat) - 1)).toNat)).Head).A4).x4) ((((gd w1_5 ((wr .i64 ((w1_5.length : Nat) - 1)).toNat)).Head).A4).x5)) (((gd w1_5 ((wr .i64 ((w1_5.length : Nat) - 1)).toNat)).Head).Seq) (((gd w1_5 ((wr .i64 ((w1_5.length : Nat) - 1)).toNat)).Head).Frag) (((gd w1_5 ((wr .i64 ((w1_5.length : Nat) - 1)).toNat)).Head).Tid) (((gd w1_5 ((wr .i64 ((w1_5.length : Nat) - 1)).toNat)).Head).Ack) (((gd w1_5 ((wr .i64 ((w1_5.length : Nat) - 1)).toNat)).Head).Amsdu) true) ((gd w1_5 ((wr .i64 ((w1_5.length : Nat) - 1)).toNat)).Body))) ((wr .i64 ((w1_5.length : Nat) - 1)).toNat) 7 ((fun qq29 => (TFrame.mk (THeader.mk qq29.Head.Kind qq29.Head.Sub qq29.Head.ToDs qq29.Head.FromDs qq29.Head.More qq29.Head.Retry qq29.Head.Sleep r20 qq29.Head.Protected qq29.Head.Duration (A6u8.mk qq29.Head.A1.x0 qq29.Head.A1.x1 qq29.Head.A1.x2 qq29.Head.A1.x3 qq29.Head.A1.x4 qq29.Head.A1.x5) (A6u8.mk qq29.Head.A2.x0 qq29.Head.A2.x1 qq29.Head.A2.x2 qq29.Head.A2.x3 qq29.Head.A2.x4 qq29.Head.A2.x5) (A6u8.mk qq29.Head.A3.x0 qq29.Head.A3.x1 qq29.Head.A3.x2 qq29.Head.A3.x3 qq29.Head.A3.x4 qq29.Head.A3.x5) (A6u8.mk qq29.Head.A4.x0 qq29.Head.A4.x1 qq29.Head.A4.x2 qq29.Head.A4.x3 qq29.Head.A4.x4 qq29.Head.A4.x5) qq29.Head.Seq qq29.Head.Frag qq29.Head.Tid qq29.Head.Ack qq29.Head.Amsdu qq29.Head.Eosp) qq29.Body)) (gd (w1_5.set ((wr .i64 ((w1_5.length : Nat) - 1)).toNat) (TFrame.mk (THeader.mk (((gd w1_5 ((wr .i64 ((w1_5.length : Nat) - 1)).toNat)).Head).Kind) (((gd w1_5 ((wr .i64 ((w1_5.length : Nat) - 1)).toNat)).Head).Sub) (((gd w1_5 ((wr .i64 ((w1_5.length : Nat) - 1)).toNat)).Head).ToDs) (((gd w1_5 ((wr .i64 ((w1_5.length : Nat) - 1)).toNat)).Head).FromDs) (((gd w1_5 ((wr .i64 ((w1_5.length : Nat) - 1)).toNat)).Head).More) (((gd w1_5 ((wr .i64 ((w1_5.length : Nat) - 1)).toNat)).Head).Retry) (((gd w1_5 ((wr .i64 ((w1_5.length : Nat) - 1)).toNat)).Head).Sleep) (((gd w1_5 ((wr .i64 ((w1_5.length : Nat) - 1)).toNat)).Head).MoreData) (((gd w1_5 ((wr .i64 ((w1_5.length : Nat) - 1)).toNat)).Head).Protected) (((gd w1_5 ((wr .i64 ((w1_5.length : Nat) - 1)).toNat)).Head).Duration) (A6u8.mk ((((gd w1_5 ((wr .i64 ((w1_5.length : Nat) - 1)).toNat)).Head).A1).x0) ((((gd w1_5 ((wr .i64 ((w1_5.length : Nat) - 1)).toNat)).Head).A1).x1) ((((gd w1_5 ((wr .i64 ((w1_5.length : Nat) - 1)).toNat)).Head).A1).x2) ((((gd w1_5 ((wr .i64 ((w1_5.length : Nat) - 1)).toNat)).Head).A1).x3) ((((gd w1_5 ((wr .i64 ((w1_5.length : Nat) - 1)).toNat)).Head).A1).x4) ((((gd w1_5 ((wr .i64 ((w1_5.length : Nat) - 1)).toNat)).Head).A1).x5)) (A6u8.mk ((((gd w1_5 ((wr .i64 ((w1_5.length : Nat) - 1)).toNat)).Head).A2).x0) ((((gd w1_5 ((wr .i64 ((w1_5.length : Nat) - 1)).toNat)).Head).A2).x1) ((((gd w1_5 ((wr .i64 ((w1_5.length : Nat) - 1)).toNat)).Head).A2).x2) ((((gd w1_5 ((wr .i64 ((w1_5.length : Nat) - 1)).toNat)).Head).A2).x3) ((((gd w1_5 ((wr .i64 ((w1_5.length : Nat) - 1)).toNat)).Head).A2).x4) ((((gd w1_5 ((wr .i64 ((w1_5.length : Nat) - 1)).toNat)).Head).A2).x5)) (A6u8.mk ((((gd w1_5 ((wr .i64 ((w1_5.length : Nat) - 1)).toNat)).Head).A3).x0) ((((gd w1_5 ((wr .i64 ((w1_5.length : Nat) - 1)).toNat)).Head).A3).x1) ((((gd w1_5 ((wr .i64 ((w1_5.length : Nat) - 1)).toNat)).Head).A3).x2) ((((gd w1_5 ((wr .i64 ((w1_5.length : Nat) - 1)).toNat)).Head).A3).x3) ((((gd w1_5 ((wr .i64 ((w1_5.length : Nat) - 1)).toNat)).Head).A3).x4) ((((gd w1_5 ((wr .i64 ((w1_5.length : Nat) - 1)).toNat)).Head).A3).x5)) (A6u8.mk ((((gd w1_5 ((wr .i64 ((w1_5.length : Nat) - 1)).toNat)).Head).A4).x0) ((((gd w1_5 ((wr .i64 ((w1_5.length : Nat) - 1)).toNat)).Head).A4).x1) ((((gd w1_5 ((wr .i64 ((w1_5.length : Nat) - 1)).toNat)).Head).A4).x2) ((((gd w1_5 ((wr .i64 ((w1_5.length : Nat) - 1)).toNat)).Head).A4).x3) ((((gd w1_5 ((wr .i64 ((w1_5.length : Nat) - 1)).toNat)).Head).A4).x4) ((((gd w1_5 ((wr .i64 ((w1_5.length : Nat) - 1)).toNat)).Head).A4).x5)) (((gd w1_5 ((wr .i64 ((w1_5.length : Nat) - 1)).toNat)).Head).Seq) (((gd w1_5 ((wr .i64 ((w1_5.length : Nat) - 1)).toNat)).Head).Frag) (((gd w1_5 ((wr .i64 ((w1_5.length : Nat) - 1)).toNat)).Head).Tid) (((gd w1_5 ((wr .i64 ((w1_5.length : Nat) - 1)).toNat)).Head).Ack) (((gd w1_5 ((wr .i64 ((w1_5.length : Nat) - 1)).toNat)).Head).Amsdu) true) ((gd w1_5 ((wr .i64 ((w1_5.length : Nat) - 1)).toNat)).Body))) ((wr .i64 ((w1_5.length : Nat) - 1)).toNat))) (upc_row (f := c_TFrame) w1_5 ((wr .i64 ((w1_5.length : Nat) - 1)).toNat) 39 (TFrame.mk (THeader.mk (((gd w1_5 ((wr .i64 ((w1_5.length : Nat) - 1)).toNat)).Head).Kind) (((gd w1_5 ((wr .i64 ((w1_5.length : Nat) - 1)).toNat)).Head).Sub) (((gd w1_5 ((wr .i64 ((w1_5.length : Nat) - 1)).toNat)).Head).ToDs) (((gd w1_5 ((wr .i64 ((w1_5.length : Nat) - 1)).toNat)).Head).FromDs) (((gd w1_5 ((wr .i64 ((w1_5.length : Nat) - 1)).toNat)).Head).More) (((gd w1_5 ((wr .i64 ((w1_5.length : Nat) - 1)).toNat)).Head).Retry) (((gd w1_5 ((wr .i64 ((w1_5.length : Nat) - 1)).toNat)).Head).Sleep) (((gd w1_5 ((wr .i64 ((w1_5.length : Nat) - 1)).toNat)).Head).MoreData) (((gd w1_5 ((wr .i64 ((w1_5.length : Nat) - 1)).toNat)).Head).Protected) (((gd w1_5 ((wr .i64 ((w1_5.length : Nat) - 1)).toNat)).Head).Duration) (A6u8.mk ((((gd w1_5 ((wr .i64 ((w1_5.length : Nat) - 1)).toNat)).Head).A1).x0) ((((gd w1_5 ((wr .i64 ((w1_5.length : Nat) - 1)).toNat)).Head).A1).x1) ((((gd w1_5 ((wr .i64 ((w1_5.length : Nat) - 1)).toNat)).Head).A1).x2) ((((gd w1_5 ((wr .i64 ((w1_5.length : Nat) - 1)).toNat)).Head).A1).x3) ((((gd w1_5 ((wr .i64 ((w1_5.length : Nat) - 1)).toNat)).Head).A1).x4) ((((gd w1_5 ((wr .i64 ((w1_5.length : Nat) - 1)).toNat)).Head).A1).x5)) (A6u8.mk ((((gd w1_5 ((wr .i64 ((w1_5.length : Nat) - 1)).toNat)).Head).A2).x0) ((((gd w1_5 ((wr .i64 ((w1_5.length : Nat) - 1)).toNat)).Head).A2).x1) ((((gd w1_5 ((wr .i64 ((w1_5.length : Nat) - 1)).toNat)).Head).A2).x2) ((((gd w1_5 ((wr .i64 ((w1_5.length : Nat) - 1)).toNat)).Head).A2).x3) ((((gd w1_5 ((wr .i64 ((w1_5.length : Nat) - 1)).toNat)).Head).A2).x4) ((((gd w1_5 ((wr .i64 ((w1_5.length : Nat) - 1)).toNat)).Head).A2).x5)) (A6u8.mk ((((gd w1_5 ((wr .i64 ((w1_5.length : Nat) - 1)).toNat)).Head).A3).x0) ((((gd w1_5 ((wr .i64 ((w1_5.length : Nat) - 1)).toNat)).Head).A3).x1) ((((gd w1_5 ((wr .i64 ((w1_5.length : Nat) - 1)).toNat)).Head).A3).x2) ((((gd w1_5 ((wr .i64 ((w1_5.length : Nat) - 1)).toNat)).Head).A3).x3) ((((gd w1_5 ((wr .i64 ((w1_5.length : Nat) - 1)).toNat)).Head).A3).x4) ((((gd w1_5 ((wr .i64 ((w1_5.length : Nat) - 1)).toNat)).Head).A3).x5)) (A6u8.mk ((((gd w1_5 ((wr .i64 ((w1_5.length : Nat) - 1)).toNat)).Head).A4).x0) ((((gd w1_5 ((wr .i64 ((w1_5.length : Nat) - 1)).toNat)).Head).A4).x1) ((((gd w1_5 ((wr .i64 ((w1_5.length : Nat) - 1)).toNat)).Head).A4).x2) ((((gd w1_5 ((wr .i64 ((w1_5.length : Nat) - 1)).toNat)).Head).A4).x3) ((((gd w1_5 ((wr .i64 ((w1_5.length : Nat) - 1)).toNat)).Head).A4).x4) ((((gd w1_5 ((wr .i64 ((w1_5.length : Nat) - 1)).toNat)).Head).A4).x5)) (((gd w1_5 ((wr .i64 ((w1_5.length : Nat) - 1)).toNat)).Head).Seq) (((gd w1_5 ((wr .i64 ((w1_5.length : Nat) - 1)).toNat)).Head).Frag) (((gd w1_5 ((wr .i64 ((w1_5.length : Nat) - 1)).toNat)).Head).Tid) (((gd w1_5 ((wr .i64 ((w1_5.length : Nat) - 1)).toNat)).Head).Ack) (((gd w1_5 ((wr .i64 ((w1_5.length : Nat) - 1)).toNat)).Head).Amsdu) true) ((gd w1_5 ((wr .i64 ((w1_5.length : Nat) - 1)).toNat)).Body)) (fun _ _ _ _ => rfl) (fun y hy => match y, hy with | 0, _ => rfl | 1, _ => rfl | 2, _ => rfl | 3, _ => rfl | 4, _ => rfl | 5, _ => rfl | 6, _ => rfl | 7, _ => rfl | 8, _ => rfl | 9, _ => rfl | 10, _ => rfl | 11, _ => rfl | 12, _ => rfl | 13, _ => rfl | 14, _ => rfl | 15, _ => rfl | 16, _ => rfl | 17, _ => rfl | 18, _ => rfl | 19, _ => rfl | 20, _ => rfl | 21, _ => rfl | 22, _ => rfl | 23, _ => rfl | 24, _ => rfl | 25, _ => rfl | 26, _ => rfl | 27, _ => rfl | 28, _ => rfl | 29, _ => rfl | 30, _ => rfl | 31, _ => rfl | 32, _ => rfl | 33, _ => rfl | 34, _ => rfl | 35, _ => rfl | 36, _ => rfl | 37, _ => rfl | 38, _ => rfl | 39, _ => rfl | 40, _ => rfl | (y+41), h => absurd h (by omega))) (fun y hy => match y, hy with | 0, _ => rfl | 1, _ => rfl | 2, _ => rfl | 3, _ => rfl | 4, _ => rfl | 5, _ => rfl | 6, _ => rfl | 7, _ => rfl | 8, _ => rfl | 9, _ => rfl | 10, _ => rfl | 11, _ => rfl | 12, _ => rfl | 13, _ => rfl | 14, _ => rfl | 15, _ => rfl | 16, _ => rfl | 17, _ => rfl | 18, _ => rfl | 19, _ => rfl | 20, _ => rfl | 21, _ => rfl | 22, _ => rfl | 23, _ => rfl | 24, _ => rfl | 25, _ => rfl | 26, _ => rfl | 27, _ => rfl | 28, _ => rfl | 29, _ => rfl | 30, _ => rfl | 31, _ => rfl | 32, _ => rfl | 33, _ => rfl | 34, _ => rfl | 35, _ => rfl | 36, _ => rfl | 37, _ => rfl | 38, _ => rfl | 39, _ => rfl | 40, _ => rfl | (y+41), h => absurd h (by omega)))), CvB_dead, trivial⟩
          simp only [tp]
          refine rg ctNo_ok ?_
          simp only [go_sem, Nat.reduceLeDiff, Nat.reduceLT, Nat.reduceAdd, Nat.reduceMul, Nat.reduceSub, Nat.reduceEqDiff, Nat.reduceBEq, Int.reduceToNat, reduceCtorEq, upc_ii]
          obtain rfl := Option.some.inj H
          refine ⟨[11, 7, 9, 0, 3, 4, 5, 6, 10], ?_, ?_, [], ?_, ?_, rfl⟩
          · simp only [go_sem, Nat.reduceEqDiff, Nat.reduceBEq, Nat.reduceAdd]
            try (and_intros <;> first | (with_reducible trivial) | omega | exact nfc | trivial)
          · simp only [go_sem, Nat.reduceEqDiff, Nat.reduceBEq, Nat.reduceAdd]
            try (and_intros <;> first | (with_reducible trivial) | omega | exact nfc | trivial)
          · simp only [go_sem, Nat.reduceEqDiff, Nat.reduceBEq, Nat.reduceAdd]
            exact Cv_tup (CvL_cons (Cv_agg (CvL_cons Cv_int (CvL_cons (ro_row (by first | rfl | simp) (fun _ _ _ _ => rfl)) CvL_nil))) (CvL_cons (Cv_agg (CvL_cons Cv_int (CvL_cons Cv_int (CvL_cons (ro_row (by first | rfl | simp) (fun _ _ _ _ => rfl)) (CvL_cons (ro_row (by first | rfl | simp) (fun _ _ _ _ => rfl)) CvL_nil))))) (CvL_cons Cv_int CvL_nil)))
          · simp only [go_sem, Nat.reduceEqDiff, Nat.reduceBEq, Nat.reduceAdd, CvH]
        replace H := cond_t hc H
        refine regO ?_
        obtain ⟨r22, e23, H⟩ := bsi H
        refine cutO shT_ok ct29t6_ok 3 ?_
        simp only [kO_normal, List.take_succ_cons, List.take_zero, List.drop_succ_cons, List.drop_zero, go_sem, Nat.reduceLeDiff, Nat.reduceLT, Nat.reduceAdd, Nat.reduceMul, Nat.reduceSub, Nat.reduceEqDiff, Nat.reduceBEq, Int.reduceToNat, reduceCtorEq, upc_ii, ct29t6_57, body57, e23]
        repeat ((with_reducible refine And.intro ?_ ?_); focus (first | (and_intros <;> first | (with_reducible trivial) | omega | assumption | exact nfc | first | exact rfl | exact trivial | exact fitI | exact .inr rfl | exact .inl rfl | exact fun x hx => absurd hx (by omega) | (intro x hx; (repeat (first | (and_intros <;> (first | exact rfl | exact trivial | exact fitI | exact .inr rfl | exact .inl rfl | exact fun x hx => absurd hx (by omega))) | (exfalso; omega) | (rcases x with _ | x))); done)) | grind))
        refine fzO [13] ?_ ?_
        · simp only [go_sem, Nat.reduceEqDiff, Nat.reduceBEq, Nat.reduceAdd]
          try (and_intros <;> first | (with_reducible trivial) | omega | exact nfc | trivial)
        simp only [go_sem, Nat.reduceEqDiff, Nat.reduceBEq, Nat.reduceAdd]
        refine cutO shT_ok ctNo_ok 4 ?_
        simp only [kO_normal, List.take_succ_cons, List.take_zero, List.drop_succ_cons, List.drop_zero, go_sem, Nat.reduceLeDiff, Nat.reduceLT, Nat.reduceAdd, Nat.reduceMul, Nat.reduceSub, Nat.reduceEqDiff, Nat.reduceBEq, Int.reduceToNat, reduceCtorEq, upc_ii]
        repeat ((with_reducible refine And.intro ?_ ?_); focus (first | (and_intros <;> first | (with_reducible trivial) | omega | assumption | exact nfc | first | exact rfl | exact trivial | exact fitI | exact .inr rfl | exact .inl rfl | exact fun x hx => absurd hx (by omega) | (intro x hx; (repeat (first | (and_intros <;> (first | exact rfl | exact trivial | exact fitI | exact .inr rfl | exact .inl rfl | exact fun x hx => absurd hx (by omega))) | (exfalso; omega) | (rcases x with _ | x))); done)) | grind))
        refine endO ?_
        refine seqM ?_
        obtain ⟨f24, H⟩ := need_some.1 H
        replace f24 := inb_iff.1 f24
        refine rg ctNo_ok ?_
        simp only [go_sem, Nat.reduceLeDiff, Nat.reduceLT, Nat.reduceAdd, Nat.reduceMul, Nat.reduceSub, Nat.reduceEqDiff, Nat.reduceBEq, Int.reduceToNat, reduceCtorEq, upc_ii, (by decide : wr IntKind.i64 ((1 : Int) - 1) = 0), f24]
        repeat ((with_reducible refine And.intro ?_ ?_); focus (first | (and_intros <;> first | (with_reducible trivial) | omega | assumption | exact nfc | first | exact rfl | exact trivial | exact fitI | exact .inr rfl | exact .inl rfl | exact fun x hx => absurd hx (by omega) | (intro x hx; (repeat (first | (and_intros <;> (first | exact rfl | exact trivial | exact fitI | exact .inr rfl | exact .inl rfl | exact fun x hx => absurd hx (by omega))) | (exfalso; omega) | (rcases x with _ | x))); done)) | grind))
        refine sq ctNo_ok ?_
        simp only [go_sem, Nat.reduceLeDiff, Nat.reduceLT, Nat.reduceAdd, Nat.reduceMul, Nat.reduceSub, Nat.reduceEqDiff, Nat.reduceBEq, Int.reduceToNat, reduceCtorEq, upc_ii]
        repeat ((with_reducible refine And.intro ?_ ?_); focus (first | (with_reducible trivial) | omega | grind))
        refine seqM ?_
        refine draw_rule shT_ok ctNo_ok 0 (by kernel_rfl) (by kernel_rfl) ?_
        intro an han
        simp only [d_nil, d_cons, nxtD, xrD, xoD, roEq, minL, List.append_nil, refsOp, refs, refsL, mask, maskF, place, placeF, okLog, pairOk, hit, inL, slotsF, ren, renL, rnN, nrH, nrB, nrL, nr, dead0, deadS, List.replicate_zero, List.replicate_succ, Nat.sub_self, Nat.add_zero, Nat.zero_add, Nat.reduceSub, Nat.not_lt_zero, Nat.zero_le, Nat.lt_add_one, go_sem, Nat.reduceLeDiff, Nat.reduceLT, Nat.reduceAdd, Nat.reduceMul, Nat.reduceSub, Nat.reduceEqDiff, Nat.reduceBEq, Int.reduceToNat, reduceCtorEq, upc_ii]
        repeat ((with_reducible refine And.intro ?_ ?_); focus (and_intros <;> first | (with_reducible trivial) | (show anB _ _ _ = true; subst han; kernel_rfl) | (show (anB _ _ _ && _) = true; subst han; kernel_rfl) | omega | assumption | exact nrc | exact nfc | first | exact rfl | exact trivial | exact fitI | exact .inr rfl | exact .inl rfl | exact fun x hx => absurd hx (by omega) | (intro x hx; (repeat (first | (and_intros <;> (first | exact rfl | exact trivial | exact fitI | exact .inr rfl | exact .inl rfl | exact fun x hx => absurd hx (by omega))) | (exfalso; omega) | (rcases x with _ | x))); done)))
        refine fz2_mean [12] [7] ?_ ?_
        · simp only [go_sem, Nat.reduceEqDiff, Nat.reduceBEq, Nat.reduceAdd, fzObHF2, fzObB2]
          first | exact (foc_ob (L := r7.List) (i := r4.toNat) (fun a y => nrefL_getL (nr_TSleeper a) y) (fun x y hx => by simp only [upc_ne hx]) (fun y hy => match y, hy with | 0, _ => (by (simp [upc_ii, getL, fzOb, inL, geth, rowOb, enR, c_TSleeper]; all_goals (first | (with_reducible trivial) | (intros; exact nrefL_getL (NRf.h _) _) | (intros; exact nfc)))) | 1, _ => (by (simp [upc_ii, getL, fzOb, inL, geth, rowOb, enR, c_TSleeper]; all_goals (first | (with_reducible trivial) | (intros; exact nrefL_getL (NRf.h _) _) | (intros; exact nfc)))) | 2, _ => (by (simp [upc_ii, getL, fzOb, inL, geth, rowOb, enR, c_TSleeper]; all_goals (first | (with_reducible trivial) | (intros; exact nrefL_getL (NRf.h _) _) | (intros; exact nfc)))) | (y+3), h => absurd h (by omega))) | (and_intros <;> first | exact (foc_ob (L := r7.List) (i := r4.toNat) (fun a y => nrefL_getL (nr_TSleeper a) y) (fun x y hx => by simp only [upc_ne hx]) (fun y hy => match y, hy with | 0, _ => (by (simp [upc_ii, getL, fzOb, inL, geth, rowOb, enR, c_TSleeper]; all_goals (first | (with_reducible trivial) | (intros; exact nrefL_getL (NRf.h _) _) | (intros; exact nfc)))) | 1, _ => (by (simp [upc_ii, getL, fzOb, inL, geth, rowOb, enR, c_TSleeper]; all_goals (first | (with_reducible trivial) | (intros; exact nrefL_getL (NRf.h _) _) | (intros; exact nfc)))) | 2, _ => (by (simp [upc_ii, getL, fzOb, inL, geth, rowOb, enR, c_TSleeper]; all_goals (first | (with_reducible trivial) | (intros; exact nrefL_getL (NRf.h _) _) | (intros; exact nfc)))) | (y+3), h => absurd h (by omega))) | (with_reducible trivial) | omega | exact nfc | trivial)
        simp only [go_sem, Nat.reduceEqDiff, Nat.reduceBEq, Nat.reduceAdd, fzH2, fzHF2, fzB2]
        obtain ⟨w25, hw26, H⟩ := bsi H
        replace hw26 := Option.some.inj hw26
        have lhw26 : w25.length = r7.List.length := by rw [← hw26]; exact (by simp only [List.length_set])
        obtain ⟨w27, hw28, H⟩ := bsi H
        replace hw28 := Option.some.inj hw28
        have lhw28 : w27.length = 1 := by rw [← hw28]; exact (by first | rfl | (simp; done) | (simp; omega))
        refine subF_mean (t2 := (tp 10 (.ptr 5 0 0 0 :: .ptr 6 0 0 0 :: .int .i64 0 :: tp 127 []))) (h2 := [.lit 52 [.int .i64 r7.Limit, .int .i64 r7.Stay, .sl 7 3 0 w25.length false, .sl 9 43 0 r7.Group.length false], .dead, .dead, .lit 25 [.int .u8 p3.x0, .int .u8 p3.x1, .int .u8 p3.x2, .int .u8 p3.x3, .int .u8 p3.x4, .int .u8 p3.x5], .lit 25 [.int .u8 p4.x0, .int .u8 p4.x1, .int .u8 p4.x2, .int .u8 p4.x3, .int .u8 p4.x4, .int .u8 p4.x5], .lit 33 [.int .i64 p2, .sl 14 41 0 w27.length false], .lit 52 [.int .i64 r7.Limit, .int .i64 r7.Stay, .sl 7 3 0 w25.length false, .sl 9 43 0 r7.Group.length false], .row 71 3 w25.length (enR c_TSleeper w25), .dead, .row 73 43 r7.Group.length (enR c_TStored r7.Group), .lit 103 [.ro 43 w1_6.length false (enR c_TStored w1_6), .int .u8 p1.Deliver], .row 30 41 w1_5.length (enR c_TFrame w1_5), .dead, .dead, .row 30 41 w27.length (enR c_TFrame w27)]) ?_ ?_
        · refine SubF_of ⟨[some 0, some 1, some 2, some 3, some 4, some 5, some 6, some 7, some 8, some 9, some 10, some 11, some 12, some 13, some 14], ?_, ?_, by rfl, by rfl⟩
          · simp [CvL, Cv, getM, tp, lhw26, lhw28]
          · exact ⟨(by simp [CvB, CvL, Cv, blkAt, geth, getM, lhw26, lhw28]), CvB_dead, CvB_dead, (by simp [CvB, CvL, Cv, blkAt, geth, getM, lhw26, lhw28]), (by simp [CvB, CvL, Cv, blkAt, geth, getM, lhw26, lhw28]), (by simp [CvB, CvL, Cv, blkAt, geth, getM, lhw26, lhw28]), (by simp [CvB, CvL, Cv, blkAt, geth, getM, lhw26, lhw28]), CvB_row nr_TSleeper lhw26 (hw26 ▸ (foc_row (L := r7.List) (i := r4.toNat) (fun a y => nrefL_getL (nr_TSleeper a) y) (fun x y hx => by simp only [upc_ne hx]) (fun y hy => match y, hy with | 0, _ => by simp [upc_ii, getL, fzV, inL, geth, enR, c_TSleeper, sub_enR0] | 1, _ => by simp [upc_ii, getL, fzV, inL, geth, enR, c_TSleeper, sub_enR0] | 2, _ => by simp [upc_ii, getL, fzV, inL, geth, enR, c_TSleeper, sub_enR0] | (y+3), h => absurd h (by omega)))), CvB_dead, CvB_row nr_TStored rfl (fun _ _ _ _ => rfl), (by simp [CvB, CvL, Cv, blkAt, geth, getM, lhw26, lhw28]), CvB_row nr_TFrame rfl (fun _ _ _ _ => rfl), CvB_dead, CvB_dead, CvB_row nr_TFrame lhw28 (hw28 ▸ (upc_row (f := c_TFrame) ([r22].set 0 (TFrame.mk (THeader.mk (((gd [r22] 0).Head).Kind) (((gd [r22] 0).Head).Sub) (((gd [r22] 0).Head).ToDs) (((gd [r22] 0).Head).FromDs) (((gd [r22] 0).Head).More) (((gd [r22] 0).Head).Retry) (((gd [r22] 0).Head).Sleep) (((gd [r22] 0).Head).MoreData) (((gd [r22] 0).Head).Protected) (((gd [r22] 0).Head).Duration) (A6u8.mk ((((gd [r22] 0).Head).A1).x0) ((((gd [r22] 0).Head).A1).x1) ((((gd [r22] 0).Head).A1).x2) ((((gd [r22] 0).Head).A1).x3) ((((gd [r22] 0).Head).A1).x4) ((((gd [r22] 0).Head).A1).x5)) (A6u8.mk ((((gd [r22] 0).Head).A2).x0) ((((gd [r22] 0).Head).A2).x1) ((((gd [r22] 0).Head).A2).x2) ((((gd [r22] 0).Head).A2).x3) ((((gd [r22] 0).Head).A2).x4) ((((gd [r22] 0).Head).A2).x5)) (A6u8.mk ((((gd [r22] 0).Head).A3).x0) ((((gd [r22] 0).Head).A3).x1) ((((gd [r22] 0).Head).A3).x2) ((((gd [r22] 0).Head).A3).x3) ((((gd [r22] 0).Head).A3).x4) ((((gd [r22] 0).Head).A3).x5)) (A6u8.mk ((((gd [r22] 0).Head).A4).x0) ((((gd [r22] 0).Head).A4).x1) ((((gd [r22] 0).Head).A4).x2) ((((gd [r22] 0).Head).A4).x3) ((((gd [r22] 0).Head).A4).x4) ((((gd [r22] 0).Head).A4).x5)) (((gd [r22] 0).Head).Seq) (((gd [r22] 0).Head).Frag) (((gd [r22] 0).Head).Tid) (((gd [r22] 0).Head).Ack) (((gd [r22] 0).Head).Amsdu) true) ((gd [r22] 0).Body))) 0 7 ((fun qq24 => (TFrame.mk (THeader.mk qq24.Head.Kind qq24.Head.Sub qq24.Head.ToDs qq24.Head.FromDs qq24.Head.More qq24.Head.Retry qq24.Head.Sleep false qq24.Head.Protected qq24.Head.Duration (A6u8.mk qq24.Head.A1.x0 qq24.Head.A1.x1 qq24.Head.A1.x2 qq24.Head.A1.x3 qq24.Head.A1.x4 qq24.Head.A1.x5) (A6u8.mk qq24.Head.A2.x0 qq24.Head.A2.x1 qq24.Head.A2.x2 qq24.Head.A2.x3 qq24.Head.A2.x4 qq24.Head.A2.x5) (A6u8.mk qq24.Head.A3.x0 qq24.Head.A3.x1 qq24.Head.A3.x2 qq24.Head.A3.x3 qq24.Head.A3.x4 qq24.Head.A3.x5) (A6u8.mk qq24.Head.A4.x0 qq24.Head.A4.x1 qq24.Head.A4.x2 qq24.Head.A4.x3 qq24.Head.A4.x4 qq24.Head.A4.x5) qq24.Head.Seq qq24.Head.Frag qq24.Head.Tid qq24.Head.Ack qq24.Head.Amsdu qq24.Head.Eosp) qq24.Body)) (gd ([r22].set 0 (TFrame.mk (THeader.mk (((gd [r22] 0).Head).Kind) (((gd [r22] 0).Head).Sub) (((gd [r22] 0).Head).ToDs) (((gd [r22] 0).Head).FromDs) (((gd [r22] 0).Head).More) (((gd [r22] 0).Head).Retry) (((gd [r22] 0).Head).Sleep) (((gd [r22] 0).Head).MoreData) (((gd [r22] 0).Head).Protected) (((gd [r22] 0).Head).Duration) (A6u8.mk ((((gd [r22] 0).Head).A1).x0) ((((gd [r22] 0).Head).A1).x1) ((((gd [r22] 0).Head).A1).x2) ((((gd [r22] 0).Head).A1).x3) ((((gd [r22] 0).Head).A1).x4) ((((gd [r22] 0).Head).A1).x5)) (A6u8.mk ((((gd [r22] 0).Head).A2).x0) ((((gd [r22] 0).Head).A2).x1) ((((gd [r22] 0).Head).A2).x2) ((((gd [r22] 0).Head).A2).x3) ((((gd [r22] 0).Head).A2).x4) ((((gd [r22] 0).Head).A2).x5)) (A6u8.mk ((((gd [r22] 0).Head).A3).x0) ((((gd [r22] 0).Head).A3).x1) ((((gd [r22] 0).Head).A3).x2) ((((gd [r22] 0).Head).A3).x3) ((((gd [r22] 0).Head).A3).x4) ((((gd [r22] 0).Head).A3).x5)) (A6u8.mk ((((gd [r22] 0).Head).A4).x0) ((((gd [r22] 0).Head).A4).x1) ((((gd [r22] 0).Head).A4).x2) ((((gd [r22] 0).Head).A4).x3) ((((gd [r22] 0).Head).A4).x4) ((((gd [r22] 0).Head).A4).x5)) (((gd [r22] 0).Head).Seq) (((gd [r22] 0).Head).Frag) (((gd [r22] 0).Head).Tid) (((gd [r22] 0).Head).Ack) (((gd [r22] 0).Head).Amsdu) true) ((gd [r22] 0).Body))) 0)) (upc_row (f := c_TFrame) [r22] 0 39 (TFrame.mk (THeader.mk (((gd [r22] 0).Head).Kind) (((gd [r22] 0).Head).Sub) (((gd [r22] 0).Head).ToDs) (((gd [r22] 0).Head).FromDs) (((gd [r22] 0).Head).More) (((gd [r22] 0).Head).Retry) (((gd [r22] 0).Head).Sleep) (((gd [r22] 0).Head).MoreData) (((gd [r22] 0).Head).Protected) (((gd [r22] 0).Head).Duration) (A6u8.mk ((((gd [r22] 0).Head).A1).x0) ((((gd [r22] 0).Head).A1).x1) ((((gd [r22] 0).Head).A1).x2) ((((gd [r22] 0).Head).A1).x3) ((((gd [r22] 0).Head).A1).x4) ((((gd [r22] 0).Head).A1).x5)) (A6u8.mk ((((gd [r22] 0).Head).A2).x0) ((((gd [r22] 0).Head).A2).x1) ((((gd [r22] 0).Head).A2).x2) ((((gd [r22] 0).Head).A2).x3) ((((gd [r22] 0).Head).A2).x4) ((((gd [r22] 0).Head).A2).x5)) (A6u8.mk ((((gd [r22] 0).Head).A3).x0) ((((gd [r22] 0).Head).A3).x1) ((((gd [r22] 0).Head).A3).x2) ((((gd [r22] 0).Head).A3).x3) ((((gd [r22] 0).Head).A3).x4) ((((gd [r22] 0).Head).A3).x5)) (A6u8.mk ((((gd [r22] 0).Head).A4).x0) ((((gd [r22] 0).Head).A4).x1) ((((gd [r22] 0).Head).A4).x2) ((((gd [r22] 0).Head).A4).x3) ((((gd [r22] 0).Head).A4).x4) ((((gd [r22] 0).Head).A4).x5)) (((gd [r22] 0).Head).Seq) (((gd [r22] 0).Head).Frag) (((gd [r22] 0).Head).Tid) (((gd [r22] 0).Head).Ack) (((gd [r22] 0).Head).Amsdu) true) ((gd [r22] 0).Body)) (lit_row (f := c_TFrame) [r22] (fun _ _ => rfl) rfl) (fun y hy => match y, hy with | 0, _ => rfl | 1, _ => rfl | 2, _ => rfl | 3, _ => rfl | 4, _ => rfl | 5, _ => rfl | 6, _ => rfl | 7, _ => rfl | 8, _ => rfl | 9, _ => rfl | 10, _ => rfl | 11, _ => rfl | 12, _ => rfl | 13, _ => rfl | 14, _ => rfl | 15, _ => rfl | 16, _ => rfl | 17, _ => rfl | 18, _ => rfl | 19, _ => rfl | 20, _ => rfl | 21, _ => rfl | 22, _ => rfl | 23, _ => rfl | 24, _ => rfl | 25, _ => rfl | 26, _ => rfl | 27, _ => rfl | 28, _ => rfl | 29, _ => rfl | 30, _ => rfl | 31, _ => rfl | 32, _ => rfl | 33, _ => rfl | 34, _ => rfl | 35, _ => rfl | 36, _ => rfl | 37, _ => rfl | 38, _ => rfl | 39, _ => rfl | 40, _ => rfl | (y+41), h => absurd h (by omega))) (fun y hy => match y, hy with | 0, _ => rfl | 1, _ => rfl | 2, _ => rfl | 3, _ => rfl | 4, _ => rfl | 5, _ => rfl | 6, _ => rfl | 7, _ => rfl | 8, _ => rfl | 9, _ => rfl | 10, _ => rfl | 11, _ => rfl | 12, _ => rfl | 13, _ => rfl | 14, _ => rfl | 15, _ => rfl | 16, _ => rfl | 17, _ => rfl | 18, _ => rfl | 19, _ => rfl | 20, _ => rfl | 21, _ => rfl | 22, _ => rfl | 23, _ => rfl | 24, _ => rfl | 25, _ => rfl | 26, _ => rfl | 27, _ => rfl | 28, _ => rfl | 29, _ => rfl | 30, _ => rfl | 31, _ => rfl | 32, _ => rfl | 33, _ => rfl | 34, _ => rfl | 35, _ => rfl | 36, _ => rfl | 37, _ => rfl | 38, _ => rfl | 39, _ => rfl | 40, _ => rfl | (y+41), h => absurd h (by omega)))), trivial⟩
        simp only [tp]
        refine rg ctNo_ok ?_
        simp only [go_sem, Nat.reduceLeDiff, Nat.reduceLT, Nat.reduceAdd, Nat.reduceMul, Nat.reduceSub, Nat.reduceEqDiff, Nat.reduceBEq, Int.reduceToNat, reduceCtorEq, upc_ii]
        obtain rfl := Option.some.inj H
        refine ⟨[14, 7, 9, 0, 3, 4, 5, 6, 10], ?_, ?_, [], ?_, ?_, rfl⟩
        · simp only [go_sem, Nat.reduceEqDiff, Nat.reduceBEq, Nat.reduceAdd]
          try (and_intros <;> first | (with_reducible trivial) | omega | exact nfc | trivial)
        · simp only [go_sem, Nat.reduceEqDiff, Nat.reduceBEq, Nat.reduceAdd]
          try (and_intros <;> first | (with_reducible trivial) | omega | exact nfc | trivial)
        · simp only [go_sem, Nat.reduceEqDiff, Nat.reduceBEq, Nat.reduceAdd]
          exact Cv_tup (CvL_cons (Cv_agg (CvL_cons Cv_int (CvL_cons (ro_row (by first | rfl | simp) (fun _ _ _ _ => rfl)) CvL_nil))) (CvL_cons (Cv_agg (CvL_cons Cv_int (CvL_cons Cv_int (CvL_cons (ro_row (by first | rfl | simp) (fun _ _ _ _ => rfl)) (CvL_cons (ro_row (by first | rfl | simp) (fun _ _ _ _ => rfl)) CvL_nil))))) (CvL_cons Cv_int CvL_nil)))
        · simp only [go_sem, Nat.reduceEqDiff, Nat.reduceBEq, Nat.reduceAdd, CvH]
    · cases hb
  · unfold body29 at hb
    split at hb <;> cases hb
/-! hotspot/hotspotlaw35.alive -/
noncomputable def ct32t0 : Ct := tab [(29, genC body29), (40, genC body40)]
theorem ct32t0_ok : CtOk Try.prog ct32t0 := tab_cons ok29 <| tab_cons ok40 <| tab_nil
theorem ct32t0_29 (l : List AV) (h : List ABlk) : ct32t0 29 l h = genC body29 l h := rfl
theorem ct32t0_40 (l : List AV) (h : List ABlk) : ct32t0 40 l h = genC body40 l h := rfl
noncomputable def F32 : Option (Bool) :=
  (F40).bind fun r1 => (F29 r1 (TTriggerPlan.mk 0 12 2) 3 (A6u8.mk 1 0 0 0 0 0) (A6u8.mk 2 0 0 0 0 0)).bind fun r3 => need (bif (!(((!bEq r3.2.2 0) || (!bEq (r3.1.Left.length : Nat) 2)) || (!bEq (r3.2.1.List.length : Nat) 1))) then inb 0 r3.2.1.List.length else true) <| bif ((((!bEq r3.2.2 0) || (!bEq (r3.1.Left.length : Nat) 2)) || (!bEq (r3.2.1.List.length : Nat) 1)) || (!bEq (((gd r3.2.1.List 0).Held).length : Nat) 2)) then (some false) else (need (inb 0 r3.1.Left.length) <| need (inb 1 r3.1.Left.length) <| some ((((((bEq (((gd r3.1.Left 0).Head).Seq) 2) && (bEq (((gd r3.1.Left 1).Head).Seq) 1)) && ((gd r3.1.Left 0).Head).MoreData) && ((gd r3.1.Left 1).Head).MoreData) && (!(((gd r3.1.Left 0).Head).Eosp))) && ((gd r3.1.Left 1).Head).Eosp))
noncomputable def body32 : List AV -> AR
  | [] => .pure ((F32).isSome = true) (.bool (gt F32))
  | _ => .fail
set_option maxHeartbeats 4000000 in
set_option maxRecDepth 20000 in
theorem ok32 : FnOk Try.prog 32 (pureC body32) := by
  refine pure_fnM body32 (rs := [.tmp 0]) Try.func32 (by kernel_rfl) rfl rfl ?_
  intro l ob v hb hob
  unfold body32 at hb
  split at hb
  · injection hb with q1 q2; subst q1 q2
    obtain ⟨r, H⟩ := Option.isSome_iff_exists.1 hob
    rw [H, gt_some]
    refine ⟨[], _, (fun E vs F => F), rfl, rfl, ?_⟩
    rw [Try.ntmps32]
    simp only [List.length_cons, List.length_nil, Nat.reduceAdd, Nat.reduceSub, List.replicate_succ, List.replicate_zero, List.cons_append, List.nil_append]
    unfold F32 at H
    try dsimp only at H
    refine sq ctNo_ok ?_
    simp only [go_sem, Nat.reduceLeDiff, Nat.reduceLT, Nat.reduceAdd, Nat.reduceMul, Nat.reduceSub, Nat.reduceEqDiff, Nat.reduceBEq, Int.reduceToNat, reduceCtorEq]
    refine seqM ?_
    obtain ⟨r1, e2, H⟩ := bsi H
    obtain ⟨r3, e4, H⟩ := bsi H
    refine rg ct32t0_ok ?_
    simp only [go_sem, Nat.reduceLeDiff, Nat.reduceLT, Nat.reduceAdd, Nat.reduceMul, Nat.reduceSub, Nat.reduceEqDiff, Nat.reduceBEq, Int.reduceToNat, reduceCtorEq, ct32t0_29, body29, ct32t0_40, body40, e2, e4]
    repeat ((with_reducible refine And.intro ?_ ?_); focus (first | (and_intros <;> first | (with_reducible trivial) | omega | assumption | exact nfc | first | exact rfl | exact trivial | exact fitI | exact .inr rfl | exact .inl rfl | exact fun x hx => absurd hx (by omega)) | grind))
    refine seqM ?_
    refine seqM ?_
    obtain ⟨f5, H⟩ := need_some.1 H
    replace f5 := g_iff.1 f5
    replace f5 := fun g => inb_iff.1 (f5 g)
    refine rg ctNo_ok ?_
    simp only [go_sem, Nat.reduceLeDiff, Nat.reduceLT, Nat.reduceAdd, Nat.reduceMul, Nat.reduceSub, Nat.reduceEqDiff, Nat.reduceBEq, Int.reduceToNat, reduceCtorEq]
    repeat ((with_reducible refine And.intro ?_ ?_); focus (first | (with_reducible trivial) | omega | exact f5 | (intro g; have q := f5 (by first | exact g | (rw [g]; rfl) | simpa using g); first | exact q | exact ⟨q.1, q.2.1⟩ | exact q.2.2 | omega | exact ⟨g, q⟩ | exact ⟨trivial, q⟩ | exact ⟨g, q.1, q.2.1⟩ | exact ⟨g, q.2.2⟩) | (intro g; (try have q0 := f5 (by first | exact g | (rw [g]; rfl) | simpa using g)); and_intros <;> first | (with_reducible trivial) | assumption | exact nfc | (intro g2; rw [g, g2]; rfl) | (intro g2; assumption) | (simp only [g, Bool.true_and, Bool.and_true, Bool.not_false, Bool.not_true]; assumption) | grind) | (and_intros <;> first | (with_reducible trivial) | omega | assumption | exact nfc | first | exact rfl | exact trivial | exact fitI | exact .inr rfl | exact .inl rfl | exact fun x hx => absurd hx (by omega)) | grind))
    refine condM rfl trivial (fun hc => ?_) (fun hc => ?_)
    · replace H := cond_t hc H
      refine sq ctNo_ok ?_
      simp only [go_sem, Nat.reduceLeDiff, Nat.reduceLT, Nat.reduceAdd, Nat.reduceMul, Nat.reduceSub, Nat.reduceEqDiff, Nat.reduceBEq, Int.reduceToNat, reduceCtorEq]
      refine rg ctNo_ok ?_
      simp only [go_sem, Nat.reduceLeDiff, Nat.reduceLT, Nat.reduceAdd, Nat.reduceMul, Nat.reduceSub, Nat.reduceEqDiff, Nat.reduceBEq, Int.reduceToNat, reduceCtorEq]
      obtain rfl := Option.some.inj H
      first | rfl | simp only [Bool.and_false, Bool.false_and, Bool.and_true, Bool.true_and]
    replace H := cond_f hc H
    refine rg ctNo_ok ?_
    simp only [go_sem, Nat.reduceLeDiff, Nat.reduceLT, Nat.reduceAdd, Nat.reduceMul, Nat.reduceSub, Nat.reduceEqDiff, Nat.reduceBEq, Int.reduceToNat, reduceCtorEq]
    refine seqM ?_
    obtain ⟨f6, H⟩ := need_some.1 H
    replace f6 := inb_iff.1 f6
    obtain ⟨f7, H⟩ := need_some.1 H
    replace f7 := inb_iff.1 f7
    refine draw_rule shT_ok ctNo_ok 2 (by kernel_rfl) (by kernel_rfl) ?_
    intro an han
    simp only [d_nil, d_cons, nxtD, xrD, xoD, roEq, minL, List.append_nil, refsOp, refs, refsL, mask, maskF, place, placeF, okLog, pairOk, hit, inL, slotsF, ren, renL, rnN, nrH, nrB, nrL, nr, dead0, deadS, List.replicate_zero, List.replicate_succ, Nat.sub_self, Nat.add_zero, Nat.zero_add, Nat.reduceSub, Nat.not_lt_zero, Nat.zero_le, Nat.lt_add_one, go_sem, Nat.reduceLeDiff, Nat.reduceLT, Nat.reduceAdd, Nat.reduceMul, Nat.reduceSub, Nat.reduceEqDiff, Nat.reduceBEq, Int.reduceToNat, reduceCtorEq, f6, f7]
    repeat ((with_reducible refine And.intro ?_ ?_); focus (and_intros <;> first | (with_reducible trivial) | (show anB _ _ _ = true; subst han; kernel_rfl) | (show (anB _ _ _ && _) = true; subst han; kernel_rfl) | omega | assumption | exact nrc | exact nfc | first | exact rfl | exact trivial | exact fitI | exact .inr rfl | exact .inl rfl | exact fun x hx => absurd hx (by omega)))
    refine sq ctNo_ok ?_
    simp only [go_sem, Nat.reduceLeDiff, Nat.reduceLT, Nat.reduceAdd, Nat.reduceMul, Nat.reduceSub, Nat.reduceEqDiff, Nat.reduceBEq, Int.reduceToNat, reduceCtorEq]
    repeat ((with_reducible refine And.intro ?_ ?_); focus (first | (with_reducible trivial) | omega | grind))
    refine rg ctNo_ok ?_
    simp only [go_sem, Nat.reduceLeDiff, Nat.reduceLT, Nat.reduceAdd, Nat.reduceMul, Nat.reduceSub, Nat.reduceEqDiff, Nat.reduceBEq, Int.reduceToNat, reduceCtorEq]
    obtain rfl := Option.some.inj H
    first | rfl | simp only [Bool.and_false, Bool.false_and, Bool.and_true, Bool.true_and]
  · cases hb
/-! hotspot/hotspotref05.Great -/
noncomputable def F11 (p0 : TFrame) : Option (Bool) :=
  some (bLt 2400 (p0.Body.length : Nat))
noncomputable def body11 : List AV -> AR
  | [v0] => .pure (aK 41 k_TFrame v0 /\ (F11 (g_TFrame (aL v0))).isSome = true) (.bool (gt (F11 (g_TFrame (aL v0)))))
  | _ => .fail
set_option maxHeartbeats 4000000 in
set_option maxRecDepth 20000 in
theorem ok11 : FnOk Try.prog 11 (pureC body11) := by
  refine pure_fnM body11 (rs := [.tmp 2]) Try.func11 (by kernel_rfl) rfl rfl ?_
  intro l ob v hb hob
  unfold body11 at hb
  split at hb
  · rename_i v0
    injection hb with q1 q2; subst q1 q2
    obtain ⟨hk0_0, hob⟩ := hob
    obtain ⟨r, H⟩ := Option.isSome_iff_exists.1 hob
    rw [H, gt_some]
    have hw0 := wA_TFrame hk0_0
    generalize g_TFrame (aL v0) = p0 at H hw0
    refine ⟨[.agg (.int .u8 p0.Head.Kind :: .int .u8 p0.Head.Sub :: .bool p0.Head.ToDs :: .bool p0.Head.FromDs :: .bool p0.Head.More :: .bool p0.Head.Retry :: .bool p0.Head.Sleep :: .bool p0.Head.MoreData :: .bool p0.Head.Protected :: .int .i64 p0.Head.Duration :: .int .u8 p0.Head.A1.x0 :: .int .u8 p0.Head.A1.x1 :: .int .u8 p0.Head.A1.x2 :: .int .u8 p0.Head.A1.x3 :: .int .u8 p0.Head.A1.x4 :: .int .u8 p0.Head.A1.x5 :: .int .u8 p0.Head.A2.x0 :: .int .u8 p0.Head.A2.x1 :: .int .u8 p0.Head.A2.x2 :: .int .u8 p0.Head.A2.x3 :: .int .u8 p0.Head.A2.x4 :: .int .u8 p0.Head.A2.x5 :: .int .u8 p0.Head.A3.x0 :: .int .u8 p0.Head.A3.x1 :: .int .u8 p0.Head.A3.x2 :: .int .u8 p0.Head.A3.x3 :: .int .u8 p0.Head.A3.x4 :: .int .u8 p0.Head.A3.x5 :: .int .u8 p0.Head.A4.x0 :: .int .u8 p0.Head.A4.x1 :: .int .u8 p0.Head.A4.x2 :: .int .u8 p0.Head.A4.x3 :: .int .u8 p0.Head.A4.x4 :: .int .u8 p0.Head.A4.x5 :: .int .i64 p0.Head.Seq :: .int .i64 p0.Head.Frag :: .int .i64 p0.Head.Tid :: .int .u8 p0.Head.Ack :: .bool p0.Head.Amsdu :: .bool p0.Head.Eosp :: .ro 1 p0.Body.length false (enR c_u8 p0.Body) :: [])], _, (fun E vs F => FR_wk1 hw0.1 F (fun vs F => F)), rfl, rfl, ?_⟩
    rw [Try.ntmps11]
    simp only [List.length_cons, List.length_nil, Nat.reduceAdd, Nat.reduceSub, List.replicate_succ, List.replicate_zero, List.cons_append, List.nil_append]
    unfold F11 at H
    try dsimp only at H
    refine sq ctNo_ok ?_
    simp only [go_sem, Nat.reduceLeDiff, Nat.reduceLT, Nat.reduceAdd, Nat.reduceMul, Nat.reduceSub, Nat.reduceEqDiff, Nat.reduceBEq, Int.reduceToNat, reduceCtorEq]
    refine sq ctNo_ok ?_
    simp only [go_sem, Nat.reduceLeDiff, Nat.reduceLT, Nat.reduceAdd, Nat.reduceMul, Nat.reduceSub, Nat.reduceEqDiff, Nat.reduceBEq, Int.reduceToNat, reduceCtorEq]
    repeat ((with_reducible refine And.intro ?_ ?_); focus (first | (and_intros <;> first | (with_reducible trivial) | omega | assumption | exact nfc | first | exact rfl | exact trivial | exact fitI | exact .inr rfl | exact .inl rfl | exact fun x hx => absurd hx (by omega)) | grind))
    refine rg ctNo_ok ?_
    simp only [go_sem, Nat.reduceLeDiff, Nat.reduceLT, Nat.reduceAdd, Nat.reduceMul, Nat.reduceSub, Nat.reduceEqDiff, Nat.reduceBEq, Int.reduceToNat, reduceCtorEq]
    obtain rfl := Option.some.inj H
    first | rfl | simp only [Bool.and_false, Bool.false_and, Bool.and_true, Bool.true_and]
  · cases hb
/-! hotspot/hotspotref34.greatQueue -/
noncomputable def ct47t0 : Ct := tab [(11, pureC body11)]
theorem ct47t0_ok : CtOk Try.prog ct47t0 := tab_cons ok11 <| tab_nil
theorem ct47t0_11 (l : List AV) (h : List ABlk) : ct47t0 11 l h = pureC body11 l h := rfl
noncomputable def F47_L1 (p0 : List TStored) (v1_1 : Int) : Option (Lp (Int) ((Unit) ⊕ (Bool))) :=
  bif (bLt v1_1 (p0.length : Nat)) then (need (inb v1_1 p0.length) <| (F11 (TFrame.mk (THeader.mk ((((gd p0 v1_1.toNat).Frame).Head).Kind) ((((gd p0 v1_1.toNat).Frame).Head).Sub) ((((gd p0 v1_1.toNat).Frame).Head).ToDs) ((((gd p0 v1_1.toNat).Frame).Head).FromDs) ((((gd p0 v1_1.toNat).Frame).Head).More) ((((gd p0 v1_1.toNat).Frame).Head).Retry) ((((gd p0 v1_1.toNat).Frame).Head).Sleep) ((((gd p0 v1_1.toNat).Frame).Head).MoreData) ((((gd p0 v1_1.toNat).Frame).Head).Protected) ((((gd p0 v1_1.toNat).Frame).Head).Duration) (A6u8.mk (((((gd p0 v1_1.toNat).Frame).Head).A1).x0) (((((gd p0 v1_1.toNat).Frame).Head).A1).x1) (((((gd p0 v1_1.toNat).Frame).Head).A1).x2) (((((gd p0 v1_1.toNat).Frame).Head).A1).x3) (((((gd p0 v1_1.toNat).Frame).Head).A1).x4) (((((gd p0 v1_1.toNat).Frame).Head).A1).x5)) (A6u8.mk (((((gd p0 v1_1.toNat).Frame).Head).A2).x0) (((((gd p0 v1_1.toNat).Frame).Head).A2).x1) (((((gd p0 v1_1.toNat).Frame).Head).A2).x2) (((((gd p0 v1_1.toNat).Frame).Head).A2).x3) (((((gd p0 v1_1.toNat).Frame).Head).A2).x4) (((((gd p0 v1_1.toNat).Frame).Head).A2).x5)) (A6u8.mk (((((gd p0 v1_1.toNat).Frame).Head).A3).x0) (((((gd p0 v1_1.toNat).Frame).Head).A3).x1) (((((gd p0 v1_1.toNat).Frame).Head).A3).x2) (((((gd p0 v1_1.toNat).Frame).Head).A3).x3) (((((gd p0 v1_1.toNat).Frame).Head).A3).x4) (((((gd p0 v1_1.toNat).Frame).Head).A3).x5)) (A6u8.mk (((((gd p0 v1_1.toNat).Frame).Head).A4).x0) (((((gd p0 v1_1.toNat).Frame).Head).A4).x1) (((((gd p0 v1_1.toNat).Frame).Head).A4).x2) (((((gd p0 v1_1.toNat).Frame).Head).A4).x3) (((((gd p0 v1_1.toNat).Frame).Head).A4).x4) (((((gd p0 v1_1.toNat).Frame).Head).A4).x5)) ((((gd p0 v1_1.toNat).Frame).Head).Seq) ((((gd p0 v1_1.toNat).Frame).Head).Frag) ((((gd p0 v1_1.toNat).Frame).Head).Tid) ((((gd p0 v1_1.toNat).Frame).Head).Ack) ((((gd p0 v1_1.toNat).Frame).Head).Amsdu) ((((gd p0 v1_1.toNat).Frame).Head).Eosp)) (((gd p0 v1_1.toNat).Frame).Body))).bind fun r2 => bif r2 then (some (.done (.inr true))) else (some (.next (wr .i64 (v1_1 + 1))))) else (some (.done (.inl ())))
noncomputable def F47 (p0 : List TStored) : Option (Bool) :=
  bif (bLt 70 (p0.length : Nat)) then (some true) else (lp (loopD (fun s => F47_L1 p0 s) 0) (fun e => some false) some)
noncomputable def body47 : List AV -> AR
  | [v0] => .pure (lK k_TStored 43 v0 /\ (F47 (lA g_TStored v0)).isSome = true) (.bool (gt (F47 (lA g_TStored v0))))
  | _ => .fail
set_option maxHeartbeats 4000000 in
set_option maxRecDepth 20000 in
theorem ok47 : FnOk Try.prog 47 (pureC body47) := by
  refine pure_fnM body47 (rs := [.tmp 2]) Try.func47 (by kernel_rfl) rfl rfl ?_
  intro l ob v hb hob
  unfold body47 at hb
  split at hb
  · rename_i v0
    injection hb with q1 q2; subst q1 q2
    obtain ⟨hk0_0, hob⟩ := hob
    obtain ⟨r, H⟩ := Option.isSome_iff_exists.1 hob
    rw [H, gt_some]
    have hw0 := lK_wk (fun r h => w_TStored h) hk0_0
    generalize lA g_TStored v0 = p0 at H hw0
    refine ⟨[.ro 43 p0.length false (enR c_TStored p0)], _, (fun E vs F => FR_wk1 hw0.1 F (fun vs F => F)), rfl, rfl, ?_⟩
    rw [Try.ntmps47]
    simp only [List.length_cons, List.length_nil, Nat.reduceAdd, Nat.reduceSub, List.replicate_succ, List.replicate_zero, List.cons_append, List.nil_append]
    unfold F47 at H
    try dsimp only at H
    refine sq ctNo_ok ?_
    simp only [go_sem, Nat.reduceLeDiff, Nat.reduceLT, Nat.reduceAdd, Nat.reduceMul, Nat.reduceSub, Nat.reduceEqDiff, Nat.reduceBEq, Int.reduceToNat, reduceCtorEq]
    refine seqM ?_
    refine sq ctNo_ok ?_
    simp only [go_sem, Nat.reduceLeDiff, Nat.reduceLT, Nat.reduceAdd, Nat.reduceMul, Nat.reduceSub, Nat.reduceEqDiff, Nat.reduceBEq, Int.reduceToNat, reduceCtorEq]
    repeat ((with_reducible refine And.intro ?_ ?_); focus (first | (and_intros <;> first | (with_reducible trivial) | omega | assumption | exact nfc | first | exact rfl | exact trivial | exact fitI | exact .inr rfl | exact .inl rfl | exact fun x hx => absurd hx (by omega)) | grind))
    refine condM rfl trivial (fun hc => ?_) (fun hc => ?_)
    · replace H := cond_t hc H
      refine sq ctNo_ok ?_
      simp only [go_sem, Nat.reduceLeDiff, Nat.reduceLT, Nat.reduceAdd, Nat.reduceMul, Nat.reduceSub, Nat.reduceEqDiff, Nat.reduceBEq, Int.reduceToNat, reduceCtorEq]
      refine rg ctNo_ok ?_
      simp only [go_sem, Nat.reduceLeDiff, Nat.reduceLT, Nat.reduceAdd, Nat.reduceMul, Nat.reduceSub, Nat.reduceEqDiff, Nat.reduceBEq, Int.reduceToNat, reduceCtorEq]
      obtain rfl := Option.some.inj H
      first | rfl | simp only [Bool.and_false, Bool.false_and, Bool.and_true, Bool.true_and]
    replace H := cond_f hc H
    refine rg ctNo_ok ?_
    simp only [go_sem, Nat.reduceLeDiff, Nat.reduceLT, Nat.reduceAdd, Nat.reduceMul, Nat.reduceSub, Nat.reduceEqDiff, Nat.reduceBEq, Int.reduceToNat, reduceCtorEq]
    refine seqM ?_
    refine sq ctNo_ok ?_
    simp only [go_sem, Nat.reduceLeDiff, Nat.reduceLT, Nat.reduceAdd, Nat.reduceMul, Nat.reduceSub, Nat.reduceEqDiff, Nat.reduceBEq, Int.reduceToNat, reduceCtorEq]
    refine blkM ?_
    refine loop_den (fun s : Int => (.ro 43 p0.length false (enR c_TStored p0) :: .top :: .top :: .int .i64 s :: tp 15 [])) (fun s => []) (fun e : Unit => (tp 19 [])) (fun e => []) H ?_ (fun v1_1 o H hn1_1 hn2_1 => ?_) (fun e H => ?_)
    · refine SubF_of ⟨[], ?_, ?_, by rfl, by rfl⟩
      · simp [CvL, Cv, getM, tp]
      · trivial
    · unfold F47_L1 at H
      try dsimp only at H ⊢
      try simp only [tp]
      refine seqM ?_
      refine sq ctNo_ok ?_
      simp only [go_sem, Nat.reduceLeDiff, Nat.reduceLT, Nat.reduceAdd, Nat.reduceMul, Nat.reduceSub, Nat.reduceEqDiff, Nat.reduceBEq, Int.reduceToNat, reduceCtorEq]
      repeat ((with_reducible refine And.intro ?_ ?_); focus (first | (and_intros <;> first | (with_reducible trivial) | omega | assumption | exact nfc | first | exact rfl | exact trivial | exact fitI | exact .inr rfl | exact .inl rfl | exact fun x hx => absurd hx (by omega)) | grind))
      refine condM' rfl trivial (fun hc => ?_) (fun hc => ?_)
      · replace H := cond_f hc H
        refine rg ctNo_ok ?_
        simp only [go_sem, Nat.reduceLeDiff, Nat.reduceLT, Nat.reduceAdd, Nat.reduceMul, Nat.reduceSub, Nat.reduceEqDiff, Nat.reduceBEq, Int.reduceToNat, reduceCtorEq]
        refine ⟨_, (Option.some.inj H).symm, ?_⟩
        refine SubF_of ⟨[], ?_, ?_, by rfl, by rfl⟩
        · simp [CvL, Cv, getM, tp]
        · trivial
      replace H := cond_t hc H
      refine rg ctNo_ok ?_
      simp only [go_sem, Nat.reduceLeDiff, Nat.reduceLT, Nat.reduceAdd, Nat.reduceMul, Nat.reduceSub, Nat.reduceEqDiff, Nat.reduceBEq, Int.reduceToNat, reduceCtorEq]
      refine seqM ?_
      refine blkM ?_
      refine seqM ?_
      obtain ⟨f1, H⟩ := need_some.1 H
      replace f1 := inb_iff.1 f1
      obtain ⟨r2, e3, H⟩ := bsi H
      refine rg ct47t0_ok ?_
      simp only [go_sem, Nat.reduceLeDiff, Nat.reduceLT, Nat.reduceAdd, Nat.reduceMul, Nat.reduceSub, Nat.reduceEqDiff, Nat.reduceBEq, Int.reduceToNat, reduceCtorEq, ct47t0_11, body11, f1, e3]
      repeat ((with_reducible refine And.intro ?_ ?_); focus (first | (and_intros <;> first | (with_reducible trivial) | omega | assumption | exact nfc | first | exact rfl | exact trivial | exact fitI | exact .inr rfl | exact .inl rfl | exact fun x hx => absurd hx (by omega)) | grind))
      refine condM rfl trivial (fun hc => ?_) (fun hc => ?_)
      · replace H := cond_t hc H
        refine sq ctNo_ok ?_
        simp only [go_sem, Nat.reduceLeDiff, Nat.reduceLT, Nat.reduceAdd, Nat.reduceMul, Nat.reduceSub, Nat.reduceEqDiff, Nat.reduceBEq, Int.reduceToNat, reduceCtorEq]
        refine rg ctNo_ok ?_
        simp only [go_sem, Nat.reduceLeDiff, Nat.reduceLT, Nat.reduceAdd, Nat.reduceMul, Nat.reduceSub, Nat.reduceEqDiff, Nat.reduceBEq, Int.reduceToNat, reduceCtorEq]
        have H := hn2_1 _ (Option.some.inj H).symm
        obtain rfl := Option.some.inj H
        first | rfl | simp only [Bool.and_false, Bool.false_and, Bool.and_true, Bool.true_and]
      replace H := cond_f hc H
      refine rg ctNo_ok ?_
      simp only [go_sem, Nat.reduceLeDiff, Nat.reduceLT, Nat.reduceAdd, Nat.reduceMul, Nat.reduceSub, Nat.reduceEqDiff, Nat.reduceBEq, Int.reduceToNat, reduceCtorEq]
      refine rg ctNo_ok ?_
      simp only [go_sem, Nat.reduceLeDiff, Nat.reduceLT, Nat.reduceAdd, Nat.reduceMul, Nat.reduceSub, Nat.reduceEqDiff, Nat.reduceBEq, Int.reduceToNat, reduceCtorEq]
      refine ⟨_, (Option.some.inj H).symm, ?_⟩
      refine SubF_of ⟨[], ?_, ?_, by rfl, by rfl⟩
      · simp [CvL, Cv, getM, tp]
      · trivial
    · try dsimp only at H ⊢
      try simp only [tp]
      try simp only [m_normal, k_normal, b_normal, kL_normal, r_normal]
      refine sq ctNo_ok ?_
      simp only [go_sem, Nat.reduceLeDiff, Nat.reduceLT, Nat.reduceAdd, Nat.reduceMul, Nat.reduceSub, Nat.reduceEqDiff, Nat.reduceBEq, Int.reduceToNat, reduceCtorEq]
      refine rg ctNo_ok ?_
      simp only [go_sem, Nat.reduceLeDiff, Nat.reduceLT, Nat.reduceAdd, Nat.reduceMul, Nat.reduceSub, Nat.reduceEqDiff, Nat.reduceBEq, Int.reduceToNat, reduceCtorEq]
      obtain rfl := Option.some.inj H
      first | rfl | simp only [Bool.and_false, Bool.false_and, Bool.and_true, Bool.true_and]
  · cases hb
/-! hotspot/hotspotref34.Great -/
noncomputable def ct24t0 : Ct := tab [(11, pureC body11), (47, pureC body47)]
theorem ct24t0_ok : CtOk Try.prog ct24t0 := tab_cons ok11 <| tab_cons ok47 <| tab_nil
theorem ct24t0_11 (l : List AV) (h : List ABlk) : ct24t0 11 l h = pureC body11 l h := rfl
theorem ct24t0_47 (l : List AV) (h : List ABlk) : ct24t0 47 l h = pureC body47 l h := rfl
noncomputable def ct24t1 : Ct := tab [(47, pureC body47)]
theorem ct24t1_ok : CtOk Try.prog ct24t1 := tab_cons ok47 <| tab_nil
theorem ct24t1_47 (l : List AV) (h : List ABlk) : ct24t1 47 l h = pureC body47 l h := rfl
noncomputable def F24_L1 (p0 : TBuffer) (v1_1 : Int) : Option (Lp (Int) ((Unit) ⊕ (Bool))) :=
  bif (bLt v1_1 (p0.List.length : Nat)) then (need (inb v1_1 p0.List.length) <| (F47 ((gd p0.List v1_1.toNat).Held)).bind fun r4 => bif r4 then (some (.done (.inr true))) else (some (.next (wr .i64 (v1_1 + 1))))) else (some (.done (.inl ())))
noncomputable def F24 (p0 : TBuffer) (p1 : TFrame) : Option (Bool) :=
  need (bif (!(bLt 40 (p0.List.length : Nat))) then ((F47 p0.Group).isSome) else true) <| need (bif (!((bLt 40 (p0.List.length : Nat)) || (gt (F47 p0.Group)))) then ((F11 p1).isSome) else true) <| bif (((bLt 40 (p0.List.length : Nat)) || (gt (F47 p0.Group))) || (gt (F11 p1))) then (some true) else (lp (loopD (fun s => F24_L1 p0 s) 0) (fun e => some false) some)
noncomputable def body24 : List AV -> AR
  | [v0, v1] => .pure (aK 4 k_TBuffer v0 /\ aK 41 k_TFrame v1 /\ (F24 (g_TBuffer (aL v0)) (g_TFrame (aL v1))).isSome = true) (.bool (gt (F24 (g_TBuffer (aL v0)) (g_TFrame (aL v1)))))
  | _ => .fail
set_option maxHeartbeats 4000000 in
set_option maxRecDepth 20000 in
theorem ok24 : FnOk Try.prog 24 (pureC body24) := by
  refine pure_fnM body24 (rs := [.tmp 4]) Try.func24 (by kernel_rfl) rfl rfl ?_
  intro l ob v hb hob
  unfold body24 at hb
  split at hb
  · rename_i v0 v1
    injection hb with q1 q2; subst q1 q2
    obtain ⟨hk0_0, hk1_0, hob⟩ := hob
    obtain ⟨r, H⟩ := Option.isSome_iff_exists.1 hob
    rw [H, gt_some]
    have hw0 := wA_TBuffer hk0_0
    have hw1 := wA_TFrame hk1_0
    generalize g_TBuffer (aL v0) = p0 at H hw0
    generalize g_TFrame (aL v1) = p1 at H hw1
    refine ⟨[.agg [.int .i64 p0.Limit, .int .i64 p0.Stay, .ro 3 p0.List.length false (enR c_TSleeper p0.List), .ro 43 p0.Group.length false (enR c_TStored p0.Group)], .agg (.int .u8 p1.Head.Kind :: .int .u8 p1.Head.Sub :: .bool p1.Head.ToDs :: .bool p1.Head.FromDs :: .bool p1.Head.More :: .bool p1.Head.Retry :: .bool p1.Head.Sleep :: .bool p1.Head.MoreData :: .bool p1.Head.Protected :: .int .i64 p1.Head.Duration :: .int .u8 p1.Head.A1.x0 :: .int .u8 p1.Head.A1.x1 :: .int .u8 p1.Head.A1.x2 :: .int .u8 p1.Head.A1.x3 :: .int .u8 p1.Head.A1.x4 :: .int .u8 p1.Head.A1.x5 :: .int .u8 p1.Head.A2.x0 :: .int .u8 p1.Head.A2.x1 :: .int .u8 p1.Head.A2.x2 :: .int .u8 p1.Head.A2.x3 :: .int .u8 p1.Head.A2.x4 :: .int .u8 p1.Head.A2.x5 :: .int .u8 p1.Head.A3.x0 :: .int .u8 p1.Head.A3.x1 :: .int .u8 p1.Head.A3.x2 :: .int .u8 p1.Head.A3.x3 :: .int .u8 p1.Head.A3.x4 :: .int .u8 p1.Head.A3.x5 :: .int .u8 p1.Head.A4.x0 :: .int .u8 p1.Head.A4.x1 :: .int .u8 p1.Head.A4.x2 :: .int .u8 p1.Head.A4.x3 :: .int .u8 p1.Head.A4.x4 :: .int .u8 p1.Head.A4.x5 :: .int .i64 p1.Head.Seq :: .int .i64 p1.Head.Frag :: .int .i64 p1.Head.Tid :: .int .u8 p1.Head.Ack :: .bool p1.Head.Amsdu :: .bool p1.Head.Eosp :: .ro 1 p1.Body.length false (enR c_u8 p1.Body) :: [])], _, (fun E vs F => FR_wk1 hw0.1 F (fun vs F => FR_wk1 hw1.1 F (fun vs F => F))), rfl, rfl, ?_⟩
    rw [Try.ntmps24]
    simp only [List.length_cons, List.length_nil, Nat.reduceAdd, Nat.reduceSub, List.replicate_succ, List.replicate_zero, List.cons_append, List.nil_append]
    unfold F24 at H
    try dsimp only at H
    refine sq ctNo_ok ?_
    simp only [go_sem, Nat.reduceLeDiff, Nat.reduceLT, Nat.reduceAdd, Nat.reduceMul, Nat.reduceSub, Nat.reduceEqDiff, Nat.reduceBEq, Int.reduceToNat, reduceCtorEq]
    refine seqM ?_
    refine seqM ?_
    obtain ⟨f1, H⟩ := need_some.1 H
    replace f1 := g_iff.1 f1
    obtain ⟨f2, H⟩ := need_some.1 H
    replace f2 := g_iff.1 f2
    refine rg ct24t0_ok ?_
    simp only [go_sem, Nat.reduceLeDiff, Nat.reduceLT, Nat.reduceAdd, Nat.reduceMul, Nat.reduceSub, Nat.reduceEqDiff, Nat.reduceBEq, Int.reduceToNat, reduceCtorEq, ct24t0_11, body11, ct24t0_47, body47]
    repeat ((with_reducible refine And.intro ?_ ?_); focus (first | (with_reducible trivial) | omega | exact f1 | exact f2 | (intro g; have q := f1 (by first | exact g | (rw [g]; rfl) | simpa using g); first | exact q | exact ⟨q.1, q.2.1⟩ | exact q.2.2 | omega | exact ⟨g, q⟩ | exact ⟨trivial, q⟩ | exact ⟨g, q.1, q.2.1⟩ | exact ⟨g, q.2.2⟩) | (intro g; have q := f2 (by first | exact g | (rw [g]; rfl) | simpa using g); first | exact q | exact ⟨q.1, q.2.1⟩ | exact q.2.2 | omega | exact ⟨g, q⟩ | exact ⟨trivial, q⟩ | exact ⟨g, q.1, q.2.1⟩ | exact ⟨g, q.2.2⟩) | (intro g; (try have q0 := f1 (by first | exact g | (rw [g]; rfl) | simpa using g)); (try have q1 := f2 (by first | exact g | (rw [g]; rfl) | simpa using g)); and_intros <;> first | (with_reducible trivial) | assumption | exact nfc | (intro g2; rw [g, g2]; rfl) | (intro g2; assumption) | (simp only [g, Bool.true_and, Bool.and_true, Bool.not_false, Bool.not_true]; assumption) | grind) | (and_intros <;> first | (with_reducible trivial) | omega | assumption | exact nfc | first | exact rfl | exact trivial | exact fitI | exact .inr rfl | exact .inl rfl | exact fun x hx => absurd hx (by omega)) | grind))
    refine condM rfl trivial (fun hc => ?_) (fun hc => ?_)
    · replace H := cond_t hc H
      refine sq ctNo_ok ?_
      simp only [go_sem, Nat.reduceLeDiff, Nat.reduceLT, Nat.reduceAdd, Nat.reduceMul, Nat.reduceSub, Nat.reduceEqDiff, Nat.reduceBEq, Int.reduceToNat, reduceCtorEq]
      refine rg ctNo_ok ?_
      simp only [go_sem, Nat.reduceLeDiff, Nat.reduceLT, Nat.reduceAdd, Nat.reduceMul, Nat.reduceSub, Nat.reduceEqDiff, Nat.reduceBEq, Int.reduceToNat, reduceCtorEq]
      obtain rfl := Option.some.inj H
      first | rfl | simp only [Bool.and_false, Bool.false_and, Bool.and_true, Bool.true_and]
    replace H := cond_f hc H
    refine rg ctNo_ok ?_
    simp only [go_sem, Nat.reduceLeDiff, Nat.reduceLT, Nat.reduceAdd, Nat.reduceMul, Nat.reduceSub, Nat.reduceEqDiff, Nat.reduceBEq, Int.reduceToNat, reduceCtorEq]
    refine seqM ?_
    refine sq ctNo_ok ?_
    simp only [go_sem, Nat.reduceLeDiff, Nat.reduceLT, Nat.reduceAdd, Nat.reduceMul, Nat.reduceSub, Nat.reduceEqDiff, Nat.reduceBEq, Int.reduceToNat, reduceCtorEq]
    refine blkM ?_
    refine loop_den (fun s : Int => (.top :: .top :: .ptr 0 0 0 0 :: .top :: .top :: .int .i64 s :: tp 27 [])) (fun s => [.lit 52 [.int .i64 p0.Limit, .int .i64 p0.Stay, .ro 3 p0.List.length false (enR c_TSleeper p0.List), .ro 43 p0.Group.length false (enR c_TStored p0.Group)], .dead]) (fun e : Unit => (tp 33 [])) (fun e => [.dead, .dead]) H ?_ (fun v1_1 o H hn1_1 hn2_1 => ?_) (fun e H => ?_)
    · refine SubF_of ⟨[some 0, some 1], ?_, ?_, by rfl, by rfl⟩
      · simp [CvL, Cv, getM, tp]
      · exact ⟨(by simp [CvB, CvL, Cv, blkAt, geth, getM]), CvB_dead, trivial⟩
    · unfold F24_L1 at H
      try dsimp only at H ⊢
      try simp only [tp]
      refine seqM ?_
      refine sq ctNo_ok ?_
      simp only [go_sem, Nat.reduceLeDiff, Nat.reduceLT, Nat.reduceAdd, Nat.reduceMul, Nat.reduceSub, Nat.reduceEqDiff, Nat.reduceBEq, Int.reduceToNat, reduceCtorEq]
      repeat ((with_reducible refine And.intro ?_ ?_); focus (first | (and_intros <;> first | (with_reducible trivial) | omega | assumption | exact nfc | first | exact rfl | exact trivial | exact fitI | exact .inr rfl | exact .inl rfl | exact fun x hx => absurd hx (by omega)) | grind))
      refine condM' rfl trivial (fun hc => ?_) (fun hc => ?_)
      · replace H := cond_f hc H
        refine rg ctNo_ok ?_
        simp only [go_sem, Nat.reduceLeDiff, Nat.reduceLT, Nat.reduceAdd, Nat.reduceMul, Nat.reduceSub, Nat.reduceEqDiff, Nat.reduceBEq, Int.reduceToNat, reduceCtorEq]
        refine ⟨_, (Option.some.inj H).symm, ?_⟩
        refine SubF_of ⟨[some 0, some 1], ?_, ?_, by rfl, by rfl⟩
        · simp [CvL, Cv, getM, tp]
        · exact ⟨CvB_dead, CvB_dead, trivial⟩
      replace H := cond_t hc H
      refine rg ctNo_ok ?_
      simp only [go_sem, Nat.reduceLeDiff, Nat.reduceLT, Nat.reduceAdd, Nat.reduceMul, Nat.reduceSub, Nat.reduceEqDiff, Nat.reduceBEq, Int.reduceToNat, reduceCtorEq]
      refine seqM ?_
      refine blkM ?_
      refine seqM ?_
      obtain ⟨f3, H⟩ := need_some.1 H
      replace f3 := inb_iff.1 f3
      obtain ⟨r4, e5, H⟩ := bsi H
      refine rg ct24t1_ok ?_
      simp only [go_sem, Nat.reduceLeDiff, Nat.reduceLT, Nat.reduceAdd, Nat.reduceMul, Nat.reduceSub, Nat.reduceEqDiff, Nat.reduceBEq, Int.reduceToNat, reduceCtorEq, ct24t1_47, body47, f3, e5]
      repeat ((with_reducible refine And.intro ?_ ?_); focus (first | (and_intros <;> first | (with_reducible trivial) | omega | assumption | exact nfc | first | exact rfl | exact trivial | exact fitI | exact .inr rfl | exact .inl rfl | exact fun x hx => absurd hx (by omega)) | grind))
      refine condM rfl trivial (fun hc => ?_) (fun hc => ?_)
      · replace H := cond_t hc H
        refine sq ctNo_ok ?_
        simp only [go_sem, Nat.reduceLeDiff, Nat.reduceLT, Nat.reduceAdd, Nat.reduceMul, Nat.reduceSub, Nat.reduceEqDiff, Nat.reduceBEq, Int.reduceToNat, reduceCtorEq]
        refine rg ctNo_ok ?_
        simp only [go_sem, Nat.reduceLeDiff, Nat.reduceLT, Nat.reduceAdd, Nat.reduceMul, Nat.reduceSub, Nat.reduceEqDiff, Nat.reduceBEq, Int.reduceToNat, reduceCtorEq]
        have H := hn2_1 _ (Option.some.inj H).symm
        obtain rfl := Option.some.inj H
        first | rfl | simp only [Bool.and_false, Bool.false_and, Bool.and_true, Bool.true_and]
      replace H := cond_f hc H
      refine rg ctNo_ok ?_
      simp only [go_sem, Nat.reduceLeDiff, Nat.reduceLT, Nat.reduceAdd, Nat.reduceMul, Nat.reduceSub, Nat.reduceEqDiff, Nat.reduceBEq, Int.reduceToNat, reduceCtorEq]
      refine rg ctNo_ok ?_
      simp only [go_sem, Nat.reduceLeDiff, Nat.reduceLT, Nat.reduceAdd, Nat.reduceMul, Nat.reduceSub, Nat.reduceEqDiff, Nat.reduceBEq, Int.reduceToNat, reduceCtorEq]
      refine ⟨_, (Option.some.inj H).symm, ?_⟩
      refine SubF_of ⟨[some 0, some 1], ?_, ?_, by rfl, by rfl⟩
      · simp [CvL, Cv, getM, tp]
      · exact ⟨(by simp [CvB, CvL, Cv, blkAt, geth, getM]), CvB_dead, trivial⟩
    · try dsimp only at H ⊢
      try simp only [tp]
      try simp only [m_normal, k_normal, b_normal, kL_normal, r_normal]
      refine sq ctNo_ok ?_
      simp only [go_sem, Nat.reduceLeDiff, Nat.reduceLT, Nat.reduceAdd, Nat.reduceMul, Nat.reduceSub, Nat.reduceEqDiff, Nat.reduceBEq, Int.reduceToNat, reduceCtorEq]
      refine rg ctNo_ok ?_
      simp only [go_sem, Nat.reduceLeDiff, Nat.reduceLT, Nat.reduceAdd, Nat.reduceMul, Nat.reduceSub, Nat.reduceEqDiff, Nat.reduceBEq, Int.reduceToNat, reduceCtorEq]
      obtain rfl := Option.some.inj H
      first | rfl | simp only [Bool.and_false, Bool.false_and, Bool.and_true, Bool.true_and]
  · cases hb
/-! hotspot/trigger.Map$1 -/
noncomputable def F48_0 (p0 : TStored) (p1_1 : Int) : Option (Bool) :=
  need (bif (!(bEq p1_1 15)) then bLe 0 p0.Cat else true) <| some ((bEq p1_1 15) || (bEq (andI .u8 (shrI .u8 p1_1 p0.Cat) 1) 0))
noncomputable def body48_0 : List AV -> AR
  | [v0, v1] => .pure (aK 43 k_TStored v0 /\ rM 3 v1 /\ iK .u8 (rG v1 1) /\ (F48_0 (g_TStored (aL v0)) (iA (rG v1 1))).isSome = true) (.bool (gt (F48_0 (g_TStored (aL v0)) (iA (rG v1 1)))))
  | _ => .fail
set_option maxHeartbeats 4000000 in
set_option maxRecDepth 20000 in
theorem ok48_0 : FnOk Try.prog 48 (pureC body48_0) := by
  refine pure_fnM body48_0 (rs := [.tmp 3]) Try.func48 (by kernel_rfl) rfl rfl ?_
  intro l ob v hb hob
  unfold body48_0 at hb
  split at hb
  · rename_i v0 v1
    injection hb with q1 q2; subst q1 q2
    obtain ⟨hk0_0, hk1_0, hk1_1, hob⟩ := hob
    obtain ⟨r, H⟩ := Option.isSome_iff_exists.1 hob
    rw [H, gt_some]
    have hw0 := wA_TStored hk0_0
    have hw1 := (rM_wk (cells := [AV.top, AV.int .u8 (iA (rG v1 1)), AV.top]) hk1_0 (fun y hy => match y, hy with | 0, _ => top_wk | 1, _ => iK_wk hk1_1 | 2, _ => top_wk | y + 3, hy => absurd hy (by omega)))
    generalize g_TStored (aL v0) = p0 at H hw0
    generalize iA (rG v1 1) = p1_1 at H hw1
    refine ⟨[.agg (.int .u8 p0.Cat :: .int .i64 p0.At :: .int .u8 p0.Frame.Head.Kind :: .int .u8 p0.Frame.Head.Sub :: .bool p0.Frame.Head.ToDs :: .bool p0.Frame.Head.FromDs :: .bool p0.Frame.Head.More :: .bool p0.Frame.Head.Retry :: .bool p0.Frame.Head.Sleep :: .bool p0.Frame.Head.MoreData :: .bool p0.Frame.Head.Protected :: .int .i64 p0.Frame.Head.Duration :: .int .u8 p0.Frame.Head.A1.x0 :: .int .u8 p0.Frame.Head.A1.x1 :: .int .u8 p0.Frame.Head.A1.x2 :: .int .u8 p0.Frame.Head.A1.x3 :: .int .u8 p0.Frame.Head.A1.x4 :: .int .u8 p0.Frame.Head.A1.x5 :: .int .u8 p0.Frame.Head.A2.x0 :: .int .u8 p0.Frame.Head.A2.x1 :: .int .u8 p0.Frame.Head.A2.x2 :: .int .u8 p0.Frame.Head.A2.x3 :: .int .u8 p0.Frame.Head.A2.x4 :: .int .u8 p0.Frame.Head.A2.x5 :: .int .u8 p0.Frame.Head.A3.x0 :: .int .u8 p0.Frame.Head.A3.x1 :: .int .u8 p0.Frame.Head.A3.x2 :: .int .u8 p0.Frame.Head.A3.x3 :: .int .u8 p0.Frame.Head.A3.x4 :: .int .u8 p0.Frame.Head.A3.x5 :: .int .u8 p0.Frame.Head.A4.x0 :: .int .u8 p0.Frame.Head.A4.x1 :: .int .u8 p0.Frame.Head.A4.x2 :: .int .u8 p0.Frame.Head.A4.x3 :: .int .u8 p0.Frame.Head.A4.x4 :: .int .u8 p0.Frame.Head.A4.x5 :: .int .i64 p0.Frame.Head.Seq :: .int .i64 p0.Frame.Head.Frag :: .int .i64 p0.Frame.Head.Tid :: .int .u8 p0.Frame.Head.Ack :: .bool p0.Frame.Head.Amsdu :: .bool p0.Frame.Head.Eosp :: .ro 1 p0.Frame.Body.length false (enR c_u8 p0.Frame.Body) :: []), .rptr 3 1 0 0 (fun _ y => getL [.top, .int .u8 p1_1, .top] y)], _, (fun E vs F => FR_wk1 hw0.1 F (fun vs F => FR_wk1 hw1.1 F (fun vs F => F))), rfl, rfl, ?_⟩
    rw [Try.ntmps48]
    simp only [List.length_cons, List.length_nil, Nat.reduceAdd, Nat.reduceSub, List.replicate_succ, List.replicate_zero, List.cons_append, List.nil_append]
    unfold F48_0 at H
    try dsimp only at H
    refine sq ctNo_ok ?_
    simp only [go_sem, Nat.reduceLeDiff, Nat.reduceLT, Nat.reduceAdd, Nat.reduceMul, Nat.reduceSub, Nat.reduceEqDiff, Nat.reduceBEq, Int.reduceToNat, reduceCtorEq]
    refine seqM ?_
    obtain ⟨f1, H⟩ := need_some.1 H
    replace f1 := g_iff.1 f1
    replace f1 := fun g => bLe_iff.1 (f1 g)
    refine rg ctNo_ok ?_
    simp only [go_sem, Nat.reduceLeDiff, Nat.reduceLT, Nat.reduceAdd, Nat.reduceMul, Nat.reduceSub, Nat.reduceEqDiff, Nat.reduceBEq, Int.reduceToNat, reduceCtorEq]
    repeat ((with_reducible refine And.intro ?_ ?_); focus (first | (with_reducible trivial) | omega | exact f1 | (intro g; have q := f1 (by first | exact g | (rw [g]; rfl) | simpa using g); first | exact q | exact ⟨q.1, q.2.1⟩ | exact q.2.2 | omega | exact ⟨g, q⟩ | exact ⟨trivial, q⟩ | exact ⟨g, q.1, q.2.1⟩ | exact ⟨g, q.2.2⟩) | grind))
    refine rg ctNo_ok ?_
    simp only [go_sem, Nat.reduceLeDiff, Nat.reduceLT, Nat.reduceAdd, Nat.reduceMul, Nat.reduceSub, Nat.reduceEqDiff, Nat.reduceBEq, Int.reduceToNat, reduceCtorEq]
    obtain rfl := Option.some.inj H
    first | rfl | simp only [Bool.and_false, Bool.false_and, Bool.and_true, Bool.true_and]
  · cases hb
/-! slices.IndexFunc[[]hotspot/api.Stored,hotspot/api.Stored] -/
noncomputable def ct68_1t0 : Ct := tab [(48, pureC body48_0)]
theorem ct68_1t0_ok : CtOk Try.prog ct68_1t0 := tab_cons ok48_0 <| tab_nil
theorem ct68_1t0_48 (l : List AV) (h : List ABlk) : ct68_1t0 48 l h = pureC body48_0 l h := rfl
noncomputable def F68_1_L1 (p0 : List TStored) (p1_1 : Int) (v1_1 : Int) : Option (Lp (Int) ((Unit) ⊕ (Int))) :=
  bif (bLt v1_1 (p0.length : Nat)) then (need (inb v1_1 p0.length) <| (F48_0 (TStored.mk ((gd p0 v1_1.toNat).Cat) ((gd p0 v1_1.toNat).At) (TFrame.mk (THeader.mk ((((gd p0 v1_1.toNat).Frame).Head).Kind) ((((gd p0 v1_1.toNat).Frame).Head).Sub) ((((gd p0 v1_1.toNat).Frame).Head).ToDs) ((((gd p0 v1_1.toNat).Frame).Head).FromDs) ((((gd p0 v1_1.toNat).Frame).Head).More) ((((gd p0 v1_1.toNat).Frame).Head).Retry) ((((gd p0 v1_1.toNat).Frame).Head).Sleep) ((((gd p0 v1_1.toNat).Frame).Head).MoreData) ((((gd p0 v1_1.toNat).Frame).Head).Protected) ((((gd p0 v1_1.toNat).Frame).Head).Duration) (A6u8.mk (((((gd p0 v1_1.toNat).Frame).Head).A1).x0) (((((gd p0 v1_1.toNat).Frame).Head).A1).x1) (((((gd p0 v1_1.toNat).Frame).Head).A1).x2) (((((gd p0 v1_1.toNat).Frame).Head).A1).x3) (((((gd p0 v1_1.toNat).Frame).Head).A1).x4) (((((gd p0 v1_1.toNat).Frame).Head).A1).x5)) (A6u8.mk (((((gd p0 v1_1.toNat).Frame).Head).A2).x0) (((((gd p0 v1_1.toNat).Frame).Head).A2).x1) (((((gd p0 v1_1.toNat).Frame).Head).A2).x2) (((((gd p0 v1_1.toNat).Frame).Head).A2).x3) (((((gd p0 v1_1.toNat).Frame).Head).A2).x4) (((((gd p0 v1_1.toNat).Frame).Head).A2).x5)) (A6u8.mk (((((gd p0 v1_1.toNat).Frame).Head).A3).x0) (((((gd p0 v1_1.toNat).Frame).Head).A3).x1) (((((gd p0 v1_1.toNat).Frame).Head).A3).x2) (((((gd p0 v1_1.toNat).Frame).Head).A3).x3) (((((gd p0 v1_1.toNat).Frame).Head).A3).x4) (((((gd p0 v1_1.toNat).Frame).Head).A3).x5)) (A6u8.mk (((((gd p0 v1_1.toNat).Frame).Head).A4).x0) (((((gd p0 v1_1.toNat).Frame).Head).A4).x1) (((((gd p0 v1_1.toNat).Frame).Head).A4).x2) (((((gd p0 v1_1.toNat).Frame).Head).A4).x3) (((((gd p0 v1_1.toNat).Frame).Head).A4).x4) (((((gd p0 v1_1.toNat).Frame).Head).A4).x5)) ((((gd p0 v1_1.toNat).Frame).Head).Seq) ((((gd p0 v1_1.toNat).Frame).Head).Frag) ((((gd p0 v1_1.toNat).Frame).Head).Tid) ((((gd p0 v1_1.toNat).Frame).Head).Ack) ((((gd p0 v1_1.toNat).Frame).Head).Amsdu) ((((gd p0 v1_1.toNat).Frame).Head).Eosp)) (((gd p0 v1_1.toNat).Frame).Body))) p1_1).bind fun r2 => bif r2 then (some (.done (.inr v1_1))) else (some (.next (wr .i64 (v1_1 + 1))))) else (some (.done (.inl ())))
noncomputable def F68_1 (p0 : List TStored) (p1_1 : Int) : Option (Int) :=
  lp (loopD (fun s => F68_1_L1 p0 p1_1 s) 0) (fun e => some (-1)) some
noncomputable def body68_1 : List AV -> AR
  | [v0, .fn 48 [v1]] => .pure (lK k_TStored 43 v0 /\ rM 3 v1 /\ iK .u8 (rG v1 1) /\ (F68_1 (lA g_TStored v0) (iA (rG v1 1))).isSome = true) (.int .i64 (gt (F68_1 (lA g_TStored v0) (iA (rG v1 1)))))
  | _ => .fail
set_option maxHeartbeats 4000000 in
set_option maxRecDepth 20000 in
theorem ok68_1 : FnOk Try.prog 68 (pureC body68_1) := by
  refine pure_fnM body68_1 (rs := [.tmp 4]) Try.func68 (by kernel_rfl) rfl rfl ?_
  intro l ob v hb hob
  unfold body68_1 at hb
  split at hb
  · rename_i v0 v1
    injection hb with q1 q2; subst q1 q2
    obtain ⟨hk0_0, hk1_0, hk1_1, hob⟩ := hob
    obtain ⟨r, H⟩ := Option.isSome_iff_exists.1 hob
    rw [H, gt_some]
    have hw0 := lK_wk (fun r h => w_TStored h) hk0_0
    have hw1 := (rM_wk (cells := [AV.top, AV.int .u8 (iA (rG v1 1)), AV.top]) hk1_0 (fun y hy => match y, hy with | 0, _ => top_wk | 1, _ => iK_wk hk1_1 | 2, _ => top_wk | y + 3, hy => absurd hy (by omega)))
    generalize lA g_TStored v0 = p0 at H hw0
    generalize iA (rG v1 1) = p1_1 at H hw1
    refine ⟨[.ro 43 p0.length false (enR c_TStored p0), .fn 48 [.rptr 3 1 0 0 (fun _ y => getL [.top, .int .u8 p1_1, .top] y)]], _, (fun E vs F => FR_wk1 hw0.1 F (fun vs F => FR_wk1 (fn_wk (LW_cons hw1.1 LW_nil)) F (fun vs F => F))), rfl, rfl, ?_⟩
    rw [Try.ntmps68]
    simp only [List.length_cons, List.length_nil, Nat.reduceAdd, Nat.reduceSub, List.replicate_succ, List.replicate_zero, List.cons_append, List.nil_append]
    unfold F68_1 at H
    try dsimp only at H
    refine sq ctNo_ok ?_
    simp only [go_sem, Nat.reduceLeDiff, Nat.reduceLT, Nat.reduceAdd, Nat.reduceMul, Nat.reduceSub, Nat.reduceEqDiff, Nat.reduceBEq, Int.reduceToNat, reduceCtorEq]
    refine seqM ?_
    refine sq ctNo_ok ?_
    simp only [go_sem, Nat.reduceLeDiff, Nat.reduceLT, Nat.reduceAdd, Nat.reduceMul, Nat.reduceSub, Nat.reduceEqDiff, Nat.reduceBEq, Int.reduceToNat, reduceCtorEq]
    repeat ((with_reducible refine And.intro ?_ ?_); focus (first | (and_intros <;> first | (with_reducible trivial) | omega | assumption | exact nfc | first | exact rfl | exact trivial | exact fitI | exact .inr rfl | exact .inl rfl | exact fun x hx => absurd hx (by omega) | (intro x hx; (repeat (first | (and_intros <;> (first | exact rfl | exact trivial | exact fitI | exact .inr rfl | exact .inl rfl | exact fun x hx => absurd hx (by omega))) | (exfalso; omega) | (rcases x with _ | x))); done)) | grind))
    refine blkM ?_
    refine loop_den (fun s : Int => (.ro 43 p0.length false (enR c_TStored p0) :: .fn 48 [.rptr 3 1 0 0 (fun _ y => getL [.top, .int .u8 p1_1, .top] y)] :: tp 5 (.int .i64 (p0.length : Nat) :: .int .i64 s :: tp 10 []))) (fun s => []) (fun e : Unit => (tp 19 [])) (fun e => []) H ?_ (fun v1_1 o H hn1_1 hn2_1 => ?_) (fun e H => ?_)
    · refine SubF_of ⟨[], ?_, ?_, by rfl, by rfl⟩
      · simp [CvL, Cv, getM, tp]
      · trivial
    · unfold F68_1_L1 at H
      try dsimp only at H ⊢
      try simp only [tp]
      refine sq ctNo_ok ?_
      simp only [go_sem, Nat.reduceLeDiff, Nat.reduceLT, Nat.reduceAdd, Nat.reduceMul, Nat.reduceSub, Nat.reduceEqDiff, Nat.reduceBEq, Int.reduceToNat, reduceCtorEq]
      refine seqM ?_
      refine condM' rfl trivial (fun hc => ?_) (fun hc => ?_)
      · replace H := cond_f hc H
        refine rg ctNo_ok ?_
        simp only [go_sem, Nat.reduceLeDiff, Nat.reduceLT, Nat.reduceAdd, Nat.reduceMul, Nat.reduceSub, Nat.reduceEqDiff, Nat.reduceBEq, Int.reduceToNat, reduceCtorEq]
        refine ⟨_, (Option.some.inj H).symm, ?_⟩
        refine SubF_of ⟨[], ?_, ?_, by rfl, by rfl⟩
        · simp [CvL, Cv, getM, tp]
        · trivial
      replace H := cond_t hc H
      refine rg ctNo_ok ?_
      simp only [go_sem, Nat.reduceLeDiff, Nat.reduceLT, Nat.reduceAdd, Nat.reduceMul, Nat.reduceSub, Nat.reduceEqDiff, Nat.reduceBEq, Int.reduceToNat, reduceCtorEq]
      refine seqM ?_
      refine blkM ?_
      refine sq ctNo_ok ?_
      simp only [go_sem, Nat.reduceLeDiff, Nat.reduceLT, Nat.reduceAdd, Nat.reduceMul, Nat.reduceSub, Nat.reduceEqDiff, Nat.reduceBEq, Int.reduceToNat, reduceCtorEq]
      refine seqM ?_
      obtain ⟨f1, H⟩ := need_some.1 H
      replace f1 := inb_iff.1 f1
      obtain ⟨r2, e3, H⟩ := bsi H
      refine rg ct68_1t0_ok ?_
      simp only [go_sem, Nat.reduceLeDiff, Nat.reduceLT, Nat.reduceAdd, Nat.reduceMul, Nat.reduceSub, Nat.reduceEqDiff, Nat.reduceBEq, Int.reduceToNat, reduceCtorEq, ct68_1t0_48, body48_0, f1, e3]
      repeat ((with_reducible refine And.intro ?_ ?_); focus (first | (and_intros <;> first | (with_reducible trivial) | omega | assumption | exact nfc | first | exact rfl | exact trivial | exact fitI | exact .inr rfl | exact .inl rfl | exact fun x hx => absurd hx (by omega) | (intro x hx; (repeat (first | (and_intros <;> (first | exact rfl | exact trivial | exact fitI | exact .inr rfl | exact .inl rfl | exact fun x hx => absurd hx (by omega))) | (exfalso; omega) | (rcases x with _ | x))); done)) | grind))
      refine condM rfl trivial (fun hc => ?_) (fun hc => ?_)
      · replace H := cond_t hc H
        refine sq ctNo_ok ?_
        simp only [go_sem, Nat.reduceLeDiff, Nat.reduceLT, Nat.reduceAdd, Nat.reduceMul, Nat.reduceSub, Nat.reduceEqDiff, Nat.reduceBEq, Int.reduceToNat, reduceCtorEq]
        refine rg ctNo_ok ?_
        simp only [go_sem, Nat.reduceLeDiff, Nat.reduceLT, Nat.reduceAdd, Nat.reduceMul, Nat.reduceSub, Nat.reduceEqDiff, Nat.reduceBEq, Int.reduceToNat, reduceCtorEq]
        have H := hn2_1 _ (Option.some.inj H).symm
        obtain rfl := Option.some.inj H
        first | rfl | simp only [Bool.and_false, Bool.false_and, Bool.and_true, Bool.true_and]
      replace H := cond_f hc H
      refine rg ctNo_ok ?_
      simp only [go_sem, Nat.reduceLeDiff, Nat.reduceLT, Nat.reduceAdd, Nat.reduceMul, Nat.reduceSub, Nat.reduceEqDiff, Nat.reduceBEq, Int.reduceToNat, reduceCtorEq]
      refine rg ctNo_ok ?_
      simp only [go_sem, Nat.reduceLeDiff, Nat.reduceLT, Nat.reduceAdd, Nat.reduceMul, Nat.reduceSub, Nat.reduceEqDiff, Nat.reduceBEq, Int.reduceToNat, reduceCtorEq]
      refine ⟨_, (Option.some.inj H).symm, ?_⟩
      refine SubF_of ⟨[], ?_, ?_, by rfl, by rfl⟩
      · simp [CvL, Cv, getM, tp]
      · trivial
    · try dsimp only at H ⊢
      try simp only [tp]
      try simp only [m_normal, k_normal, b_normal, kL_normal, r_normal]
      refine sq ctNo_ok ?_
      simp only [go_sem, Nat.reduceLeDiff, Nat.reduceLT, Nat.reduceAdd, Nat.reduceMul, Nat.reduceSub, Nat.reduceEqDiff, Nat.reduceBEq, Int.reduceToNat, reduceCtorEq]
      refine rg ctNo_ok ?_
      simp only [go_sem, Nat.reduceLeDiff, Nat.reduceLT, Nat.reduceAdd, Nat.reduceMul, Nat.reduceSub, Nat.reduceEqDiff, Nat.reduceBEq, Int.reduceToNat, reduceCtorEq]
      obtain rfl := Option.some.inj H
      first | rfl | simp only [Bool.and_false, Bool.false_and, Bool.and_true, Bool.true_and]
  · cases hb
/-! slices.ContainsFunc[[]hotspot/api.Stored,hotspot/api.Stored] -/
noncomputable def ct49_1t0 : Ct := tab [(68, pureC body68_1)]
theorem ct49_1t0_ok : CtOk Try.prog ct49_1t0 := tab_cons ok68_1 <| tab_nil
theorem ct49_1t0_68 (l : List AV) (h : List ABlk) : ct49_1t0 68 l h = pureC body68_1 l h := rfl
noncomputable def F49_1 (p0 : List TStored) (p1_1 : Int) : Option (Bool) :=
  (F68_1 p0 p1_1).bind fun r1 => some (bLe 0 r1)
noncomputable def body49_1 : List AV -> AR
  | [v0, .fn 48 [v1]] => .pure (lK k_TStored 43 v0 /\ rM 3 v1 /\ iK .u8 (rG v1 1) /\ (F49_1 (lA g_TStored v0) (iA (rG v1 1))).isSome = true) (.bool (gt (F49_1 (lA g_TStored v0) (iA (rG v1 1)))))
  | _ => .fail
set_option maxHeartbeats 4000000 in
set_option maxRecDepth 20000 in
theorem ok49_1 : FnOk Try.prog 49 (pureC body49_1) := by
  refine pure_fnM body49_1 (rs := [.tmp 4]) Try.func49 (by kernel_rfl) rfl rfl ?_
  intro l ob v hb hob
  unfold body49_1 at hb
  split at hb
  · rename_i v0 v1
    injection hb with q1 q2; subst q1 q2
    obtain ⟨hk0_0, hk1_0, hk1_1, hob⟩ := hob
    obtain ⟨r, H⟩ := Option.isSome_iff_exists.1 hob
    rw [H, gt_some]
    have hw0 := lK_wk (fun r h => w_TStored h) hk0_0
    have hw1 := (rM_wk (cells := [AV.top, AV.int .u8 (iA (rG v1 1)), AV.top]) hk1_0 (fun y hy => match y, hy with | 0, _ => top_wk | 1, _ => iK_wk hk1_1 | 2, _ => top_wk | y + 3, hy => absurd hy (by omega)))
    generalize lA g_TStored v0 = p0 at H hw0
    generalize iA (rG v1 1) = p1_1 at H hw1
    refine ⟨[.ro 43 p0.length false (enR c_TStored p0), .fn 48 [.rptr 3 1 0 0 (fun _ y => getL [.top, .int .u8 p1_1, .top] y)]], _, (fun E vs F => FR_wk1 hw0.1 F (fun vs F => FR_wk1 (fn_wk (LW_cons hw1.1 LW_nil)) F (fun vs F => F))), rfl, rfl, ?_⟩
    rw [Try.ntmps49]
    simp only [List.length_cons, List.length_nil, Nat.reduceAdd, Nat.reduceSub, List.replicate_succ, List.replicate_zero, List.cons_append, List.nil_append]
    unfold F49_1 at H
    try dsimp only at H
    refine sq ctNo_ok ?_
    simp only [go_sem, Nat.reduceLeDiff, Nat.reduceLT, Nat.reduceAdd, Nat.reduceMul, Nat.reduceSub, Nat.reduceEqDiff, Nat.reduceBEq, Int.reduceToNat, reduceCtorEq]
    refine seqM ?_
    obtain ⟨r1, e2, H⟩ := bsi H
    refine rg ct49_1t0_ok ?_
    simp only [go_sem, Nat.reduceLeDiff, Nat.reduceLT, Nat.reduceAdd, Nat.reduceMul, Nat.reduceSub, Nat.reduceEqDiff, Nat.reduceBEq, Int.reduceToNat, reduceCtorEq, ct49_1t0_68, body68_1, e2]
    repeat ((with_reducible refine And.intro ?_ ?_); focus (first | (and_intros <;> first | (with_reducible trivial) | omega | assumption | exact nfc | first | exact rfl | exact trivial | exact fitI | exact .inr rfl | exact .inl rfl | exact fun x hx => absurd hx (by omega) | (intro x hx; (repeat (first | (and_intros <;> (first | exact rfl | exact trivial | exact fitI | exact .inr rfl | exact .inl rfl | exact fun x hx => absurd hx (by omega))) | (exfalso; omega) | (rcases x with _ | x))); done)) | grind))
    refine rg ctNo_ok ?_
    simp only [go_sem, Nat.reduceLeDiff, Nat.reduceLT, Nat.reduceAdd, Nat.reduceMul, Nat.reduceSub, Nat.reduceEqDiff, Nat.reduceBEq, Int.reduceToNat, reduceCtorEq]
    obtain rfl := Option.some.inj H
    first | rfl | simp only [Bool.and_false, Bool.false_and, Bool.and_true, Bool.true_and]
  · cases hb
/-! hotspot/trigger.Map -/
noncomputable def ct25t0 : Ct := tab [(34, pureC body34)]
theorem ct25t0_ok : CtOk Try.prog ct25t0 := tab_cons ok34 <| tab_nil
theorem ct25t0_34 (l : List AV) (h : List ABlk) : ct25t0 34 l h = pureC body34 l h := rfl
noncomputable def ct25t1 : Ct := tab [(20, pureC body20)]
theorem ct25t1_ok : CtOk Try.prog ct25t1 := tab_cons ok20 <| tab_nil
theorem ct25t1_20 (l : List AV) (h : List ABlk) : ct25t1 20 l h = pureC body20 l h := rfl
noncomputable def ct25t2 : Ct := tab [(49, pureC body49_1)]
theorem ct25t2_ok : CtOk Try.prog ct25t2 := tab_cons ok49_1 <| tab_nil
theorem ct25t2_49 (l : List AV) (h : List ABlk) : ct25t2 49 l h = pureC body49_1 l h := rfl
noncomputable def F25_L1 (p0 : TBuffer) (p1 : List TTriggerPlan) (v1_1 : Int) (v1_2 : List Int) : Option (Lp (Int × (List Int)) ((List Int) ⊕ (TTraffic × Int))) :=
  bif (bLt v1_1 (p1.length : Nat)) then (need (inb v1_1 p1.length) <| (F20 (gd p1 v1_1.toNat)).bind fun r4 => bif (!bEq r4 0) then (some (.done (.inr ((TTraffic.mk false []), r4)))) else (need (inb v1_1 p0.List.length) <| (F49_1 ((gd p0.List v1_1.toNat).Held) ((gd p1 v1_1.toNat).Deliver)).bind fun r7 => bif r7 then (need (inb v1_1 p0.List.length) <| need (capb 8 (v1_2.length + 1)) <| some (.next (wr .i64 (v1_1 + 1), (v1_2 ++ [(gd p0.List v1_1.toNat).Aid])))) else (some (.next (wr .i64 (v1_1 + 1), v1_2))))) else (some (.done (.inl v1_2)))
noncomputable def F25 (p0 : TBuffer) (p1 : List TTriggerPlan) : Option (TTraffic × Int) :=
  (F34 p0).bind fun r1 => bif (!bEq r1 0) then (some ((TTraffic.mk false []), r1)) else (bif (!bEq (p1.length : Nat) (p0.List.length : Nat)) then (some ((TTraffic.mk false []), 2)) else (lp (loopD (fun s => F25_L1 p0 p1 s.1 s.2) (0, [])) (fun w1_3 => some ((TTraffic.mk (bLt 0 (p0.Group.length : Nat)) w1_3), 0)) some))
noncomputable def body25 : List AV -> List ABlk -> ED
  | [v0, v1], h => .ed [] (aK 4 k_TBuffer (roD (deadL h []) v0) /\ roDOb (deadL h []) v0 /\ lK k_TTriggerPlan 3 (roD (deadL h []) v1) /\ roDOb (deadL h []) v1 /\ (F25 (g_TBuffer (aL (roD (deadL h []) v0))) (lA g_TTriggerPlan (roD (deadL h []) v1))).isSome = true) (.tup [.agg [.bool (((gt (F25 (g_TBuffer (aL (roD (deadL h []) v0))) (lA g_TTriggerPlan (roD (deadL h []) v1)))).1).Group), .sl 0 1 0 ((((gt (F25 (g_TBuffer (aL (roD (deadL h []) v0))) (lA g_TTriggerPlan (roD (deadL h []) v1)))).1).Aids).length) false], .int .i64 ((gt (F25 (g_TBuffer (aL (roD (deadL h []) v0))) (lA g_TTriggerPlan (roD (deadL h []) v1)))).2)]) [.row 3 1 ((((gt (F25 (g_TBuffer (aL (roD (deadL h []) v0))) (lA g_TTriggerPlan (roD (deadL h []) v1)))).1).Aids).length) (enR c_i64 (((gt (F25 (g_TBuffer (aL (roD (deadL h []) v0))) (lA g_TTriggerPlan (roD (deadL h []) v1)))).1).Aids))]
  | _, _ => .fail
set_option maxHeartbeats 4000000 in
set_option maxRecDepth 20000 in
theorem ok25 : FnOk Try.prog 25 (edC body25) := by
  refine edit_fnV body25 (rs := [.cell 4 57, .tmp 5]) Try.func25 (by kernel_rfl) rfl rfl ?_
  intro l h bs ob q0 g0 hb hob
  unfold body25 at hb
  split at hb
  · rename_i v0 v1
    injection hb with q1 q2 q3 q4; subst q1 q2 q3 q4
    obtain ⟨hk0_0, hk0_1, hk1_0, hk1_1, hob⟩ := hob
    obtain ⟨r, H⟩ := Option.isSome_iff_exists.1 hob
    rw [H, gt_some]
    have hw0 := wA_TBuffer hk0_0
    obtain ⟨p0, hp_p0⟩ : ∃ p0, p0 = g_TBuffer (aL (roD (deadL h []) v0)) := ⟨_, rfl⟩
    rw [← hp_p0] at H hw0
    have hw1 := lK_wk (fun r h => w_TTriggerPlan h) hk1_0
    obtain ⟨p1, hp_p1⟩ : ∃ p1, p1 = lA g_TTriggerPlan (roD (deadL h []) v1) := ⟨_, rfl⟩
    rw [← hp_p1] at H hw1
    refine ⟨[.agg [.int .i64 p0.Limit, .int .i64 p0.Stay, .ro 3 p0.List.length false (enR c_TSleeper p0.List), .ro 43 p0.Group.length false (enR c_TStored p0.Group)], .ro 3 p1.length false (enR c_TTriggerPlan p1)], [], rfl, ⟨(EW_view hk0_1 hw0), ⟨(EW_view hk1_1 hw1), trivial⟩⟩, trivial, trivial, ⟨(nfB_en nr_i64), trivial⟩, ⟨noroB_en, trivial⟩, (by first | (simp only [noro, noroL, and_self]; done) | (simp only [noro, noroL]; and_intros <;> first | trivial | exact noro_bif (by simp only [noro]) (by simp only [noro]) | (simp only [noro, noroL, and_self]))), ?_⟩
    rw [Try.ntmps25]
    simp only [List.length_cons, List.length_nil, Nat.reduceAdd, Nat.reduceSub, List.replicate_succ, List.replicate_zero, List.cons_append, List.nil_append]
    unfold F25 at H
    try dsimp only at H
    refine sq ctNo_ok ?_
    simp only [go_sem, Nat.reduceLeDiff, Nat.reduceLT, Nat.reduceAdd, Nat.reduceMul, Nat.reduceSub, Nat.reduceEqDiff, Nat.reduceBEq, Int.reduceToNat, reduceCtorEq]
    refine seqM ?_
    refine seqM ?_
    obtain ⟨r1, e2, H⟩ := bsi H
    refine rg ct25t0_ok ?_
    simp only [go_sem, Nat.reduceLeDiff, Nat.reduceLT, Nat.reduceAdd, Nat.reduceMul, Nat.reduceSub, Nat.reduceEqDiff, Nat.reduceBEq, Int.reduceToNat, reduceCtorEq, ct25t0_34, body34, e2]
    repeat ((with_reducible refine And.intro ?_ ?_); focus (first | (and_intros <;> first | (with_reducible trivial) | omega | assumption | exact nfc | first | exact rfl | exact trivial | exact fitI | exact .inr rfl | exact .inl rfl | exact fun x hx => absurd hx (by omega)) | grind))
    refine sq ctNo_ok ?_
    simp only [go_sem, Nat.reduceLeDiff, Nat.reduceLT, Nat.reduceAdd, Nat.reduceMul, Nat.reduceSub, Nat.reduceEqDiff, Nat.reduceBEq, Int.reduceToNat, reduceCtorEq]
    refine condM rfl trivial (fun hc => ?_) (fun hc => ?_)
    · replace H := cond_t hc H
      refine sq ctNo_ok ?_
      simp only [go_sem, Nat.reduceLeDiff, Nat.reduceLT, Nat.reduceAdd, Nat.reduceMul, Nat.reduceSub, Nat.reduceEqDiff, Nat.reduceBEq, Int.reduceToNat, reduceCtorEq]
      repeat ((with_reducible refine And.intro ?_ ?_); focus (first | (with_reducible trivial) | omega | grind))
      refine rg ctNo_ok ?_
      simp only [go_sem, Nat.reduceLeDiff, Nat.reduceLT, Nat.reduceAdd, Nat.reduceMul, Nat.reduceSub, Nat.reduceEqDiff, Nat.reduceBEq, Int.reduceToNat, reduceCtorEq]
      obtain rfl := Option.some.inj H
      refine RetE_mk [] [none] ?_ ?_ ?_ ?_ (by rfl) (by rfl)
      · simp only [go_sem, Nat.reduceEqDiff, Nat.reduceBEq, Nat.reduceAdd]
        try (and_intros <;> first | (with_reducible trivial) | omega | exact nfc | trivial)
      · simp only [go_sem, Nat.reduceEqDiff, Nat.reduceBEq, Nat.reduceAdd]
        try (and_intros <;> first | (with_reducible trivial) | omega | exact nfc | trivial)
      · simp only [go_sem, Nat.reduceEqDiff, Nat.reduceBEq, Nat.reduceAdd]
        exact Cv_tup (CvL_cons (by first | (simp [Cv, CvL, getM, gt_some]; done) | (simp [Cv, CvL, getM, gt_some]; omega)) (CvL_cons (by simp [Cv, CvL, getM, gt_some]) CvL_nil))
      · simp only [go_sem, Nat.reduceEqDiff, Nat.reduceBEq, Nat.reduceAdd, CvH, gt_some, Option.isSome_some, Option.isSome_none]
        exact CvB_none
    replace H := cond_f hc H
    refine rg ctNo_ok ?_
    simp only [go_sem, Nat.reduceLeDiff, Nat.reduceLT, Nat.reduceAdd, Nat.reduceMul, Nat.reduceSub, Nat.reduceEqDiff, Nat.reduceBEq, Int.reduceToNat, reduceCtorEq]
    refine seqM ?_
    refine sq ctNo_ok ?_
    simp only [go_sem, Nat.reduceLeDiff, Nat.reduceLT, Nat.reduceAdd, Nat.reduceMul, Nat.reduceSub, Nat.reduceEqDiff, Nat.reduceBEq, Int.reduceToNat, reduceCtorEq]
    repeat ((with_reducible refine And.intro ?_ ?_); focus (first | (and_intros <;> first | (with_reducible trivial) | omega | assumption | exact nfc | first | exact rfl | exact trivial | exact fitI | exact .inr rfl | exact .inl rfl | exact fun x hx => absurd hx (by omega)) | grind))
    refine condM rfl trivial (fun hc => ?_) (fun hc => ?_)
    · replace H := cond_t hc H
      refine sq ctNo_ok ?_
      simp only [go_sem, Nat.reduceLeDiff, Nat.reduceLT, Nat.reduceAdd, Nat.reduceMul, Nat.reduceSub, Nat.reduceEqDiff, Nat.reduceBEq, Int.reduceToNat, reduceCtorEq]
      repeat ((with_reducible refine And.intro ?_ ?_); focus (first | (with_reducible trivial) | omega | grind))
      refine rg ctNo_ok ?_
      simp only [go_sem, Nat.reduceLeDiff, Nat.reduceLT, Nat.reduceAdd, Nat.reduceMul, Nat.reduceSub, Nat.reduceEqDiff, Nat.reduceBEq, Int.reduceToNat, reduceCtorEq]
      obtain rfl := Option.some.inj H
      refine RetE_mk [] [none] ?_ ?_ ?_ ?_ (by rfl) (by rfl)
      · simp only [go_sem, Nat.reduceEqDiff, Nat.reduceBEq, Nat.reduceAdd]
        try (and_intros <;> first | (with_reducible trivial) | omega | exact nfc | trivial)
      · simp only [go_sem, Nat.reduceEqDiff, Nat.reduceBEq, Nat.reduceAdd]
        try (and_intros <;> first | (with_reducible trivial) | omega | exact nfc | trivial)
      · simp only [go_sem, Nat.reduceEqDiff, Nat.reduceBEq, Nat.reduceAdd]
        exact Cv_tup (CvL_cons (by first | (simp [Cv, CvL, getM, gt_some]; done) | (simp [Cv, CvL, getM, gt_some]; omega)) (CvL_cons (by simp [Cv, CvL, getM, gt_some]) CvL_nil))
      · simp only [go_sem, Nat.reduceEqDiff, Nat.reduceBEq, Nat.reduceAdd, CvH, gt_some, Option.isSome_some, Option.isSome_none]
        exact CvB_none
    replace H := cond_f hc H
    refine rg ctNo_ok ?_
    simp only [go_sem, Nat.reduceLeDiff, Nat.reduceLT, Nat.reduceAdd, Nat.reduceMul, Nat.reduceSub, Nat.reduceEqDiff, Nat.reduceBEq, Int.reduceToNat, reduceCtorEq]
    refine sq ctNo_ok ?_
    simp only [go_sem, Nat.reduceLeDiff, Nat.reduceLT, Nat.reduceAdd, Nat.reduceMul, Nat.reduceSub, Nat.reduceEqDiff, Nat.reduceBEq, Int.reduceToNat, reduceCtorEq]
    repeat ((with_reducible refine And.intro ?_ ?_); focus (first | (and_intros <;> first | (with_reducible trivial) | omega | assumption | exact nfc | first | exact rfl | exact trivial | exact fitI | exact .inr rfl | exact .inl rfl | exact fun x hx => absurd hx (by omega)) | grind))
    refine seqM ?_
    refine sq ctNo_ok ?_
    simp only [go_sem, Nat.reduceLeDiff, Nat.reduceLT, Nat.reduceAdd, Nat.reduceMul, Nat.reduceSub, Nat.reduceEqDiff, Nat.reduceBEq, Int.reduceToNat, reduceCtorEq]
    repeat ((with_reducible refine And.intro ?_ ?_); focus (first | (and_intros <;> first | (with_reducible trivial) | omega | assumption | exact nfc | first | exact rfl | exact trivial | exact fitI | exact .inr rfl | exact .inl rfl | exact fun x hx => absurd hx (by omega)) | grind))
    refine blkM ?_
    refine loop_den (fun s : Int × (List Int) => (.top :: .top :: .ptr 0 0 0 0 :: .top :: .ptr 1 0 0 0 :: .top :: .top :: .ptr 2 0 0 0 :: tp 22 (.ro 3 p1.length false (enR c_TTriggerPlan p1) :: .int .i64 (p1.length : Nat) :: .int .i64 s.1 :: tp 32 []))) (fun s => [.lit 52 [.int .i64 p0.Limit, .int .i64 p0.Stay, .ro 3 p0.List.length false (enR c_TSleeper p0.List), .ro 43 p0.Group.length false (enR c_TStored p0.Group)], .lit 57 [.bool false, .ro 0 0 true (fun _ _ => .top)], .lit 57 [.bool (bLt 0 (p0.Group.length : Nat)), .sl 3 1 0 s.2.length false], .row 3 1 s.2.length (enR c_i64 s.2)]) (fun e : List Int => (tp 4 (.ptr 1 0 0 0 :: .top :: .top :: .ptr 2 0 0 0 :: tp 57 []))) (fun e => [.dead, .lit 57 [.bool false, .ro 0 0 true (fun _ _ => .top)], .lit 57 [.bool (bLt 0 (p0.Group.length : Nat)), .sl 3 1 0 e.length false], .row 3 1 e.length (enR c_i64 e)]) H ?_ (fun s o H hn1_1 hn2_1 => ?_) (fun w1_3 H => ?_)
    · refine SubF_of ⟨[some 0, some 1, some 2, none], ?_, ?_, by rfl, by rfl⟩
      · simp [CvL, Cv, getM, tp]
      · exact ⟨(by simp [CvB, CvL, Cv, blkAt, geth, getM]), (by simp [CvB, CvL, Cv, blkAt, geth, getM]), (by simp [CvB, CvL, Cv, blkAt, geth, getM]), CvB_none, trivial⟩
    · obtain ⟨v1_1, v1_2⟩ := s
      unfold F25_L1 at H
      try dsimp only at H ⊢
      try simp only [tp]
      refine sq ctNo_ok ?_
      simp only [go_sem, Nat.reduceLeDiff, Nat.reduceLT, Nat.reduceAdd, Nat.reduceMul, Nat.reduceSub, Nat.reduceEqDiff, Nat.reduceBEq, Int.reduceToNat, reduceCtorEq]
      refine seqM ?_
      refine condM' rfl trivial (fun hc => ?_) (fun hc => ?_)
      · replace H := cond_f hc H
        refine rg ctNo_ok ?_
        simp only [go_sem, Nat.reduceLeDiff, Nat.reduceLT, Nat.reduceAdd, Nat.reduceMul, Nat.reduceSub, Nat.reduceEqDiff, Nat.reduceBEq, Int.reduceToNat, reduceCtorEq]
        refine ⟨_, (Option.some.inj H).symm, ?_⟩
        refine SubF_of ⟨[some 0, some 1, some 2, some 3], ?_, ?_, by rfl, by rfl⟩
        · simp [CvL, Cv, getM, tp]
        · exact ⟨CvB_dead, (by simp [CvB, CvL, Cv, blkAt, geth, getM]), (by simp [CvB, CvL, Cv, blkAt, geth, getM]), CvB_row nr_i64 (by first | rfl | (simp; done) | (simp; omega)) (fun _ _ _ _ => rfl), trivial⟩
      replace H := cond_t hc H
      refine rg ctNo_ok ?_
      simp only [go_sem, Nat.reduceLeDiff, Nat.reduceLT, Nat.reduceAdd, Nat.reduceMul, Nat.reduceSub, Nat.reduceEqDiff, Nat.reduceBEq, Int.reduceToNat, reduceCtorEq]
      refine seqM ?_
      refine blkM ?_
      refine seqM ?_
      obtain ⟨f3, H⟩ := need_some.1 H
      replace f3 := inb_iff.1 f3
      refine rg ctNo_ok ?_
      simp only [go_sem, Nat.reduceLeDiff, Nat.reduceLT, Nat.reduceAdd, Nat.reduceMul, Nat.reduceSub, Nat.reduceEqDiff, Nat.reduceBEq, Int.reduceToNat, reduceCtorEq, f3]
      repeat ((with_reducible refine And.intro ?_ ?_); focus (first | (with_reducible trivial) | omega | grind))
      refine seqM ?_
      refine seqM ?_
      obtain ⟨r4, e5, H⟩ := bsi H
      refine rg ct25t1_ok ?_
      simp only [go_sem, Nat.reduceLeDiff, Nat.reduceLT, Nat.reduceAdd, Nat.reduceMul, Nat.reduceSub, Nat.reduceEqDiff, Nat.reduceBEq, Int.reduceToNat, reduceCtorEq, ct25t1_20, body20, e5]
      repeat ((with_reducible refine And.intro ?_ ?_); focus (first | (and_intros <;> first | (with_reducible trivial) | omega | assumption | exact nfc | first | exact rfl | exact trivial | exact fitI | exact .inr rfl | exact .inl rfl | exact fun x hx => absurd hx (by omega)) | grind))
      refine sq ctNo_ok ?_
      simp only [go_sem, Nat.reduceLeDiff, Nat.reduceLT, Nat.reduceAdd, Nat.reduceMul, Nat.reduceSub, Nat.reduceEqDiff, Nat.reduceBEq, Int.reduceToNat, reduceCtorEq]
      refine condM rfl trivial (fun hc => ?_) (fun hc => ?_)
      · replace H := cond_t hc H
        refine sq ctNo_ok ?_
        simp only [go_sem, Nat.reduceLeDiff, Nat.reduceLT, Nat.reduceAdd, Nat.reduceMul, Nat.reduceSub, Nat.reduceEqDiff, Nat.reduceBEq, Int.reduceToNat, reduceCtorEq]
        repeat ((with_reducible refine And.intro ?_ ?_); focus (first | (with_reducible trivial) | omega | grind))
        refine rg ctNo_ok ?_
        simp only [go_sem, Nat.reduceLeDiff, Nat.reduceLT, Nat.reduceAdd, Nat.reduceMul, Nat.reduceSub, Nat.reduceEqDiff, Nat.reduceBEq, Int.reduceToNat, reduceCtorEq]
        have H := hn2_1 _ (Option.some.inj H).symm
        obtain rfl := Option.some.inj H
        refine RetE_mk [] [none] ?_ ?_ ?_ ?_ (by rfl) (by rfl)
        · simp only [go_sem, Nat.reduceEqDiff, Nat.reduceBEq, Nat.reduceAdd]
          try (and_intros <;> first | (with_reducible trivial) | omega | exact nfc | trivial)
        · simp only [go_sem, Nat.reduceEqDiff, Nat.reduceBEq, Nat.reduceAdd]
          try (and_intros <;> first | (with_reducible trivial) | omega | exact nfc | trivial)
        · simp only [go_sem, Nat.reduceEqDiff, Nat.reduceBEq, Nat.reduceAdd]
          exact Cv_tup (CvL_cons (by first | (simp [Cv, CvL, getM, gt_some]; done) | (simp [Cv, CvL, getM, gt_some]; omega)) (CvL_cons (by simp [Cv, CvL, getM, gt_some]) CvL_nil))
        · simp only [go_sem, Nat.reduceEqDiff, Nat.reduceBEq, Nat.reduceAdd, CvH, gt_some, Option.isSome_some, Option.isSome_none]
          exact CvB_none
      replace H := cond_f hc H
      refine rg ctNo_ok ?_
      simp only [go_sem, Nat.reduceLeDiff, Nat.reduceLT, Nat.reduceAdd, Nat.reduceMul, Nat.reduceSub, Nat.reduceEqDiff, Nat.reduceBEq, Int.reduceToNat, reduceCtorEq]
      refine sq ctNo_ok ?_
      simp only [go_sem, Nat.reduceLeDiff, Nat.reduceLT, Nat.reduceAdd, Nat.reduceMul, Nat.reduceSub, Nat.reduceEqDiff, Nat.reduceBEq, Int.reduceToNat, reduceCtorEq]
      refine seqM ?_
      obtain ⟨f6, H⟩ := need_some.1 H
      replace f6 := inb_iff.1 f6
      obtain ⟨r7, e8, H⟩ := bsi H
      refine rg ct25t2_ok ?_
      simp only [go_sem, Nat.reduceLeDiff, Nat.reduceLT, Nat.reduceAdd, Nat.reduceMul, Nat.reduceSub, Nat.reduceEqDiff, Nat.reduceBEq, Int.reduceToNat, reduceCtorEq, ct25t2_49, body49_1, f6, e8]
      repeat ((with_reducible refine And.intro ?_ ?_); focus (first | (and_intros <;> first | (with_reducible trivial) | omega | assumption | exact nfc | first | exact rfl | exact trivial | exact fitI | exact .inr rfl | exact .inl rfl | exact fun x hx => absurd hx (by omega)) | grind))
      refine condM' rfl trivial (fun hc => ?_) (fun hc => ?_)
      · replace H := cond_f hc H
        refine rg ctNo_ok ?_
        simp only [go_sem, Nat.reduceLeDiff, Nat.reduceLT, Nat.reduceAdd, Nat.reduceMul, Nat.reduceSub, Nat.reduceEqDiff, Nat.reduceBEq, Int.reduceToNat, reduceCtorEq]
        refine rg ctNo_ok ?_
        simp only [go_sem, Nat.reduceLeDiff, Nat.reduceLT, Nat.reduceAdd, Nat.reduceMul, Nat.reduceSub, Nat.reduceEqDiff, Nat.reduceBEq, Int.reduceToNat, reduceCtorEq]
        refine ⟨_, (Option.some.inj H).symm, ?_⟩
        refine SubF_of ⟨[some 0, some 1, some 2, some 3], ?_, ?_, by rfl, by rfl⟩
        · simp [CvL, Cv, getM, tp]
        · exact ⟨(by simp [CvB, CvL, Cv, blkAt, geth, getM]), (by simp [CvB, CvL, Cv, blkAt, geth, getM]), (by simp [CvB, CvL, Cv, blkAt, geth, getM]), CvB_row nr_i64 (by first | rfl | (simp; done) | (simp; omega)) (fun _ _ _ _ => rfl), trivial⟩
      replace H := cond_t hc H
      obtain ⟨f9, H⟩ := need_some.1 H
      replace f9 := inb_iff.1 f9
      obtain ⟨f10, H⟩ := need_some.1 H
      replace f10 := capb_iff.1 f10
      refine draw_rule shT_ok ctNo_ok 2 (by kernel_rfl) (by kernel_rfl) ?_
      intro an han
      simp only [d_nil, d_cons, nxtD, xrD, xoD, roEq, minL, List.append_nil, refsOp, refs, refsL, mask, maskF, place, placeF, okLog, pairOk, hit, inL, slotsF, ren, renL, rnN, nrH, nrB, nrL, nr, dead0, deadS, List.replicate_zero, List.replicate_succ, Nat.sub_self, Nat.add_zero, Nat.zero_add, Nat.reduceSub, Nat.not_lt_zero, Nat.zero_le, Nat.lt_add_one, go_sem, Nat.reduceLeDiff, Nat.reduceLT, Nat.reduceAdd, Nat.reduceMul, Nat.reduceSub, Nat.reduceEqDiff, Nat.reduceBEq, Int.reduceToNat, reduceCtorEq, f9, f10]
      repeat ((with_reducible refine And.intro ?_ ?_); focus (and_intros <;> first | (with_reducible trivial) | (show anB _ _ _ = true; subst han; kernel_rfl) | (show (anB _ _ _ && _) = true; subst han; kernel_rfl) | omega | assumption | exact nrc | exact nfc | first | exact rfl | exact trivial | exact fitI | exact .inr rfl | exact .inl rfl | exact fun x hx => absurd hx (by omega) | (intro x hx; (repeat (first | (and_intros <;> (first | exact rfl | exact trivial | exact fitI | exact .inr rfl | exact .inl rfl | exact fun x hx => absurd hx (by omega))) | (exfalso; omega) | (rcases x with _ | x))); done) | (refine Fit_app ?_ ?_ <;> first | exact fitI | (intro x hx; (repeat (first | (and_intros <;> (first | exact rfl | exact trivial | exact fitI | exact .inr rfl | exact .inl rfl | exact fun x hx => absurd hx (by omega))) | (exfalso; omega) | (rcases x with _ | x))); done) | (refine Fit_app ?_ ?_ <;> first | exact fitI | (intro x hx; (repeat (first | (and_intros <;> (first | exact rfl | exact trivial | exact fitI | exact .inr rfl | exact .inl rfl | exact fun x hx => absurd hx (by omega))) | (exfalso; omega) | (rcases x with _ | x))); done)))))
      refine rg ctNo_ok ?_
      simp only [go_sem, Nat.reduceLeDiff, Nat.reduceLT, Nat.reduceAdd, Nat.reduceMul, Nat.reduceSub, Nat.reduceEqDiff, Nat.reduceBEq, Int.reduceToNat, reduceCtorEq]
      refine ⟨_, (Option.some.inj H).symm, ?_⟩
      refine SubF_of ⟨[some 0, some 1, some 2, some 6], ?_, ?_, by rfl, by rfl⟩
      · simp [CvL, Cv, getM, tp]
      · exact ⟨(by simp [CvB, CvL, Cv, blkAt, geth, getM]), (by simp [CvB, CvL, Cv, blkAt, geth, getM]), (by simp [CvB, CvL, Cv, blkAt, geth, getM]), CvB_row nr_i64 (by first | rfl | (simp; done) | (simp; omega)) (app_row (f := c_i64) v1_2 [(gd p0.List v1_1.toNat).Aid] (fun _ _ _ _ => rfl) (lit_row (f := c_i64) [(gd p0.List v1_1.toNat).Aid] (fun _ _ => rfl) rfl)), trivial⟩
    · try dsimp only at H ⊢
      try simp only [tp]
      try simp only [m_normal, k_normal, b_normal, kL_normal, r_normal]
      refine sq ctNo_ok ?_
      simp only [go_sem, Nat.reduceLeDiff, Nat.reduceLT, Nat.reduceAdd, Nat.reduceMul, Nat.reduceSub, Nat.reduceEqDiff, Nat.reduceBEq, Int.reduceToNat, reduceCtorEq]
      repeat ((with_reducible refine And.intro ?_ ?_); focus (first | (with_reducible trivial) | omega | grind))
      refine rg ctNo_ok ?_
      simp only [go_sem, Nat.reduceLeDiff, Nat.reduceLT, Nat.reduceAdd, Nat.reduceMul, Nat.reduceSub, Nat.reduceEqDiff, Nat.reduceBEq, Int.reduceToNat, reduceCtorEq]
      obtain rfl := Option.some.inj H
      refine RetE_mk [] [some 3] ?_ ?_ ?_ ?_ (by rfl) (by rfl)
      · simp only [go_sem, Nat.reduceEqDiff, Nat.reduceBEq, Nat.reduceAdd]
        try (and_intros <;> first | (with_reducible trivial) | omega | exact nfc | trivial)
      · simp only [go_sem, Nat.reduceEqDiff, Nat.reduceBEq, Nat.reduceAdd]
        try (and_intros <;> first | (with_reducible trivial) | omega | exact nfc | trivial)
      · simp only [go_sem, Nat.reduceEqDiff, Nat.reduceBEq, Nat.reduceAdd]
        exact Cv_tup (CvL_cons (by first | (simp [Cv, CvL, getM, gt_some]; done) | (simp [Cv, CvL, getM, gt_some]; omega)) (CvL_cons (by simp [Cv, CvL, getM, gt_some]) CvL_nil))
      · simp only [go_sem, Nat.reduceEqDiff, Nat.reduceBEq, Nat.reduceAdd, CvH, gt_some, Option.isSome_some, Option.isSome_none]
        exact CvB_row nr_i64 (by first | rfl | (simp; done) | (simp; omega)) (fun _ _ _ _ => rfl)
  · cases hb
/-! hotspot/buffer.Map -/
noncomputable def ct37t0 : Ct := tab [(34, pureC body34)]
theorem ct37t0_ok : CtOk Try.prog ct37t0 := tab_cons ok34 <| tab_nil
theorem ct37t0_34 (l : List AV) (h : List ABlk) : ct37t0 34 l h = pureC body34 l h := rfl
noncomputable def F37_L1 (p0 : TBuffer) (v1_1 : Int) (v1_2 : List Int) : Option (Lp (Int × (List Int)) ((List Int) ⊕ (TTraffic × Int))) :=
  bif (bLt v1_1 (p0.List.length : Nat)) then (need (inb v1_1 p0.List.length) <| bif (bLt 0 (((gd p0.List v1_1.toNat).Held).length : Nat)) then (need (capb 8 (v1_2.length + 1)) <| some (.next (wr .i64 (v1_1 + 1), (v1_2 ++ [(gd p0.List v1_1.toNat).Aid])))) else (some (.next (wr .i64 (v1_1 + 1), v1_2)))) else (some (.done (.inl v1_2)))
noncomputable def F37 (p0 : TBuffer) : Option (TTraffic × Int) :=
  (F34 p0).bind fun r1 => bif (!bEq r1 0) then (some ((TTraffic.mk false []), r1)) else (lp (loopD (fun s => F37_L1 p0 s.1 s.2) (0, [])) (fun w1_3 => some ((TTraffic.mk (bLt 0 (p0.Group.length : Nat)) w1_3), 0)) some)
noncomputable def body37 : List AV -> List ABlk -> ED
  | [v0], h => .ed [] (aK 4 k_TBuffer (roD (deadL h []) v0) /\ roDOb (deadL h []) v0 /\ (F37 (g_TBuffer (aL (roD (deadL h []) v0)))).isSome = true) (.tup [.agg [.bool (((gt (F37 (g_TBuffer (aL (roD (deadL h []) v0))))).1).Group), .sl 0 1 0 ((((gt (F37 (g_TBuffer (aL (roD (deadL h []) v0))))).1).Aids).length) false], .int .i64 ((gt (F37 (g_TBuffer (aL (roD (deadL h []) v0))))).2)]) [.row 3 1 ((((gt (F37 (g_TBuffer (aL (roD (deadL h []) v0))))).1).Aids).length) (enR c_i64 (((gt (F37 (g_TBuffer (aL (roD (deadL h []) v0))))).1).Aids))]
  | _, _ => .fail
set_option maxHeartbeats 4000000 in
set_option maxRecDepth 20000 in
theorem ok37 : FnOk Try.prog 37 (edC body37) := by
  refine edit_fnV body37 (rs := [.cell 2 57, .tmp 3]) Try.func37 (by kernel_rfl) rfl rfl ?_
  intro l h bs ob q0 g0 hb hob
  unfold body37 at hb
  split at hb
  · rename_i v0
    injection hb with q1 q2 q3 q4; subst q1 q2 q3 q4
    obtain ⟨hk0_0, hk0_1, hob⟩ := hob
    obtain ⟨r, H⟩ := Option.isSome_iff_exists.1 hob
    rw [H, gt_some]
    have hw0 := wA_TBuffer hk0_0
    obtain ⟨p0, hp_p0⟩ : ∃ p0, p0 = g_TBuffer (aL (roD (deadL h []) v0)) := ⟨_, rfl⟩
    rw [← hp_p0] at H hw0
    refine ⟨[.agg [.int .i64 p0.Limit, .int .i64 p0.Stay, .ro 3 p0.List.length false (enR c_TSleeper p0.List), .ro 43 p0.Group.length false (enR c_TStored p0.Group)]], [], rfl, ⟨(EW_view hk0_1 hw0), trivial⟩, trivial, trivial, ⟨(nfB_en nr_i64), trivial⟩, ⟨noroB_en, trivial⟩, (by first | (simp only [noro, noroL, and_self]; done) | (simp only [noro, noroL]; and_intros <;> first | trivial | exact noro_bif (by simp only [noro]) (by simp only [noro]) | (simp only [noro, noroL, and_self]))), ?_⟩
    rw [Try.ntmps37]
    simp only [List.length_cons, List.length_nil, Nat.reduceAdd, Nat.reduceSub, List.replicate_succ, List.replicate_zero, List.cons_append, List.nil_append]
    unfold F37 at H
    try dsimp only at H
    refine sq ctNo_ok ?_
    simp only [go_sem, Nat.reduceLeDiff, Nat.reduceLT, Nat.reduceAdd, Nat.reduceMul, Nat.reduceSub, Nat.reduceEqDiff, Nat.reduceBEq, Int.reduceToNat, reduceCtorEq]
    refine seqM ?_
    refine seqM ?_
    obtain ⟨r1, e2, H⟩ := bsi H
    refine rg ct37t0_ok ?_
    simp only [go_sem, Nat.reduceLeDiff, Nat.reduceLT, Nat.reduceAdd, Nat.reduceMul, Nat.reduceSub, Nat.reduceEqDiff, Nat.reduceBEq, Int.reduceToNat, reduceCtorEq, ct37t0_34, body34, e2]
    repeat ((with_reducible refine And.intro ?_ ?_); focus (first | (and_intros <;> first | (with_reducible trivial) | omega | assumption | exact nfc | first | exact rfl | exact trivial | exact fitI | exact .inr rfl | exact .inl rfl | exact fun x hx => absurd hx (by omega)) | grind))
    refine sq ctNo_ok ?_
    simp only [go_sem, Nat.reduceLeDiff, Nat.reduceLT, Nat.reduceAdd, Nat.reduceMul, Nat.reduceSub, Nat.reduceEqDiff, Nat.reduceBEq, Int.reduceToNat, reduceCtorEq]
    refine condM rfl trivial (fun hc => ?_) (fun hc => ?_)
    · replace H := cond_t hc H
      refine sq ctNo_ok ?_
      simp only [go_sem, Nat.reduceLeDiff, Nat.reduceLT, Nat.reduceAdd, Nat.reduceMul, Nat.reduceSub, Nat.reduceEqDiff, Nat.reduceBEq, Int.reduceToNat, reduceCtorEq]
      repeat ((with_reducible refine And.intro ?_ ?_); focus (first | (with_reducible trivial) | omega | grind))
      refine rg ctNo_ok ?_
      simp only [go_sem, Nat.reduceLeDiff, Nat.reduceLT, Nat.reduceAdd, Nat.reduceMul, Nat.reduceSub, Nat.reduceEqDiff, Nat.reduceBEq, Int.reduceToNat, reduceCtorEq]
      obtain rfl := Option.some.inj H
      refine RetE_mk [] [none] ?_ ?_ ?_ ?_ (by rfl) (by rfl)
      · simp only [go_sem, Nat.reduceEqDiff, Nat.reduceBEq, Nat.reduceAdd]
        try (and_intros <;> first | (with_reducible trivial) | omega | exact nfc | trivial)
      · simp only [go_sem, Nat.reduceEqDiff, Nat.reduceBEq, Nat.reduceAdd]
        try (and_intros <;> first | (with_reducible trivial) | omega | exact nfc | trivial)
      · simp only [go_sem, Nat.reduceEqDiff, Nat.reduceBEq, Nat.reduceAdd]
        exact Cv_tup (CvL_cons (by first | (simp [Cv, CvL, getM, gt_some]; done) | (simp [Cv, CvL, getM, gt_some]; omega)) (CvL_cons (by simp [Cv, CvL, getM, gt_some]) CvL_nil))
      · simp only [go_sem, Nat.reduceEqDiff, Nat.reduceBEq, Nat.reduceAdd, CvH, gt_some, Option.isSome_some, Option.isSome_none]
        exact CvB_none
    replace H := cond_f hc H
    refine rg ctNo_ok ?_
    simp only [go_sem, Nat.reduceLeDiff, Nat.reduceLT, Nat.reduceAdd, Nat.reduceMul, Nat.reduceSub, Nat.reduceEqDiff, Nat.reduceBEq, Int.reduceToNat, reduceCtorEq]
    refine sq ctNo_ok ?_
    simp only [go_sem, Nat.reduceLeDiff, Nat.reduceLT, Nat.reduceAdd, Nat.reduceMul, Nat.reduceSub, Nat.reduceEqDiff, Nat.reduceBEq, Int.reduceToNat, reduceCtorEq]
    repeat ((with_reducible refine And.intro ?_ ?_); focus (first | (and_intros <;> first | (with_reducible trivial) | omega | assumption | exact nfc | first | exact rfl | exact trivial | exact fitI | exact .inr rfl | exact .inl rfl | exact fun x hx => absurd hx (by omega)) | grind))
    refine seqM ?_
    refine sq ctNo_ok ?_
    simp only [go_sem, Nat.reduceLeDiff, Nat.reduceLT, Nat.reduceAdd, Nat.reduceMul, Nat.reduceSub, Nat.reduceEqDiff, Nat.reduceBEq, Int.reduceToNat, reduceCtorEq]
    repeat ((with_reducible refine And.intro ?_ ?_); focus (first | (and_intros <;> first | (with_reducible trivial) | omega | assumption | exact nfc | first | exact rfl | exact trivial | exact fitI | exact .inr rfl | exact .inl rfl | exact fun x hx => absurd hx (by omega)) | grind))
    refine blkM ?_
    refine loop_den (fun s : Int × (List Int) => (.top :: .top :: .ptr 1 0 0 0 :: .top :: .top :: .ptr 2 0 0 0 :: tp 14 (.ro 3 p0.List.length false (enR c_TSleeper p0.List) :: .int .i64 (p0.List.length : Nat) :: .int .i64 s.1 :: tp 16 []))) (fun s => [.dead, .lit 57 [.bool false, .ro 0 0 true (fun _ _ => .top)], .lit 57 [.bool (bLt 0 (p0.Group.length : Nat)), .sl 3 1 0 s.2.length false], .row 3 1 s.2.length (enR c_i64 s.2)]) (fun e : List Int => (.top :: .top :: .ptr 1 0 0 0 :: .top :: .top :: .ptr 2 0 0 0 :: tp 33 [])) (fun e => [.dead, .lit 57 [.bool false, .ro 0 0 true (fun _ _ => .top)], .lit 57 [.bool (bLt 0 (p0.Group.length : Nat)), .sl 3 1 0 e.length false], .row 3 1 e.length (enR c_i64 e)]) H ?_ (fun s o H hn1_1 hn2_1 => ?_) (fun w1_3 H => ?_)
    · refine SubF_of ⟨[some 0, some 1, some 2, none], ?_, ?_, by rfl, by rfl⟩
      · simp [CvL, Cv, getM, tp]
      · exact ⟨CvB_dead, (by simp [CvB, CvL, Cv, blkAt, geth, getM]), (by simp [CvB, CvL, Cv, blkAt, geth, getM]), CvB_none, trivial⟩
    · obtain ⟨v1_1, v1_2⟩ := s
      unfold F37_L1 at H
      try dsimp only at H ⊢
      try simp only [tp]
      refine sq ctNo_ok ?_
      simp only [go_sem, Nat.reduceLeDiff, Nat.reduceLT, Nat.reduceAdd, Nat.reduceMul, Nat.reduceSub, Nat.reduceEqDiff, Nat.reduceBEq, Int.reduceToNat, reduceCtorEq]
      refine seqM ?_
      refine condM' rfl trivial (fun hc => ?_) (fun hc => ?_)
      · replace H := cond_f hc H
        refine rg ctNo_ok ?_
        simp only [go_sem, Nat.reduceLeDiff, Nat.reduceLT, Nat.reduceAdd, Nat.reduceMul, Nat.reduceSub, Nat.reduceEqDiff, Nat.reduceBEq, Int.reduceToNat, reduceCtorEq]
        refine ⟨_, (Option.some.inj H).symm, ?_⟩
        refine SubF_of ⟨[some 0, some 1, some 2, some 3], ?_, ?_, by rfl, by rfl⟩
        · simp [CvL, Cv, getM, tp]
        · exact ⟨CvB_dead, (by simp [CvB, CvL, Cv, blkAt, geth, getM]), (by simp [CvB, CvL, Cv, blkAt, geth, getM]), CvB_row nr_i64 (by first | rfl | (simp; done) | (simp; omega)) (fun _ _ _ _ => rfl), trivial⟩
      replace H := cond_t hc H
      refine rg ctNo_ok ?_
      simp only [go_sem, Nat.reduceLeDiff, Nat.reduceLT, Nat.reduceAdd, Nat.reduceMul, Nat.reduceSub, Nat.reduceEqDiff, Nat.reduceBEq, Int.reduceToNat, reduceCtorEq]
      refine seqM ?_
      refine blkM ?_
      refine seqM ?_
      obtain ⟨f3, H⟩ := need_some.1 H
      replace f3 := inb_iff.1 f3
      refine rg ctNo_ok ?_
      simp only [go_sem, Nat.reduceLeDiff, Nat.reduceLT, Nat.reduceAdd, Nat.reduceMul, Nat.reduceSub, Nat.reduceEqDiff, Nat.reduceBEq, Int.reduceToNat, reduceCtorEq, f3]
      repeat ((with_reducible refine And.intro ?_ ?_); focus (first | (with_reducible trivial) | omega | grind))
      refine sq ctNo_ok ?_
      simp only [go_sem, Nat.reduceLeDiff, Nat.reduceLT, Nat.reduceAdd, Nat.reduceMul, Nat.reduceSub, Nat.reduceEqDiff, Nat.reduceBEq, Int.reduceToNat, reduceCtorEq]
      repeat ((with_reducible refine And.intro ?_ ?_); focus (first | (and_intros <;> first | (with_reducible trivial) | omega | assumption | exact nfc | first | exact rfl | exact trivial | exact fitI | exact .inr rfl | exact .inl rfl | exact fun x hx => absurd hx (by omega)) | grind))
      refine condM' rfl trivial (fun hc => ?_) (fun hc => ?_)
      · replace H := cond_f hc H
        refine rg ctNo_ok ?_
        simp only [go_sem, Nat.reduceLeDiff, Nat.reduceLT, Nat.reduceAdd, Nat.reduceMul, Nat.reduceSub, Nat.reduceEqDiff, Nat.reduceBEq, Int.reduceToNat, reduceCtorEq]
        refine rg ctNo_ok ?_
        simp only [go_sem, Nat.reduceLeDiff, Nat.reduceLT, Nat.reduceAdd, Nat.reduceMul, Nat.reduceSub, Nat.reduceEqDiff, Nat.reduceBEq, Int.reduceToNat, reduceCtorEq]
        refine ⟨_, (Option.some.inj H).symm, ?_⟩
        refine SubF_of ⟨[some 0, some 1, some 2, some 3], ?_, ?_, by rfl, by rfl⟩
        · simp [CvL, Cv, getM, tp]
        · exact ⟨CvB_dead, (by simp [CvB, CvL, Cv, blkAt, geth, getM]), (by simp [CvB, CvL, Cv, blkAt, geth, getM]), CvB_row nr_i64 (by first | rfl | (simp; done) | (simp; omega)) (fun _ _ _ _ => rfl), trivial⟩
      replace H := cond_t hc H
      obtain ⟨f4, H⟩ := need_some.1 H
      replace f4 := capb_iff.1 f4
      refine rg ctNo_ok ?_
      simp only [go_sem, Nat.reduceLeDiff, Nat.reduceLT, Nat.reduceAdd, Nat.reduceMul, Nat.reduceSub, Nat.reduceEqDiff, Nat.reduceBEq, Int.reduceToNat, reduceCtorEq, f4]
      repeat ((with_reducible refine And.intro ?_ ?_); focus (first | (and_intros <;> first | (with_reducible trivial) | omega | assumption | exact nfc | first | exact rfl | exact trivial | exact fitI | exact .inr rfl | exact .inl rfl | exact fun x hx => absurd hx (by omega) | (intro x hx; (repeat (first | (and_intros <;> (first | exact rfl | exact trivial | exact fitI | exact .inr rfl | exact .inl rfl | exact fun x hx => absurd hx (by omega))) | (exfalso; omega) | (rcases x with _ | x))); done) | (refine Fit_app ?_ ?_ <;> first | exact fitI | (intro x hx; (repeat (first | (and_intros <;> (first | exact rfl | exact trivial | exact fitI | exact .inr rfl | exact .inl rfl | exact fun x hx => absurd hx (by omega))) | (exfalso; omega) | (rcases x with _ | x))); done) | (refine Fit_app ?_ ?_ <;> first | exact fitI | (intro x hx; (repeat (first | (and_intros <;> (first | exact rfl | exact trivial | exact fitI | exact .inr rfl | exact .inl rfl | exact fun x hx => absurd hx (by omega))) | (exfalso; omega) | (rcases x with _ | x))); done)))) | grind))
      refine rg ctNo_ok ?_
      simp only [go_sem, Nat.reduceLeDiff, Nat.reduceLT, Nat.reduceAdd, Nat.reduceMul, Nat.reduceSub, Nat.reduceEqDiff, Nat.reduceBEq, Int.reduceToNat, reduceCtorEq]
      refine ⟨_, (Option.some.inj H).symm, ?_⟩
      refine SubF_of ⟨[some 0, some 1, some 2, some 6], ?_, ?_, by rfl, by rfl⟩
      · simp [CvL, Cv, getM, tp]
      · exact ⟨CvB_dead, (by simp [CvB, CvL, Cv, blkAt, geth, getM]), (by simp [CvB, CvL, Cv, blkAt, geth, getM]), CvB_row nr_i64 (by first | rfl | (simp; done) | (simp; omega)) (app_row (f := c_i64) v1_2 [(gd p0.List v1_1.toNat).Aid] (fun _ _ _ _ => rfl) (lit_row (f := c_i64) [(gd p0.List v1_1.toNat).Aid] (fun _ _ => rfl) rfl)), trivial⟩
    · try dsimp only at H ⊢
      try simp only [tp]
      try simp only [m_normal, k_normal, b_normal, kL_normal, r_normal]
      refine sq ctNo_ok ?_
      simp only [go_sem, Nat.reduceLeDiff, Nat.reduceLT, Nat.reduceAdd, Nat.reduceMul, Nat.reduceSub, Nat.reduceEqDiff, Nat.reduceBEq, Int.reduceToNat, reduceCtorEq]
      repeat ((with_reducible refine And.intro ?_ ?_); focus (first | (with_reducible trivial) | omega | grind))
      refine rg ctNo_ok ?_
      simp only [go_sem, Nat.reduceLeDiff, Nat.reduceLT, Nat.reduceAdd, Nat.reduceMul, Nat.reduceSub, Nat.reduceEqDiff, Nat.reduceBEq, Int.reduceToNat, reduceCtorEq]
      obtain rfl := Option.some.inj H
      refine RetE_mk [] [some 3] ?_ ?_ ?_ ?_ (by rfl) (by rfl)
      · simp only [go_sem, Nat.reduceEqDiff, Nat.reduceBEq, Nat.reduceAdd]
        try (and_intros <;> first | (with_reducible trivial) | omega | exact nfc | trivial)
      · simp only [go_sem, Nat.reduceEqDiff, Nat.reduceBEq, Nat.reduceAdd]
        try (and_intros <;> first | (with_reducible trivial) | omega | exact nfc | trivial)
      · simp only [go_sem, Nat.reduceEqDiff, Nat.reduceBEq, Nat.reduceAdd]
        exact Cv_tup (CvL_cons (by first | (simp [Cv, CvL, getM, gt_some]; done) | (simp [Cv, CvL, getM, gt_some]; omega)) (CvL_cons (by simp [Cv, CvL, getM, gt_some]) CvL_nil))
      · simp only [go_sem, Nat.reduceEqDiff, Nat.reduceBEq, Nat.reduceAdd, CvH, gt_some, Option.isSome_some, Option.isSome_none]
        exact CvB_row nr_i64 (by first | rfl | (simp; done) | (simp; omega)) (fun _ _ _ _ => rfl)
  · cases hb
/-! hotspot/bitmap.Check -/
noncomputable def F38_L1 (p0 : TTraffic) (v1_1 : Int) (v1_2 : Int) : Option (Lp (Int × Int) ((Unit) ⊕ (Int))) :=
  bif (bLt v1_2 (p0.Aids.length : Nat)) then (need (inb v1_2 p0.Aids.length) <| bif ((bLe (gd p0.Aids v1_2.toNat) v1_1) || (bLt 255 (gd p0.Aids v1_2.toNat))) then (some (.done (.inr 8))) else (some (.next ((gd p0.Aids v1_2.toNat), wr .i64 (v1_2 + 1))))) else (some (.done (.inl ())))
noncomputable def F38 (p0 : TTraffic) : Option (Int) :=
  lp (loopD (fun s => F38_L1 p0 s.1 s.2) (0, 0)) (fun e => some 0) some
noncomputable def body38 : List AV -> AR
  | [v0] => .pure (aK 2 k_TTraffic v0 /\ (F38 (g_TTraffic (aL v0))).isSome = true) (.int .i64 (gt (F38 (g_TTraffic (aL v0)))))
  | _ => .fail
set_option maxHeartbeats 4000000 in
set_option maxRecDepth 20000 in
theorem ok38 : FnOk Try.prog 38 (pureC body38) := by
  refine pure_fnM body38 (rs := [.tmp 2]) Try.func38 (by kernel_rfl) rfl rfl ?_
  intro l ob v hb hob
  unfold body38 at hb
  split at hb
  · rename_i v0
    injection hb with q1 q2; subst q1 q2
    obtain ⟨hk0_0, hob⟩ := hob
    obtain ⟨r, H⟩ := Option.isSome_iff_exists.1 hob
    rw [H, gt_some]
    have hw0 := wA_TTraffic hk0_0
    generalize g_TTraffic (aL v0) = p0 at H hw0
    refine ⟨[.agg [.bool p0.Group, .ro 1 p0.Aids.length false (enR c_i64 p0.Aids)]], _, (fun E vs F => FR_wk1 hw0.1 F (fun vs F => F)), rfl, rfl, ?_⟩
    rw [Try.ntmps38]
    simp only [List.length_cons, List.length_nil, Nat.reduceAdd, Nat.reduceSub, List.replicate_succ, List.replicate_zero, List.cons_append, List.nil_append]
    unfold F38 at H
    try dsimp only at H
    refine sq ctNo_ok ?_
    simp only [go_sem, Nat.reduceLeDiff, Nat.reduceLT, Nat.reduceAdd, Nat.reduceMul, Nat.reduceSub, Nat.reduceEqDiff, Nat.reduceBEq, Int.reduceToNat, reduceCtorEq]
    refine sq ctNo_ok ?_
    simp only [go_sem, Nat.reduceLeDiff, Nat.reduceLT, Nat.reduceAdd, Nat.reduceMul, Nat.reduceSub, Nat.reduceEqDiff, Nat.reduceBEq, Int.reduceToNat, reduceCtorEq]
    refine seqM ?_
    refine sq ctNo_ok ?_
    simp only [go_sem, Nat.reduceLeDiff, Nat.reduceLT, Nat.reduceAdd, Nat.reduceMul, Nat.reduceSub, Nat.reduceEqDiff, Nat.reduceBEq, Int.reduceToNat, reduceCtorEq]
    repeat ((with_reducible refine And.intro ?_ ?_); focus (first | (and_intros <;> first | (with_reducible trivial) | omega | assumption | exact nfc | first | exact rfl | exact trivial | exact fitI | exact .inr rfl | exact .inl rfl | exact fun x hx => absurd hx (by omega)) | grind))
    refine blkM ?_
    refine loop_den (fun s : Int × Int => (.top :: .top :: .top :: .int .i64 s.1 :: .top :: .top :: .top :: .ro 1 p0.Aids.length false (enR c_i64 p0.Aids) :: .int .i64 (p0.Aids.length : Nat) :: .int .i64 s.2 :: tp 12 [])) (fun s => [.dead]) (fun e : Unit => (tp 22 [])) (fun e => [.dead]) H ?_ (fun s o H hn1_1 hn2_1 => ?_) (fun e H => ?_)
    · refine SubF_of ⟨[some 0], ?_, ?_, by rfl, by rfl⟩
      · simp [CvL, Cv, getM, tp]
      · exact ⟨CvB_dead, trivial⟩
    · obtain ⟨v1_1, v1_2⟩ := s
      unfold F38_L1 at H
      try dsimp only at H ⊢
      try simp only [tp]
      refine sq ctNo_ok ?_
      simp only [go_sem, Nat.reduceLeDiff, Nat.reduceLT, Nat.reduceAdd, Nat.reduceMul, Nat.reduceSub, Nat.reduceEqDiff, Nat.reduceBEq, Int.reduceToNat, reduceCtorEq]
      refine seqM ?_
      refine condM' rfl trivial (fun hc => ?_) (fun hc => ?_)
      · replace H := cond_f hc H
        refine rg ctNo_ok ?_
        simp only [go_sem, Nat.reduceLeDiff, Nat.reduceLT, Nat.reduceAdd, Nat.reduceMul, Nat.reduceSub, Nat.reduceEqDiff, Nat.reduceBEq, Int.reduceToNat, reduceCtorEq]
        refine ⟨_, (Option.some.inj H).symm, ?_⟩
        refine SubF_of ⟨[some 0], ?_, ?_, by rfl, by rfl⟩
        · simp [CvL, Cv, getM, tp]
        · exact ⟨CvB_dead, trivial⟩
      replace H := cond_t hc H
      refine rg ctNo_ok ?_
      simp only [go_sem, Nat.reduceLeDiff, Nat.reduceLT, Nat.reduceAdd, Nat.reduceMul, Nat.reduceSub, Nat.reduceEqDiff, Nat.reduceBEq, Int.reduceToNat, reduceCtorEq]
      refine seqM ?_
      refine blkM ?_
      refine seqM ?_
      obtain ⟨f1, H⟩ := need_some.1 H
      replace f1 := inb_iff.1 f1
      refine rg ctNo_ok ?_
      simp only [go_sem, Nat.reduceLeDiff, Nat.reduceLT, Nat.reduceAdd, Nat.reduceMul, Nat.reduceSub, Nat.reduceEqDiff, Nat.reduceBEq, Int.reduceToNat, reduceCtorEq, f1]
      repeat ((with_reducible refine And.intro ?_ ?_); focus (first | (with_reducible trivial) | omega | grind))
      refine seqM ?_
      refine sq ctNo_ok ?_
      simp only [go_sem, Nat.reduceLeDiff, Nat.reduceLT, Nat.reduceAdd, Nat.reduceMul, Nat.reduceSub, Nat.reduceEqDiff, Nat.reduceBEq, Int.reduceToNat, reduceCtorEq]
      repeat ((with_reducible refine And.intro ?_ ?_); focus (first | (with_reducible trivial) | omega | grind))
      refine condM rfl trivial (fun hc => ?_) (fun hc => ?_)
      · replace H := cond_t hc H
        refine sq ctNo_ok ?_
        simp only [go_sem, Nat.reduceLeDiff, Nat.reduceLT, Nat.reduceAdd, Nat.reduceMul, Nat.reduceSub, Nat.reduceEqDiff, Nat.reduceBEq, Int.reduceToNat, reduceCtorEq]
        refine rg ctNo_ok ?_
        simp only [go_sem, Nat.reduceLeDiff, Nat.reduceLT, Nat.reduceAdd, Nat.reduceMul, Nat.reduceSub, Nat.reduceEqDiff, Nat.reduceBEq, Int.reduceToNat, reduceCtorEq]
        have H := hn2_1 _ (Option.some.inj H).symm
        obtain rfl := Option.some.inj H
        first | rfl | simp only [Bool.and_false, Bool.false_and, Bool.and_true, Bool.true_and]
      replace H := cond_f hc H
      refine rg ctNo_ok ?_
      simp only [go_sem, Nat.reduceLeDiff, Nat.reduceLT, Nat.reduceAdd, Nat.reduceMul, Nat.reduceSub, Nat.reduceEqDiff, Nat.reduceBEq, Int.reduceToNat, reduceCtorEq]
      refine rg ctNo_ok ?_
      simp only [go_sem, Nat.reduceLeDiff, Nat.reduceLT, Nat.reduceAdd, Nat.reduceMul, Nat.reduceSub, Nat.reduceEqDiff, Nat.reduceBEq, Int.reduceToNat, reduceCtorEq]
      refine rg ctNo_ok ?_
      simp only [go_sem, Nat.reduceLeDiff, Nat.reduceLT, Nat.reduceAdd, Nat.reduceMul, Nat.reduceSub, Nat.reduceEqDiff, Nat.reduceBEq, Int.reduceToNat, reduceCtorEq]
      refine ⟨_, (Option.some.inj H).symm, ?_⟩
      refine SubF_of ⟨[some 0], ?_, ?_, by rfl, by rfl⟩
      · simp [CvL, Cv, getM, tp]
      · exact ⟨CvB_dead, trivial⟩
    · try dsimp only at H ⊢
      try simp only [tp]
      try simp only [m_normal, k_normal, b_normal, kL_normal, r_normal]
      refine sq ctNo_ok ?_
      simp only [go_sem, Nat.reduceLeDiff, Nat.reduceLT, Nat.reduceAdd, Nat.reduceMul, Nat.reduceSub, Nat.reduceEqDiff, Nat.reduceBEq, Int.reduceToNat, reduceCtorEq]
      refine rg ctNo_ok ?_
      simp only [go_sem, Nat.reduceLeDiff, Nat.reduceLT, Nat.reduceAdd, Nat.reduceMul, Nat.reduceSub, Nat.reduceEqDiff, Nat.reduceBEq, Int.reduceToNat, reduceCtorEq]
      obtain rfl := Option.some.inj H
      first | rfl | simp only [Bool.and_false, Bool.false_and, Bool.and_true, Bool.true_and]
  · cases hb
/-! hotspot/bitmap.check -/
noncomputable def ct62t0 : Ct := tab [(38, pureC body38)]
theorem ct62t0_ok : CtOk Try.prog ct62t0 := tab_cons ok38 <| tab_nil
theorem ct62t0_38 (l : List AV) (h : List ABlk) : ct62t0 38 l h = pureC body38 l h := rfl
noncomputable def F62 (p0 : TTraffic) (p1 : Int) : Option (Int) :=
  (F38 p0).bind fun r1 => bif (!bEq r1 0) then (some r1) else (bif ((bLt p1 0) || (bLt 255 p1)) then (some 2) else (some 0))
noncomputable def body62 : List AV -> AR
  | [v0, v1] => .pure (aK 2 k_TTraffic v0 /\ iK .i64 v1 /\ (F62 (g_TTraffic (aL v0)) (iA v1)).isSome = true) (.int .i64 (gt (F62 (g_TTraffic (aL v0)) (iA v1))))
  | _ => .fail
set_option maxHeartbeats 4000000 in
set_option maxRecDepth 20000 in
theorem ok62 : FnOk Try.prog 62 (pureC body62) := by
  refine pure_fnM body62 (rs := [.tmp 4]) Try.func62 (by kernel_rfl) rfl rfl ?_
  intro l ob v hb hob
  unfold body62 at hb
  split at hb
  · rename_i v0 v1
    injection hb with q1 q2; subst q1 q2
    obtain ⟨hk0_0, hk1_0, hob⟩ := hob
    obtain ⟨r, H⟩ := Option.isSome_iff_exists.1 hob
    rw [H, gt_some]
    have hw0 := wA_TTraffic hk0_0
    have hw1 := iK_wk hk1_0
    generalize g_TTraffic (aL v0) = p0 at H hw0
    generalize iA v1 = p1 at H hw1
    refine ⟨[.agg [.bool p0.Group, .ro 1 p0.Aids.length false (enR c_i64 p0.Aids)], .int .i64 p1], _, (fun E vs F => FR_wk1 hw0.1 F (fun vs F => FR_wk1 hw1.1 F (fun vs F => F))), rfl, rfl, ?_⟩
    rw [Try.ntmps62]
    simp only [List.length_cons, List.length_nil, Nat.reduceAdd, Nat.reduceSub, List.replicate_succ, List.replicate_zero, List.cons_append, List.nil_append]
    unfold F62 at H
    try dsimp only at H
    refine sq ctNo_ok ?_
    simp only [go_sem, Nat.reduceLeDiff, Nat.reduceLT, Nat.reduceAdd, Nat.reduceMul, Nat.reduceSub, Nat.reduceEqDiff, Nat.reduceBEq, Int.reduceToNat, reduceCtorEq]
    refine seqM ?_
    refine seqM ?_
    obtain ⟨r1, e2, H⟩ := bsi H
    refine rg ct62t0_ok ?_
    simp only [go_sem, Nat.reduceLeDiff, Nat.reduceLT, Nat.reduceAdd, Nat.reduceMul, Nat.reduceSub, Nat.reduceEqDiff, Nat.reduceBEq, Int.reduceToNat, reduceCtorEq, ct62t0_38, body38, e2]
    repeat ((with_reducible refine And.intro ?_ ?_); focus (first | (and_intros <;> first | (with_reducible trivial) | omega | assumption | exact nfc | first | exact rfl | exact trivial | exact fitI | exact .inr rfl | exact .inl rfl | exact fun x hx => absurd hx (by omega)) | grind))
    refine sq ctNo_ok ?_
    simp only [go_sem, Nat.reduceLeDiff, Nat.reduceLT, Nat.reduceAdd, Nat.reduceMul, Nat.reduceSub, Nat.reduceEqDiff, Nat.reduceBEq, Int.reduceToNat, reduceCtorEq]
    refine condM rfl trivial (fun hc => ?_) (fun hc => ?_)
    · replace H := cond_t hc H
      refine sq ctNo_ok ?_
      simp only [go_sem, Nat.reduceLeDiff, Nat.reduceLT, Nat.reduceAdd, Nat.reduceMul, Nat.reduceSub, Nat.reduceEqDiff, Nat.reduceBEq, Int.reduceToNat, reduceCtorEq]
      refine rg ctNo_ok ?_
      simp only [go_sem, Nat.reduceLeDiff, Nat.reduceLT, Nat.reduceAdd, Nat.reduceMul, Nat.reduceSub, Nat.reduceEqDiff, Nat.reduceBEq, Int.reduceToNat, reduceCtorEq]
      obtain rfl := Option.some.inj H
      first | rfl | simp only [Bool.and_false, Bool.false_and, Bool.and_true, Bool.true_and]
    replace H := cond_f hc H
    refine rg ctNo_ok ?_
    simp only [go_sem, Nat.reduceLeDiff, Nat.reduceLT, Nat.reduceAdd, Nat.reduceMul, Nat.reduceSub, Nat.reduceEqDiff, Nat.reduceBEq, Int.reduceToNat, reduceCtorEq]
    refine seqM ?_
    refine sq ctNo_ok ?_
    simp only [go_sem, Nat.reduceLeDiff, Nat.reduceLT, Nat.reduceAdd, Nat.reduceMul, Nat.reduceSub, Nat.reduceEqDiff, Nat.reduceBEq, Int.reduceToNat, reduceCtorEq]
    repeat ((with_reducible refine And.intro ?_ ?_); focus (first | (with_reducible trivial) | omega | grind))
    refine condM rfl trivial (fun hc => ?_) (fun hc => ?_)
    · replace H := cond_t hc H
      refine sq ctNo_ok ?_
      simp only [go_sem, Nat.reduceLeDiff, Nat.reduceLT, Nat.reduceAdd, Nat.reduceMul, Nat.reduceSub, Nat.reduceEqDiff, Nat.reduceBEq, Int.reduceToNat, reduceCtorEq]
      refine rg ctNo_ok ?_
      simp only [go_sem, Nat.reduceLeDiff, Nat.reduceLT, Nat.reduceAdd, Nat.reduceMul, Nat.reduceSub, Nat.reduceEqDiff, Nat.reduceBEq, Int.reduceToNat, reduceCtorEq]
      obtain rfl := Option.some.inj H
      first | rfl | simp only [Bool.and_false, Bool.false_and, Bool.and_true, Bool.true_and]
    replace H := cond_f hc H
    refine rg ctNo_ok ?_
    simp only [go_sem, Nat.reduceLeDiff, Nat.reduceLT, Nat.reduceAdd, Nat.reduceMul, Nat.reduceSub, Nat.reduceEqDiff, Nat.reduceBEq, Int.reduceToNat, reduceCtorEq]
    refine sq ctNo_ok ?_
    simp only [go_sem, Nat.reduceLeDiff, Nat.reduceLT, Nat.reduceAdd, Nat.reduceMul, Nat.reduceSub, Nat.reduceEqDiff, Nat.reduceBEq, Int.reduceToNat, reduceCtorEq]
    refine rg ctNo_ok ?_
    simp only [go_sem, Nat.reduceLeDiff, Nat.reduceLT, Nat.reduceAdd, Nat.reduceMul, Nat.reduceSub, Nat.reduceEqDiff, Nat.reduceBEq, Int.reduceToNat, reduceCtorEq]
    obtain rfl := Option.some.inj H
    first | rfl | simp only [Bool.and_false, Bool.false_and, Bool.and_true, Bool.true_and]
  · cases hb
/-! slices.Index[[]int,int] -/
noncomputable def F77_L1 (p0 : List Int) (p1 : Int) (v1_1 : Int) : Option (Lp (Int) ((Unit) ⊕ (Int))) :=
  bif (bLt v1_1 (p0.length : Nat)) then (need (inb v1_1 p0.length) <| bif (bEq p1 (gd p0 v1_1.toNat)) then (some (.done (.inr v1_1))) else (some (.next (wr .i64 (v1_1 + 1))))) else (some (.done (.inl ())))
noncomputable def F77 (p0 : List Int) (p1 : Int) : Option (Int) :=
  lp (loopD (fun s => F77_L1 p0 p1 s) 0) (fun e => some (-1)) some
noncomputable def body77 : List AV -> AR
  | [v0, v1] => .pure (lK k_i64 1 v0 /\ iK .i64 v1 /\ (F77 (lA g_i64 v0) (iA v1)).isSome = true) (.int .i64 (gt (F77 (lA g_i64 v0) (iA v1))))
  | _ => .fail
set_option maxHeartbeats 4000000 in
set_option maxRecDepth 20000 in
theorem ok77 : FnOk Try.prog 77 (pureC body77) := by
  refine pure_fnM body77 (rs := [.tmp 4]) Try.func77 (by kernel_rfl) rfl rfl ?_
  intro l ob v hb hob
  unfold body77 at hb
  split at hb
  · rename_i v0 v1
    injection hb with q1 q2; subst q1 q2
    obtain ⟨hk0_0, hk1_0, hob⟩ := hob
    obtain ⟨r, H⟩ := Option.isSome_iff_exists.1 hob
    rw [H, gt_some]
    have hw0 := lK_wk (fun r h => w_i64 h) hk0_0
    have hw1 := iK_wk hk1_0
    generalize lA g_i64 v0 = p0 at H hw0
    generalize iA v1 = p1 at H hw1
    refine ⟨[.ro 1 p0.length false (enR c_i64 p0), .int .i64 p1], _, (fun E vs F => FR_wk1 hw0.1 F (fun vs F => FR_wk1 hw1.1 F (fun vs F => F))), rfl, rfl, ?_⟩
    rw [Try.ntmps77]
    simp only [List.length_cons, List.length_nil, Nat.reduceAdd, Nat.reduceSub, List.replicate_succ, List.replicate_zero, List.cons_append, List.nil_append]
    unfold F77 at H
    try dsimp only at H
    refine sq ctNo_ok ?_
    simp only [go_sem, Nat.reduceLeDiff, Nat.reduceLT, Nat.reduceAdd, Nat.reduceMul, Nat.reduceSub, Nat.reduceEqDiff, Nat.reduceBEq, Int.reduceToNat, reduceCtorEq]
    refine seqM ?_
    refine sq ctNo_ok ?_
    simp only [go_sem, Nat.reduceLeDiff, Nat.reduceLT, Nat.reduceAdd, Nat.reduceMul, Nat.reduceSub, Nat.reduceEqDiff, Nat.reduceBEq, Int.reduceToNat, reduceCtorEq]
    repeat ((with_reducible refine And.intro ?_ ?_); focus (first | (and_intros <;> first | (with_reducible trivial) | omega | assumption | exact nfc | first | exact rfl | exact trivial | exact fitI | exact .inr rfl | exact .inl rfl | exact fun x hx => absurd hx (by omega)) | grind))
    refine blkM ?_
    refine loop_den (fun s : Int => (.ro 1 p0.length false (enR c_i64 p0) :: .int .i64 p1 :: tp 5 (.int .i64 (p0.length : Nat) :: .int .i64 s :: tp 10 []))) (fun s => []) (fun e : Unit => (tp 19 [])) (fun e => []) H ?_ (fun v1_1 o H hn1_1 hn2_1 => ?_) (fun e H => ?_)
    · refine SubF_of ⟨[], ?_, ?_, by rfl, by rfl⟩
      · simp [CvL, Cv, getM, tp]
      · trivial
    · unfold F77_L1 at H
      try dsimp only at H ⊢
      try simp only [tp]
      refine sq ctNo_ok ?_
      simp only [go_sem, Nat.reduceLeDiff, Nat.reduceLT, Nat.reduceAdd, Nat.reduceMul, Nat.reduceSub, Nat.reduceEqDiff, Nat.reduceBEq, Int.reduceToNat, reduceCtorEq]
      refine seqM ?_
      refine condM' rfl trivial (fun hc => ?_) (fun hc => ?_)
      · replace H := cond_f hc H
        refine rg ctNo_ok ?_
        simp only [go_sem, Nat.reduceLeDiff, Nat.reduceLT, Nat.reduceAdd, Nat.reduceMul, Nat.reduceSub, Nat.reduceEqDiff, Nat.reduceBEq, Int.reduceToNat, reduceCtorEq]
        refine ⟨_, (Option.some.inj H).symm, ?_⟩
        refine SubF_of ⟨[], ?_, ?_, by rfl, by rfl⟩
        · simp [CvL, Cv, getM, tp]
        · trivial
      replace H := cond_t hc H
      refine rg ctNo_ok ?_
      simp only [go_sem, Nat.reduceLeDiff, Nat.reduceLT, Nat.reduceAdd, Nat.reduceMul, Nat.reduceSub, Nat.reduceEqDiff, Nat.reduceBEq, Int.reduceToNat, reduceCtorEq]
      refine seqM ?_
      refine blkM ?_
      refine sq ctNo_ok ?_
      simp only [go_sem, Nat.reduceLeDiff, Nat.reduceLT, Nat.reduceAdd, Nat.reduceMul, Nat.reduceSub, Nat.reduceEqDiff, Nat.reduceBEq, Int.reduceToNat, reduceCtorEq]
      refine seqM ?_
      obtain ⟨f1, H⟩ := need_some.1 H
      replace f1 := inb_iff.1 f1
      refine rg ctNo_ok ?_
      simp only [go_sem, Nat.reduceLeDiff, Nat.reduceLT, Nat.reduceAdd, Nat.reduceMul, Nat.reduceSub, Nat.reduceEqDiff, Nat.reduceBEq, Int.reduceToNat, reduceCtorEq, f1]
      repeat ((with_reducible refine And.intro ?_ ?_); focus (first | (with_reducible trivial) | omega | grind))
      refine condM rfl trivial (fun hc => ?_) (fun hc => ?_)
      · replace H := cond_t hc H
        refine sq ctNo_ok ?_
        simp only [go_sem, Nat.reduceLeDiff, Nat.reduceLT, Nat.reduceAdd, Nat.reduceMul, Nat.reduceSub, Nat.reduceEqDiff, Nat.reduceBEq, Int.reduceToNat, reduceCtorEq]
        refine rg ctNo_ok ?_
        simp only [go_sem, Nat.reduceLeDiff, Nat.reduceLT, Nat.reduceAdd, Nat.reduceMul, Nat.reduceSub, Nat.reduceEqDiff, Nat.reduceBEq, Int.reduceToNat, reduceCtorEq]
        have H := hn2_1 _ (Option.some.inj H).symm
        obtain rfl := Option.some.inj H
        first | rfl | simp only [Bool.and_false, Bool.false_and, Bool.and_true, Bool.true_and]
      replace H := cond_f hc H
      refine rg ctNo_ok ?_
      simp only [go_sem, Nat.reduceLeDiff, Nat.reduceLT, Nat.reduceAdd, Nat.reduceMul, Nat.reduceSub, Nat.reduceEqDiff, Nat.reduceBEq, Int.reduceToNat, reduceCtorEq]
      refine rg ctNo_ok ?_
      simp only [go_sem, Nat.reduceLeDiff, Nat.reduceLT, Nat.reduceAdd, Nat.reduceMul, Nat.reduceSub, Nat.reduceEqDiff, Nat.reduceBEq, Int.reduceToNat, reduceCtorEq]
      refine ⟨_, (Option.some.inj H).symm, ?_⟩
      refine SubF_of ⟨[], ?_, ?_, by rfl, by rfl⟩
      · simp [CvL, Cv, getM, tp]
      · trivial
    · try dsimp only at H ⊢
      try simp only [tp]
      try simp only [m_normal, k_normal, b_normal, kL_normal, r_normal]
      refine sq ctNo_ok ?_
      simp only [go_sem, Nat.reduceLeDiff, Nat.reduceLT, Nat.reduceAdd, Nat.reduceMul, Nat.reduceSub, Nat.reduceEqDiff, Nat.reduceBEq, Int.reduceToNat, reduceCtorEq]
      refine rg ctNo_ok ?_
      simp only [go_sem, Nat.reduceLeDiff, Nat.reduceLT, Nat.reduceAdd, Nat.reduceMul, Nat.reduceSub, Nat.reduceEqDiff, Nat.reduceBEq, Int.reduceToNat, reduceCtorEq]
      obtain rfl := Option.some.inj H
      first | rfl | simp only [Bool.and_false, Bool.false_and, Bool.and_true, Bool.true_and]
  · cases hb
/-! slices.Contains[[]int,int] -/
noncomputable def ct63t0 : Ct := tab [(77, pureC body77)]
theorem ct63t0_ok : CtOk Try.prog ct63t0 := tab_cons ok77 <| tab_nil
theorem ct63t0_77 (l : List AV) (h : List ABlk) : ct63t0 77 l h = pureC body77 l h := rfl
noncomputable def F63 (p0 : List Int) (p1 : Int) : Option (Bool) :=
  (F77 p0 p1).bind fun r1 => some (bLe 0 r1)
noncomputable def body63 : List AV -> AR
  | [v0, v1] => .pure (lK k_i64 1 v0 /\ iK .i64 v1 /\ (F63 (lA g_i64 v0) (iA v1)).isSome = true) (.bool (gt (F63 (lA g_i64 v0) (iA v1))))
  | _ => .fail
set_option maxHeartbeats 4000000 in
set_option maxRecDepth 20000 in
theorem ok63 : FnOk Try.prog 63 (pureC body63) := by
  refine pure_fnM body63 (rs := [.tmp 4]) Try.func63 (by kernel_rfl) rfl rfl ?_
  intro l ob v hb hob
  unfold body63 at hb
  split at hb
  · rename_i v0 v1
    injection hb with q1 q2; subst q1 q2
    obtain ⟨hk0_0, hk1_0, hob⟩ := hob
    obtain ⟨r, H⟩ := Option.isSome_iff_exists.1 hob
    rw [H, gt_some]
    have hw0 := lK_wk (fun r h => w_i64 h) hk0_0
    have hw1 := iK_wk hk1_0
    generalize lA g_i64 v0 = p0 at H hw0
    generalize iA v1 = p1 at H hw1
    refine ⟨[.ro 1 p0.length false (enR c_i64 p0), .int .i64 p1], _, (fun E vs F => FR_wk1 hw0.1 F (fun vs F => FR_wk1 hw1.1 F (fun vs F => F))), rfl, rfl, ?_⟩
    rw [Try.ntmps63]
    simp only [List.length_cons, List.length_nil, Nat.reduceAdd, Nat.reduceSub, List.replicate_succ, List.replicate_zero, List.cons_append, List.nil_append]
    unfold F63 at H
    try dsimp only at H
    refine sq ctNo_ok ?_
    simp only [go_sem, Nat.reduceLeDiff, Nat.reduceLT, Nat.reduceAdd, Nat.reduceMul, Nat.reduceSub, Nat.reduceEqDiff, Nat.reduceBEq, Int.reduceToNat, reduceCtorEq]
    refine seqM ?_
    obtain ⟨r1, e2, H⟩ := bsi H
    refine rg ct63t0_ok ?_
    simp only [go_sem, Nat.reduceLeDiff, Nat.reduceLT, Nat.reduceAdd, Nat.reduceMul, Nat.reduceSub, Nat.reduceEqDiff, Nat.reduceBEq, Int.reduceToNat, reduceCtorEq, ct63t0_77, body77, e2]
    repeat ((with_reducible refine And.intro ?_ ?_); focus (first | (and_intros <;> first | (with_reducible trivial) | omega | assumption | exact nfc | first | exact rfl | exact trivial | exact fitI | exact .inr rfl | exact .inl rfl | exact fun x hx => absurd hx (by omega)) | grind))
    refine rg ctNo_ok ?_
    simp only [go_sem, Nat.reduceLeDiff, Nat.reduceLT, Nat.reduceAdd, Nat.reduceMul, Nat.reduceSub, Nat.reduceEqDiff, Nat.reduceBEq, Int.reduceToNat, reduceCtorEq]
    obtain rfl := Option.some.inj H
    first | rfl | simp only [Bool.and_false, Bool.false_and, Bool.and_true, Bool.true_and]
  · cases hb
/-! hotspot/bitmap.Has -/
noncomputable def ct39t0 : Ct := tab [(62, pureC body62)]
theorem ct39t0_ok : CtOk Try.prog ct39t0 := tab_cons ok62 <| tab_nil
theorem ct39t0_62 (l : List AV) (h : List ABlk) : ct39t0 62 l h = pureC body62 l h := rfl
noncomputable def ct39t1 : Ct := tab [(63, pureC body63)]
theorem ct39t1_ok : CtOk Try.prog ct39t1 := tab_cons ok63 <| tab_nil
theorem ct39t1_63 (l : List AV) (h : List ABlk) : ct39t1 63 l h = pureC body63 l h := rfl
noncomputable def F39 (p0 : TTraffic) (p1 : Int) : Option (Bool) :=
  (F62 p0 p1).bind fun r1 => bif (!bEq r1 0) then (some false) else (need (bif ((!((bEq p1 0) && p0.Group)) && (bLt 0 p1)) then ((F63 p0.Aids p1).isSome) else true) <| some (((bEq p1 0) && p0.Group) || ((bLt 0 p1) && (gt (F63 p0.Aids p1)))))
noncomputable def body39 : List AV -> AR
  | [v0, v1] => .pure (aK 2 k_TTraffic v0 /\ iK .i64 v1 /\ (F39 (g_TTraffic (aL v0)) (iA v1)).isSome = true) (.bool (gt (F39 (g_TTraffic (aL v0)) (iA v1))))
  | _ => .fail
set_option maxHeartbeats 4000000 in
set_option maxRecDepth 20000 in
theorem ok39 : FnOk Try.prog 39 (pureC body39) := by
  refine pure_fnM body39 (rs := [.tmp 4]) Try.func39 (by kernel_rfl) rfl rfl ?_
  intro l ob v hb hob
  unfold body39 at hb
  split at hb
  · rename_i v0 v1
    injection hb with q1 q2; subst q1 q2
    obtain ⟨hk0_0, hk1_0, hob⟩ := hob
    obtain ⟨r, H⟩ := Option.isSome_iff_exists.1 hob
    rw [H, gt_some]
    have hw0 := wA_TTraffic hk0_0
    have hw1 := iK_wk hk1_0
    generalize g_TTraffic (aL v0) = p0 at H hw0
    generalize iA v1 = p1 at H hw1
    refine ⟨[.agg [.bool p0.Group, .ro 1 p0.Aids.length false (enR c_i64 p0.Aids)], .int .i64 p1], _, (fun E vs F => FR_wk1 hw0.1 F (fun vs F => FR_wk1 hw1.1 F (fun vs F => F))), rfl, rfl, ?_⟩
    rw [Try.ntmps39]
    simp only [List.length_cons, List.length_nil, Nat.reduceAdd, Nat.reduceSub, List.replicate_succ, List.replicate_zero, List.cons_append, List.nil_append]
    unfold F39 at H
    try dsimp only at H
    refine sq ctNo_ok ?_
    simp only [go_sem, Nat.reduceLeDiff, Nat.reduceLT, Nat.reduceAdd, Nat.reduceMul, Nat.reduceSub, Nat.reduceEqDiff, Nat.reduceBEq, Int.reduceToNat, reduceCtorEq]
    refine seqM ?_
    refine seqM ?_
    obtain ⟨r1, e2, H⟩ := bsi H
    refine rg ct39t0_ok ?_
    simp only [go_sem, Nat.reduceLeDiff, Nat.reduceLT, Nat.reduceAdd, Nat.reduceMul, Nat.reduceSub, Nat.reduceEqDiff, Nat.reduceBEq, Int.reduceToNat, reduceCtorEq, ct39t0_62, body62, e2]
    repeat ((with_reducible refine And.intro ?_ ?_); focus (first | (and_intros <;> first | (with_reducible trivial) | omega | assumption | exact nfc | first | exact rfl | exact trivial | exact fitI | exact .inr rfl | exact .inl rfl | exact fun x hx => absurd hx (by omega)) | grind))
    refine condM rfl trivial (fun hc => ?_) (fun hc => ?_)
    · replace H := cond_t hc H
      refine sq ctNo_ok ?_
      simp only [go_sem, Nat.reduceLeDiff, Nat.reduceLT, Nat.reduceAdd, Nat.reduceMul, Nat.reduceSub, Nat.reduceEqDiff, Nat.reduceBEq, Int.reduceToNat, reduceCtorEq]
      refine rg ctNo_ok ?_
      simp only [go_sem, Nat.reduceLeDiff, Nat.reduceLT, Nat.reduceAdd, Nat.reduceMul, Nat.reduceSub, Nat.reduceEqDiff, Nat.reduceBEq, Int.reduceToNat, reduceCtorEq]
      obtain rfl := Option.some.inj H
      first | rfl | simp only [Bool.and_false, Bool.false_and, Bool.and_true, Bool.true_and]
    replace H := cond_f hc H
    refine rg ctNo_ok ?_
    simp only [go_sem, Nat.reduceLeDiff, Nat.reduceLT, Nat.reduceAdd, Nat.reduceMul, Nat.reduceSub, Nat.reduceEqDiff, Nat.reduceBEq, Int.reduceToNat, reduceCtorEq]
    refine seqM ?_
    obtain ⟨f3, H⟩ := need_some.1 H
    replace f3 := g_iff.1 f3
    refine rg ct39t1_ok ?_
    simp only [go_sem, Nat.reduceLeDiff, Nat.reduceLT, Nat.reduceAdd, Nat.reduceMul, Nat.reduceSub, Nat.reduceEqDiff, Nat.reduceBEq, Int.reduceToNat, reduceCtorEq, ct39t1_63, body63]
    repeat ((with_reducible refine And.intro ?_ ?_); focus (first | (with_reducible trivial) | omega | exact f3 | (intro g; have q := f3 (by first | exact g | (rw [g]; rfl) | simpa using g); first | exact q | exact ⟨q.1, q.2.1⟩ | exact q.2.2 | omega | exact ⟨g, q⟩ | exact ⟨trivial, q⟩ | exact ⟨g, q.1, q.2.1⟩ | exact ⟨g, q.2.2⟩) | (intro g; (try have q0 := f3 (by first | exact g | (rw [g]; rfl) | simpa using g)); and_intros <;> first | (with_reducible trivial) | assumption | exact nfc | (intro g2; rw [g, g2]; rfl) | (intro g2; assumption) | (simp only [g, Bool.true_and, Bool.and_true, Bool.not_false, Bool.not_true]; assumption) | grind) | (and_intros <;> first | (with_reducible trivial) | omega | assumption | exact nfc | first | exact rfl | exact trivial | exact fitI | exact .inr rfl | exact .inl rfl | exact fun x hx => absurd hx (by omega)) | grind))
    refine rg ctNo_ok ?_
    simp only [go_sem, Nat.reduceLeDiff, Nat.reduceLT, Nat.reduceAdd, Nat.reduceMul, Nat.reduceSub, Nat.reduceEqDiff, Nat.reduceBEq, Int.reduceToNat, reduceCtorEq]
    obtain rfl := Option.some.inj H
    first | rfl | simp only [Bool.and_false, Bool.false_and, Bool.and_true, Bool.true_and]
  · cases hb
/-! hotspot/hotspotref35.Bit -/
noncomputable def F36_L1 (p1 : Int) (v1_1 : Int) (v1_2 : Int) : Option (Lp (Int × Int) ((Int) ⊕ (Bool))) :=
  bif (bLt v1_2 p1) then (some (.next (wr .u8 (v1_1.tdiv 2), wr .u8 (v1_2 + 1)))) else (some (.done (.inl v1_1)))
noncomputable def F36 (p0 : Int) (p1 : Int) : Option (Bool) :=
  lp (loopD (fun s => F36_L1 p1 s.1 s.2) (p0, 0)) (fun w1_3 => some (bEq (w1_3.tmod 2) 1)) some
noncomputable def body36 : List AV -> AR
  | [v0, v1] => .pure (iK .u8 v0 /\ iK .u8 v1 /\ (F36 (iA v0) (iA v1)).isSome = true) (.bool (gt (F36 (iA v0) (iA v1))))
  | _ => .fail
set_option maxHeartbeats 4000000 in
set_option maxRecDepth 20000 in
theorem ok36 : FnOk Try.prog 36 (pureC body36) := by
  refine pure_fnM body36 (rs := [.tmp 4]) Try.func36 (by kernel_rfl) rfl rfl ?_
  intro l ob v hb hob
  unfold body36 at hb
  split at hb
  · rename_i v0 v1
    injection hb with q1 q2; subst q1 q2
    obtain ⟨hk0_0, hk1_0, hob⟩ := hob
    obtain ⟨r, H⟩ := Option.isSome_iff_exists.1 hob
    rw [H, gt_some]
    have hw0 := iK_wk hk0_0
    have hw1 := iK_wk hk1_0
    generalize iA v0 = p0 at H hw0
    generalize iA v1 = p1 at H hw1
    refine ⟨[.int .u8 p0, .int .u8 p1], _, (fun E vs F => FR_wk1 hw0.1 F (fun vs F => FR_wk1 hw1.1 F (fun vs F => F))), rfl, rfl, ?_⟩
    rw [Try.ntmps36]
    simp only [List.length_cons, List.length_nil, Nat.reduceAdd, Nat.reduceSub, List.replicate_succ, List.replicate_zero, List.cons_append, List.nil_append]
    unfold F36 at H
    try dsimp only at H
    refine sq ctNo_ok ?_
    simp only [go_sem, Nat.reduceLeDiff, Nat.reduceLT, Nat.reduceAdd, Nat.reduceMul, Nat.reduceSub, Nat.reduceEqDiff, Nat.reduceBEq, Int.reduceToNat, reduceCtorEq]
    refine seqM ?_
    refine sq ctNo_ok ?_
    simp only [go_sem, Nat.reduceLeDiff, Nat.reduceLT, Nat.reduceAdd, Nat.reduceMul, Nat.reduceSub, Nat.reduceEqDiff, Nat.reduceBEq, Int.reduceToNat, reduceCtorEq]
    refine blkM ?_
    refine loop_den (fun s : Int × Int => (.int .u8 s.1 :: .int .u8 p1 :: .top :: .top :: .top :: .int .u8 s.2 :: tp 10 [])) (fun s => []) (fun e : Int => (.int .u8 e :: tp 15 [])) (fun e => []) H ?_ (fun s o H hn1_1 hn2_1 => ?_) (fun w1_3 H => ?_)
    · refine SubF_of ⟨[], ?_, ?_, by rfl, by rfl⟩
      · simp [CvL, Cv, getM, tp]
      · trivial
    · obtain ⟨v1_1, v1_2⟩ := s
      unfold F36_L1 at H
      try dsimp only at H ⊢
      try simp only [tp]
      refine seqM ?_
      refine sq ctNo_ok ?_
      simp only [go_sem, Nat.reduceLeDiff, Nat.reduceLT, Nat.reduceAdd, Nat.reduceMul, Nat.reduceSub, Nat.reduceEqDiff, Nat.reduceBEq, Int.reduceToNat, reduceCtorEq]
      refine condM' rfl trivial (fun hc => ?_) (fun hc => ?_)
      · replace H := cond_f hc H
        refine rg ctNo_ok ?_
        simp only [go_sem, Nat.reduceLeDiff, Nat.reduceLT, Nat.reduceAdd, Nat.reduceMul, Nat.reduceSub, Nat.reduceEqDiff, Nat.reduceBEq, Int.reduceToNat, reduceCtorEq]
        refine ⟨_, (Option.some.inj H).symm, ?_⟩
        refine SubF_of ⟨[], ?_, ?_, by rfl, by rfl⟩
        · simp [CvL, Cv, getM, tp]
        · trivial
      replace H := cond_t hc H
      refine rg ctNo_ok ?_
      simp only [go_sem, Nat.reduceLeDiff, Nat.reduceLT, Nat.reduceAdd, Nat.reduceMul, Nat.reduceSub, Nat.reduceEqDiff, Nat.reduceBEq, Int.reduceToNat, reduceCtorEq]
      refine seqM ?_
      refine blkM ?_
      refine rg ctNo_ok ?_
      simp only [go_sem, Nat.reduceLeDiff, Nat.reduceLT, Nat.reduceAdd, Nat.reduceMul, Nat.reduceSub, Nat.reduceEqDiff, Nat.reduceBEq, Int.reduceToNat, reduceCtorEq]
      repeat ((with_reducible refine And.intro ?_ ?_); focus (first | (with_reducible trivial) | omega | grind))
      refine rg ctNo_ok ?_
      simp only [go_sem, Nat.reduceLeDiff, Nat.reduceLT, Nat.reduceAdd, Nat.reduceMul, Nat.reduceSub, Nat.reduceEqDiff, Nat.reduceBEq, Int.reduceToNat, reduceCtorEq]
      refine ⟨_, (Option.some.inj H).symm, ?_⟩
      refine SubF_of ⟨[], ?_, ?_, by rfl, by rfl⟩
      · simp [CvL, Cv, getM, tp]
      · trivial
    · try dsimp only at H ⊢
      try simp only [tp]
      try simp only [m_normal, k_normal, b_normal, kL_normal, r_normal]
      refine sq ctNo_ok ?_
      simp only [go_sem, Nat.reduceLeDiff, Nat.reduceLT, Nat.reduceAdd, Nat.reduceMul, Nat.reduceSub, Nat.reduceEqDiff, Nat.reduceBEq, Int.reduceToNat, reduceCtorEq]
      repeat ((with_reducible refine And.intro ?_ ?_); focus (first | (with_reducible trivial) | omega | grind))
      refine rg ctNo_ok ?_
      simp only [go_sem, Nat.reduceLeDiff, Nat.reduceLT, Nat.reduceAdd, Nat.reduceMul, Nat.reduceSub, Nat.reduceEqDiff, Nat.reduceBEq, Int.reduceToNat, reduceCtorEq]
      obtain rfl := Option.some.inj H
      first | rfl | simp only [Bool.and_false, Bool.false_and, Bool.and_true, Bool.true_and]
  · cases hb
end Go.Proofs.Ytnclkplbeenmdaa
