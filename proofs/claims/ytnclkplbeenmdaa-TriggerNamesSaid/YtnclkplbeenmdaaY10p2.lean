/-
  What TriggerNames reaches.
-/
import Derived.Test.YtnclkplbeenmdaaY10p1
namespace Go.Proofs.Ytnclkplbeenmdaa
open Go.Am
set_option linter.unusedVariables false
set_option linter.unusedSimpArgs false
/-! hotspot/trigger.Begin -/
noncomputable def ct29t0 : Ct := tab [(20, pureC body20), (34, pureC body34)]
theorem ct29t0_ok : CtOk Try.prog ct29t0 := tab_cons ok20 <| tab_cons ok34 <| tab_nil
theorem ct29t0_20 (l : List AV) (h : List ABlk) : ct29t0 20 l h = pureC body20 l h := rfl
theorem ct29t0_34 (l : List AV) (h : List ABlk) : ct29t0 34 l h = pureC body34 l h := rfl
noncomputable def ct29t1 : Ct := tab [(52, pureC body52_1)]
theorem ct29t1_ok : CtOk Try.prog ct29t1 := tab_cons ok52_1 <| tab_nil
theorem ct29t1_52 (l : List AV) (h : List ABlk) : ct29t1 52 l h = pureC body52_1 l h := rfl
noncomputable def ct29t2 (gi : Nat) : Ct := tab [(54, genC (body54f gi))]
theorem ct29t2_ok (gi : Nat) : CtOk Try.prog (ct29t2 gi) := tab_cons (ok54f gi) <| tab_nil
theorem ct29t2_54 (gi : Nat) (l : List AV) (h : List ABlk) : (ct29t2 gi) 54 l h = genC (body54f gi) l h := rfl
noncomputable def ct29t3 : Ct := tab [(56, pureC body56_0)]
theorem ct29t3_ok : CtOk Try.prog ct29t3 := tab_cons ok56_0 <| tab_nil
theorem ct29t3_56 (l : List AV) (h : List ABlk) : ct29t3 56 l h = pureC body56_0 l h := rfl
noncomputable def ct29t4 : Ct := tab [(73, delN 73 43)]
theorem ct29t4_ok : CtOk Try.prog ct29t4 := tab_cons ok73 <| tab_nil
theorem ct29t4_73 (l : List AV) (h : List ABlk) : ct29t4 73 l h = delN 73 43 l h := rfl
noncomputable def ct29t5 : Ct := tab [(49, pureC body49_0)]
theorem ct29t5_ok : CtOk Try.prog ct29t5 := tab_cons ok49_0 <| tab_nil
theorem ct29t5_49 (l : List AV) (h : List ABlk) : ct29t5 49 l h = pureC body49_0 l h := rfl
noncomputable def ct29t6 : Ct := tab [(57, edC body57)]
theorem ct29t6_ok : CtOk Try.prog ct29t6 := tab_cons ok57 <| tab_nil
theorem ct29t6_57 (l : List AV) (h : List ABlk) : ct29t6 57 l h = edC body57 l h := rfl
noncomputable def F29_L2 (p1 : TTriggerPlan) (v1_2 : List TStored) (v2_1 : Int) (v2_2 : Int) : Option (Lp (Int × Int) ((Int) ⊕ (TPeriod × TBuffer × Int))) :=
  bif (bLt v2_2 (v1_2.length : Nat)) then (need (inb v2_2 v1_2.length) <| (F56_0 p1.Deliver (TStored.mk ((gd v1_2 v2_2.toNat).Cat) ((gd v1_2 v2_2.toNat).At) (TFrame.mk (THeader.mk ((((gd v1_2 v2_2.toNat).Frame).Head).Kind) ((((gd v1_2 v2_2.toNat).Frame).Head).Sub) ((((gd v1_2 v2_2.toNat).Frame).Head).ToDs) ((((gd v1_2 v2_2.toNat).Frame).Head).FromDs) ((((gd v1_2 v2_2.toNat).Frame).Head).More) ((((gd v1_2 v2_2.toNat).Frame).Head).Retry) ((((gd v1_2 v2_2.toNat).Frame).Head).Sleep) ((((gd v1_2 v2_2.toNat).Frame).Head).MoreData) ((((gd v1_2 v2_2.toNat).Frame).Head).Protected) ((((gd v1_2 v2_2.toNat).Frame).Head).Duration) (A6u8.mk (((((gd v1_2 v2_2.toNat).Frame).Head).A1).x0) (((((gd v1_2 v2_2.toNat).Frame).Head).A1).x1) (((((gd v1_2 v2_2.toNat).Frame).Head).A1).x2) (((((gd v1_2 v2_2.toNat).Frame).Head).A1).x3) (((((gd v1_2 v2_2.toNat).Frame).Head).A1).x4) (((((gd v1_2 v2_2.toNat).Frame).Head).A1).x5)) (A6u8.mk (((((gd v1_2 v2_2.toNat).Frame).Head).A2).x0) (((((gd v1_2 v2_2.toNat).Frame).Head).A2).x1) (((((gd v1_2 v2_2.toNat).Frame).Head).A2).x2) (((((gd v1_2 v2_2.toNat).Frame).Head).A2).x3) (((((gd v1_2 v2_2.toNat).Frame).Head).A2).x4) (((((gd v1_2 v2_2.toNat).Frame).Head).A2).x5)) (A6u8.mk (((((gd v1_2 v2_2.toNat).Frame).Head).A3).x0) (((((gd v1_2 v2_2.toNat).Frame).Head).A3).x1) (((((gd v1_2 v2_2.toNat).Frame).Head).A3).x2) (((((gd v1_2 v2_2.toNat).Frame).Head).A3).x3) (((((gd v1_2 v2_2.toNat).Frame).Head).A3).x4) (((((gd v1_2 v2_2.toNat).Frame).Head).A3).x5)) (A6u8.mk (((((gd v1_2 v2_2.toNat).Frame).Head).A4).x0) (((((gd v1_2 v2_2.toNat).Frame).Head).A4).x1) (((((gd v1_2 v2_2.toNat).Frame).Head).A4).x2) (((((gd v1_2 v2_2.toNat).Frame).Head).A4).x3) (((((gd v1_2 v2_2.toNat).Frame).Head).A4).x4) (((((gd v1_2 v2_2.toNat).Frame).Head).A4).x5)) ((((gd v1_2 v2_2.toNat).Frame).Head).Seq) ((((gd v1_2 v2_2.toNat).Frame).Head).Frag) ((((gd v1_2 v2_2.toNat).Frame).Head).Tid) ((((gd v1_2 v2_2.toNat).Frame).Head).Ack) ((((gd v1_2 v2_2.toNat).Frame).Head).Amsdu) ((((gd v1_2 v2_2.toNat).Frame).Head).Eosp)) (((gd v1_2 v2_2.toNat).Frame).Body)))).bind fun r17 => need (bif (r17 && (!(bLt v2_1 0))) then inb v2_1 v1_2.length else true) <| bif (r17 && ((bLt v2_1 0) || (bLt ((gd v1_2 v2_1.toNat).Cat) ((gd v1_2 v2_2.toNat).Cat)))) then (some (.next (v2_2, wr .i64 (v2_2 + 1)))) else (some (.next (v2_1, wr .i64 (v2_2 + 1))))) else (some (.done (.inl v2_1)))
noncomputable def F29_L1 (p1 : TTriggerPlan) (v1_1 : List TFrame) (v1_2 : List TStored) : Option (Lp ((List TFrame) × (List TStored)) (((List TFrame) × (List TStored)) ⊕ (TPeriod × TBuffer × Int))) :=
  bif ((bEq p1.Most 0) || (bLt (v1_1.length : Nat) p1.Most)) then (lp (loopD (fun s => F29_L2 p1 v1_2 s.1 s.2) ((-1), 0)) (fun w2_3 => bif (bLt w2_3 0) then (some (.done (.inl (v1_1, v1_2)))) else (need (inb w2_3 v1_2.length) <| need (delb w2_3 (wr .i64 (w2_3 + 1)) v1_2.length) <| (some (delL v1_2 w2_3 (wr .i64 (w2_3 + 1)))).bind fun w24 => need (capb 104 (v1_1.length + 1)) <| some (.next ((v1_1 ++ [(TFrame.mk (THeader.mk ((((gd v1_2 w2_3.toNat).Frame).Head).Kind) ((((gd v1_2 w2_3.toNat).Frame).Head).Sub) ((((gd v1_2 w2_3.toNat).Frame).Head).ToDs) ((((gd v1_2 w2_3.toNat).Frame).Head).FromDs) ((((gd v1_2 w2_3.toNat).Frame).Head).More) ((((gd v1_2 w2_3.toNat).Frame).Head).Retry) ((((gd v1_2 w2_3.toNat).Frame).Head).Sleep) true ((((gd v1_2 w2_3.toNat).Frame).Head).Protected) ((((gd v1_2 w2_3.toNat).Frame).Head).Duration) (A6u8.mk (((((gd v1_2 w2_3.toNat).Frame).Head).A1).x0) (((((gd v1_2 w2_3.toNat).Frame).Head).A1).x1) (((((gd v1_2 w2_3.toNat).Frame).Head).A1).x2) (((((gd v1_2 w2_3.toNat).Frame).Head).A1).x3) (((((gd v1_2 w2_3.toNat).Frame).Head).A1).x4) (((((gd v1_2 w2_3.toNat).Frame).Head).A1).x5)) (A6u8.mk (((((gd v1_2 w2_3.toNat).Frame).Head).A2).x0) (((((gd v1_2 w2_3.toNat).Frame).Head).A2).x1) (((((gd v1_2 w2_3.toNat).Frame).Head).A2).x2) (((((gd v1_2 w2_3.toNat).Frame).Head).A2).x3) (((((gd v1_2 w2_3.toNat).Frame).Head).A2).x4) (((((gd v1_2 w2_3.toNat).Frame).Head).A2).x5)) (A6u8.mk (((((gd v1_2 w2_3.toNat).Frame).Head).A3).x0) (((((gd v1_2 w2_3.toNat).Frame).Head).A3).x1) (((((gd v1_2 w2_3.toNat).Frame).Head).A3).x2) (((((gd v1_2 w2_3.toNat).Frame).Head).A3).x3) (((((gd v1_2 w2_3.toNat).Frame).Head).A3).x4) (((((gd v1_2 w2_3.toNat).Frame).Head).A3).x5)) (A6u8.mk (((((gd v1_2 w2_3.toNat).Frame).Head).A4).x0) (((((gd v1_2 w2_3.toNat).Frame).Head).A4).x1) (((((gd v1_2 w2_3.toNat).Frame).Head).A4).x2) (((((gd v1_2 w2_3.toNat).Frame).Head).A4).x3) (((((gd v1_2 w2_3.toNat).Frame).Head).A4).x4) (((((gd v1_2 w2_3.toNat).Frame).Head).A4).x5)) ((((gd v1_2 w2_3.toNat).Frame).Head).Seq) ((((gd v1_2 w2_3.toNat).Frame).Head).Frag) ((((gd v1_2 w2_3.toNat).Frame).Head).Tid) ((((gd v1_2 w2_3.toNat).Frame).Head).Ack) ((((gd v1_2 w2_3.toNat).Frame).Head).Amsdu) false) (((gd v1_2 w2_3.toNat).Frame).Body))]), w24)))) (fun r => some (.done (.inr r)))) else (some (.done (.inl (v1_1, v1_2))))
noncomputable def F29 (p0 : TBuffer) (p1 : TTriggerPlan) (p2 : Int) (p3 : A6u8) (p4 : A6u8) : Option (TPeriod × TBuffer × Int) :=
  (F34 p0).bind fun r1 => need (bif (!(!bEq r1 0)) then ((F20 p1).isSome) else true) <| bif ((!bEq r1 0) || (!bEq (gt (F20 p1)) 0)) then (some ((TPeriod.mk 0 []), (TBuffer.mk 0 0 [] []), 8)) else (bif ((bLt p2 1) || (bLt 255 p2)) then (some ((TPeriod.mk 0 []), (TBuffer.mk 0 0 [] []), 2)) else ((F52_1 p0.List p2).bind fun r6 => bif (bLt r6 0) then (some ((TPeriod.mk 0 []), (TBuffer.mk 0 0 [] []), 6)) else (need (inb r6 p0.List.length) <| bif (!((gd p0.List r6.toNat).Asleep)) then (some ((TPeriod.mk 0 []), (TBuffer.mk 0 0 [] []), 20)) else ((F54f r6.toNat p0).bind fun r11 => need (inb r6 r11.List.length) <| lp (loopD (fun s => F29_L1 p1 s.1 s.2) ([], (gd r11.List r6.toNat).Held)) (fun e1 => need (inb r6 r11.List.length) <| (F49_0 e1.2 p1.Deliver).bind fun r28 => bif (bEq (e1.1.length : Nat) 0) then ((F57 p3 p4).bind fun r31 => need (inb 0 1) <| (some (r11.List.set r6.toNat (TSleeper.mk ((gd r11.List r6.toNat).Aid) ((gd r11.List r6.toNat).Asleep) e1.2))).bind fun w34 => (some (([r31].set 0 (TFrame.mk (THeader.mk (((gd [r31] 0).Head).Kind) (((gd [r31] 0).Head).Sub) (((gd [r31] 0).Head).ToDs) (((gd [r31] 0).Head).FromDs) (((gd [r31] 0).Head).More) (((gd [r31] 0).Head).Retry) (((gd [r31] 0).Head).Sleep) (((gd [r31] 0).Head).MoreData) (((gd [r31] 0).Head).Protected) (((gd [r31] 0).Head).Duration) (A6u8.mk ((((gd [r31] 0).Head).A1).x0) ((((gd [r31] 0).Head).A1).x1) ((((gd [r31] 0).Head).A1).x2) ((((gd [r31] 0).Head).A1).x3) ((((gd [r31] 0).Head).A1).x4) ((((gd [r31] 0).Head).A1).x5)) (A6u8.mk ((((gd [r31] 0).Head).A2).x0) ((((gd [r31] 0).Head).A2).x1) ((((gd [r31] 0).Head).A2).x2) ((((gd [r31] 0).Head).A2).x3) ((((gd [r31] 0).Head).A2).x4) ((((gd [r31] 0).Head).A2).x5)) (A6u8.mk ((((gd [r31] 0).Head).A3).x0) ((((gd [r31] 0).Head).A3).x1) ((((gd [r31] 0).Head).A3).x2) ((((gd [r31] 0).Head).A3).x3) ((((gd [r31] 0).Head).A3).x4) ((((gd [r31] 0).Head).A3).x5)) (A6u8.mk ((((gd [r31] 0).Head).A4).x0) ((((gd [r31] 0).Head).A4).x1) ((((gd [r31] 0).Head).A4).x2) ((((gd [r31] 0).Head).A4).x3) ((((gd [r31] 0).Head).A4).x4) ((((gd [r31] 0).Head).A4).x5)) (((gd [r31] 0).Head).Seq) (((gd [r31] 0).Head).Frag) (((gd [r31] 0).Head).Tid) (((gd [r31] 0).Head).Ack) (((gd [r31] 0).Head).Amsdu) true) ((gd [r31] 0).Body))).set 0 ((fun qq33 => (TFrame.mk (THeader.mk qq33.Head.Kind qq33.Head.Sub qq33.Head.ToDs qq33.Head.FromDs qq33.Head.More qq33.Head.Retry qq33.Head.Sleep false qq33.Head.Protected qq33.Head.Duration (A6u8.mk qq33.Head.A1.x0 qq33.Head.A1.x1 qq33.Head.A1.x2 qq33.Head.A1.x3 qq33.Head.A1.x4 qq33.Head.A1.x5) (A6u8.mk qq33.Head.A2.x0 qq33.Head.A2.x1 qq33.Head.A2.x2 qq33.Head.A2.x3 qq33.Head.A2.x4 qq33.Head.A2.x5) (A6u8.mk qq33.Head.A3.x0 qq33.Head.A3.x1 qq33.Head.A3.x2 qq33.Head.A3.x3 qq33.Head.A3.x4 qq33.Head.A3.x5) (A6u8.mk qq33.Head.A4.x0 qq33.Head.A4.x1 qq33.Head.A4.x2 qq33.Head.A4.x3 qq33.Head.A4.x4 qq33.Head.A4.x5) qq33.Head.Seq qq33.Head.Frag qq33.Head.Tid qq33.Head.Ack qq33.Head.Amsdu qq33.Head.Eosp) qq33.Body)) (gd ([r31].set 0 (TFrame.mk (THeader.mk (((gd [r31] 0).Head).Kind) (((gd [r31] 0).Head).Sub) (((gd [r31] 0).Head).ToDs) (((gd [r31] 0).Head).FromDs) (((gd [r31] 0).Head).More) (((gd [r31] 0).Head).Retry) (((gd [r31] 0).Head).Sleep) (((gd [r31] 0).Head).MoreData) (((gd [r31] 0).Head).Protected) (((gd [r31] 0).Head).Duration) (A6u8.mk ((((gd [r31] 0).Head).A1).x0) ((((gd [r31] 0).Head).A1).x1) ((((gd [r31] 0).Head).A1).x2) ((((gd [r31] 0).Head).A1).x3) ((((gd [r31] 0).Head).A1).x4) ((((gd [r31] 0).Head).A1).x5)) (A6u8.mk ((((gd [r31] 0).Head).A2).x0) ((((gd [r31] 0).Head).A2).x1) ((((gd [r31] 0).Head).A2).x2) ((((gd [r31] 0).Head).A2).x3) ((((gd [r31] 0).Head).A2).x4) ((((gd [r31] 0).Head).A2).x5)) (A6u8.mk ((((gd [r31] 0).Head).A3).x0) ((((gd [r31] 0).Head).A3).x1) ((((gd [r31] 0).Head).A3).x2) ((((gd [r31] 0).Head).A3).x3) ((((gd [r31] 0).Head).A3).x4) ((((gd [r31] 0).Head).A3).x5)) (A6u8.mk ((((gd [r31] 0).Head).A4).x0) ((((gd [r31] 0).Head).A4).x1) ((((gd [r31] 0).Head).A4).x2) ((((gd [r31] 0).Head).A4).x3) ((((gd [r31] 0).Head).A4).x4) ((((gd [r31] 0).Head).A4).x5)) (((gd [r31] 0).Head).Seq) (((gd [r31] 0).Head).Frag) (((gd [r31] 0).Head).Tid) (((gd [r31] 0).Head).Ack) (((gd [r31] 0).Head).Amsdu) true) ((gd [r31] 0).Body))) 0)))).bind fun w36 => some ((TPeriod.mk p2 w36), (TBuffer.mk r11.Limit r11.Stay w34 r11.Group), 0)) else (need (inb (wr .i64 ((e1.1.length : Nat) - 1)) e1.1.length) <| (some (r11.List.set r6.toNat (TSleeper.mk ((gd r11.List r6.toNat).Aid) ((gd r11.List r6.toNat).Asleep) e1.2))).bind fun w39 => (some ((e1.1.set ((wr .i64 ((e1.1.length : Nat) - 1)).toNat) (TFrame.mk (THeader.mk (((gd e1.1 ((wr .i64 ((e1.1.length : Nat) - 1)).toNat)).Head).Kind) (((gd e1.1 ((wr .i64 ((e1.1.length : Nat) - 1)).toNat)).Head).Sub) (((gd e1.1 ((wr .i64 ((e1.1.length : Nat) - 1)).toNat)).Head).ToDs) (((gd e1.1 ((wr .i64 ((e1.1.length : Nat) - 1)).toNat)).Head).FromDs) (((gd e1.1 ((wr .i64 ((e1.1.length : Nat) - 1)).toNat)).Head).More) (((gd e1.1 ((wr .i64 ((e1.1.length : Nat) - 1)).toNat)).Head).Retry) (((gd e1.1 ((wr .i64 ((e1.1.length : Nat) - 1)).toNat)).Head).Sleep) (((gd e1.1 ((wr .i64 ((e1.1.length : Nat) - 1)).toNat)).Head).MoreData) (((gd e1.1 ((wr .i64 ((e1.1.length : Nat) - 1)).toNat)).Head).Protected) (((gd e1.1 ((wr .i64 ((e1.1.length : Nat) - 1)).toNat)).Head).Duration) (A6u8.mk ((((gd e1.1 ((wr .i64 ((e1.1.length : Nat) - 1)).toNat)).Head).A1).x0) ((((gd e1.1 ((wr .i64 ((e1.1.length : Nat) - 1)).toNat)).Head).A1).x1) ((((gd e1.1 ((wr .i64 ((e1.1.length : Nat) - 1)).toNat)).Head).A1).x2) ((((gd e1.1 ((wr .i64 ((e1.1.length : Nat) - 1)).toNat)).Head).A1).x3) ((((gd e1.1 ((wr .i64 ((e1.1.length : Nat) - 1)).toNat)).Head).A1).x4) ((((gd e1.1 ((wr .i64 ((e1.1.length : Nat) - 1)).toNat)).Head).A1).x5)) (A6u8.mk ((((gd e1.1 ((wr .i64 ((e1.1.length : Nat) - 1)).toNat)).Head).A2).x0) ((((gd e1.1 ((wr .i64 ((e1.1.length : Nat) - 1)).toNat)).Head).A2).x1) ((((gd e1.1 ((wr .i64 ((e1.1.length : Nat) - 1)).toNat)).Head).A2).x2) ((((gd e1.1 ((wr .i64 ((e1.1.length : Nat) - 1)).toNat)).Head).A2).x3) ((((gd e1.1 ((wr .i64 ((e1.1.length : Nat) - 1)).toNat)).Head).A2).x4) ((((gd e1.1 ((wr .i64 ((e1.1.length : Nat) - 1)).toNat)).Head).A2).x5)) (A6u8.mk ((((gd e1.1 ((wr .i64 ((e1.1.length : Nat) - 1)).toNat)).Head).A3).x0) ((((gd e1.1 ((wr .i64 ((e1.1.length : Nat) - 1)).toNat)).Head).A3).x1) ((((gd e1.1 ((wr .i64 ((e1.1.length : Nat) - 1)).toNat)).Head).A3).x2) ((((gd e1.1 ((wr .i64 ((e1.1.length : Nat) - 1)).toNat)).Head).A3).x3) ((((gd e1.1 ((wr .i64 ((e1.1.length : Nat) - 1)).toNat)).Head).A3).x4) ((((gd e1.1 ((wr .i64 ((e1.1.length : Nat) - 1)).toNat)).Head).A3).x5)) (A6u8.mk ((((gd e1.1 ((wr .i64 ((e1.1.length : Nat) - 1)).toNat)).Head).A4).x0) ((((gd e1.1 ((wr .i64 ((e1.1.length : Nat) - 1)).toNat)).Head).A4).x1) ((((gd e1.1 ((wr .i64 ((e1.1.length : Nat) - 1)).toNat)).Head).A4).x2) ((((gd e1.1 ((wr .i64 ((e1.1.length : Nat) - 1)).toNat)).Head).A4).x3) ((((gd e1.1 ((wr .i64 ((e1.1.length : Nat) - 1)).toNat)).Head).A4).x4) ((((gd e1.1 ((wr .i64 ((e1.1.length : Nat) - 1)).toNat)).Head).A4).x5)) (((gd e1.1 ((wr .i64 ((e1.1.length : Nat) - 1)).toNat)).Head).Seq) (((gd e1.1 ((wr .i64 ((e1.1.length : Nat) - 1)).toNat)).Head).Frag) (((gd e1.1 ((wr .i64 ((e1.1.length : Nat) - 1)).toNat)).Head).Tid) (((gd e1.1 ((wr .i64 ((e1.1.length : Nat) - 1)).toNat)).Head).Ack) (((gd e1.1 ((wr .i64 ((e1.1.length : Nat) - 1)).toNat)).Head).Amsdu) true) ((gd e1.1 ((wr .i64 ((e1.1.length : Nat) - 1)).toNat)).Body))).set ((wr .i64 ((e1.1.length : Nat) - 1)).toNat) ((fun qq38 => (TFrame.mk (THeader.mk qq38.Head.Kind qq38.Head.Sub qq38.Head.ToDs qq38.Head.FromDs qq38.Head.More qq38.Head.Retry qq38.Head.Sleep r28 qq38.Head.Protected qq38.Head.Duration (A6u8.mk qq38.Head.A1.x0 qq38.Head.A1.x1 qq38.Head.A1.x2 qq38.Head.A1.x3 qq38.Head.A1.x4 qq38.Head.A1.x5) (A6u8.mk qq38.Head.A2.x0 qq38.Head.A2.x1 qq38.Head.A2.x2 qq38.Head.A2.x3 qq38.Head.A2.x4 qq38.Head.A2.x5) (A6u8.mk qq38.Head.A3.x0 qq38.Head.A3.x1 qq38.Head.A3.x2 qq38.Head.A3.x3 qq38.Head.A3.x4 qq38.Head.A3.x5) (A6u8.mk qq38.Head.A4.x0 qq38.Head.A4.x1 qq38.Head.A4.x2 qq38.Head.A4.x3 qq38.Head.A4.x4 qq38.Head.A4.x5) qq38.Head.Seq qq38.Head.Frag qq38.Head.Tid qq38.Head.Ack qq38.Head.Amsdu qq38.Head.Eosp) qq38.Body)) (gd (e1.1.set ((wr .i64 ((e1.1.length : Nat) - 1)).toNat) (TFrame.mk (THeader.mk (((gd e1.1 ((wr .i64 ((e1.1.length : Nat) - 1)).toNat)).Head).Kind) (((gd e1.1 ((wr .i64 ((e1.1.length : Nat) - 1)).toNat)).Head).Sub) (((gd e1.1 ((wr .i64 ((e1.1.length : Nat) - 1)).toNat)).Head).ToDs) (((gd e1.1 ((wr .i64 ((e1.1.length : Nat) - 1)).toNat)).Head).FromDs) (((gd e1.1 ((wr .i64 ((e1.1.length : Nat) - 1)).toNat)).Head).More) (((gd e1.1 ((wr .i64 ((e1.1.length : Nat) - 1)).toNat)).Head).Retry) (((gd e1.1 ((wr .i64 ((e1.1.length : Nat) - 1)).toNat)).Head).Sleep) (((gd e1.1 ((wr .i64 ((e1.1.length : Nat) - 1)).toNat)).Head).MoreData) (((gd e1.1 ((wr .i64 ((e1.1.length : Nat) - 1)).toNat)).Head).Protected) (((gd e1.1 ((wr .i64 ((e1.1.length : Nat) - 1)).toNat)).Head).Duration) (A6u8.mk ((((gd e1.1 ((wr .i64 ((e1.1.length : Nat) - 1)).toNat)).Head).A1).x0) ((((gd e1.1 ((wr .i64 ((e1.1.length : Nat) - 1)).toNat)).Head).A1).x1) ((((gd e1.1 ((wr .i64 ((e1.1.length : Nat) - 1)).toNat)).Head).A1).x2) ((((gd e1.1 ((wr .i64 ((e1.1.length : Nat) - 1)).toNat)).Head).A1).x3) ((((gd e1.1 ((wr .i64 ((e1.1.length : Nat) - 1)).toNat)).Head).A1).x4) ((((gd e1.1 ((wr .i64 ((e1.1.length : Nat) - 1)).toNat)).Head).A1).x5)) (A6u8.mk ((((gd e1.1 ((wr .i64 ((e1.1.length : Nat) - 1)).toNat)).Head).A2).x0) ((((gd e1.1 ((wr .i64 ((e1.1.length : Nat) - 1)).toNat)).Head).A2).x1) ((((gd e1.1 ((wr .i64 ((e1.1.length : Nat) - 1)).toNat)).Head).A2).x2) ((((gd e1.1 ((wr .i64 ((e1.1.length : Nat) - 1)).toNat)).Head).A2).x3) ((((gd e1.1 ((wr .i64 ((e1.1.length : Nat) - 1)).toNat)).Head).A2).x4) ((((gd e1.1 ((wr .i64 ((e1.1.length : Nat) - 1)).toNat)).Head).A2).x5)) (A6u8.mk ((((gd e1.1 ((wr .i64 ((e1.1.length : Nat) - 1)).toNat)).Head).A3).x0) ((((gd e1.1 ((wr .i64 ((e1.1.length : Nat) - 1)).toNat)).Head).A3).x1) ((((gd e1.1 ((wr .i64 ((e1.1.length : Nat) - 1)).toNat)).Head).A3).x2) ((((gd e1.1 ((wr .i64 ((e1.1.length : Nat) - 1)).toNat)).Head).A3).x3) ((((gd e1.1 ((wr .i64 ((e1.1.length : Nat) - 1)).toNat)).Head).A3).x4) ((((gd e1.1 ((wr .i64 ((e1.1.length : Nat) - 1)).toNat)).Head).A3).x5)) (A6u8.mk ((((gd e1.1 ((wr .i64 ((e1.1.length : Nat) - 1)).toNat)).Head).A4).x0) ((((gd e1.1 ((wr .i64 ((e1.1.length : Nat) - 1)).toNat)).Head).A4).x1) ((((gd e1.1 ((wr .i64 ((e1.1.length : Nat) - 1)).toNat)).Head).A4).x2) ((((gd e1.1 ((wr .i64 ((e1.1.length : Nat) - 1)).toNat)).Head).A4).x3) ((((gd e1.1 ((wr .i64 ((e1.1.length : Nat) - 1)).toNat)).Head).A4).x4) ((((gd e1.1 ((wr .i64 ((e1.1.length : Nat) - 1)).toNat)).Head).A4).x5)) (((gd e1.1 ((wr .i64 ((e1.1.length : Nat) - 1)).toNat)).Head).Seq) (((gd e1.1 ((wr .i64 ((e1.1.length : Nat) - 1)).toNat)).Head).Frag) (((gd e1.1 ((wr .i64 ((e1.1.length : Nat) - 1)).toNat)).Head).Tid) (((gd e1.1 ((wr .i64 ((e1.1.length : Nat) - 1)).toNat)).Head).Ack) (((gd e1.1 ((wr .i64 ((e1.1.length : Nat) - 1)).toNat)).Head).Amsdu) true) ((gd e1.1 ((wr .i64 ((e1.1.length : Nat) - 1)).toNat)).Body))) ((wr .i64 ((e1.1.length : Nat) - 1)).toNat))))).bind fun w41 => some ((TPeriod.mk p2 w41), (TBuffer.mk r11.Limit r11.Stay w39 r11.Group), 0))) some))))
noncomputable def body29 : List AV -> Nat -> AR
  | [v0, v1, v2, v3, v4], _ => .pure (aK 4 k_TBuffer v0 /\ aK 3 k_TTriggerPlan v1 /\ iK .i64 v2 /\ aK 6 k_A6u8 v3 /\ aK 6 k_A6u8 v4 /\ (F29 (g_TBuffer (aL v0)) (g_TTriggerPlan (aL v1)) (iA v2) (g_A6u8 (aL v3)) (g_A6u8 (aL v4))).isSome = true) (.tup [.agg [.int .i64 (((gt (F29 (g_TBuffer (aL v0)) (g_TTriggerPlan (aL v1)) (iA v2) (g_A6u8 (aL v3)) (g_A6u8 (aL v4)))).1).Aid), .ro 41 ((((gt (F29 (g_TBuffer (aL v0)) (g_TTriggerPlan (aL v1)) (iA v2) (g_A6u8 (aL v3)) (g_A6u8 (aL v4)))).1).Left).length) false (enR c_TFrame (((gt (F29 (g_TBuffer (aL v0)) (g_TTriggerPlan (aL v1)) (iA v2) (g_A6u8 (aL v3)) (g_A6u8 (aL v4)))).1).Left))], .agg [.int .i64 (((gt (F29 (g_TBuffer (aL v0)) (g_TTriggerPlan (aL v1)) (iA v2) (g_A6u8 (aL v3)) (g_A6u8 (aL v4)))).2.1).Limit), .int .i64 (((gt (F29 (g_TBuffer (aL v0)) (g_TTriggerPlan (aL v1)) (iA v2) (g_A6u8 (aL v3)) (g_A6u8 (aL v4)))).2.1).Stay), .ro 3 ((((gt (F29 (g_TBuffer (aL v0)) (g_TTriggerPlan (aL v1)) (iA v2) (g_A6u8 (aL v3)) (g_A6u8 (aL v4)))).2.1).List).length) false (enR c_TSleeper (((gt (F29 (g_TBuffer (aL v0)) (g_TTriggerPlan (aL v1)) (iA v2) (g_A6u8 (aL v3)) (g_A6u8 (aL v4)))).2.1).List)), .ro 43 ((((gt (F29 (g_TBuffer (aL v0)) (g_TTriggerPlan (aL v1)) (iA v2) (g_A6u8 (aL v3)) (g_A6u8 (aL v4)))).2.1).Group).length) false (enR c_TStored (((gt (F29 (g_TBuffer (aL v0)) (g_TTriggerPlan (aL v1)) (iA v2) (g_A6u8 (aL v3)) (g_A6u8 (aL v4)))).2.1).Group))], .int .i64 ((gt (F29 (g_TBuffer (aL v0)) (g_TTriggerPlan (aL v1)) (iA v2) (g_A6u8 (aL v3)) (g_A6u8 (aL v4)))).2.2)])
  | _, _ => .fail
set_option maxHeartbeats 4000000 in
set_option maxRecDepth 20000 in
theorem ok29 : FnOk Try.prog 29 (genC body29) := by
  refine gen_fn body29 (rs := [.cell 10 33, .cell 11 52, .tmp 12]) Try.func29 (by kernel_rfl) rfl rfl ?_
  intro l s ob v ns hb hob
  rcases hb with ⟨hb, rfl⟩ | hb
  · unfold body29 at hb
    split at hb
    · rename_i v0 v1 v2 v3 v4
      injection hb with q1 q2; subst q1 q2
      obtain ⟨hk0_0, hk1_0, hk2_0, hk3_0, hk4_0, hob⟩ := hob
      obtain ⟨r, H⟩ := Option.isSome_iff_exists.1 hob
      rw [H, gt_some]
      have hw0 := wA_TBuffer hk0_0
      have hw1 := wA_TTriggerPlan hk1_0
      have hw2 := iK_wk hk2_0
      have hw3 := wA_A6u8 hk3_0
      have hw4 := wA_A6u8 hk4_0
      generalize g_TBuffer (aL v0) = p0 at H hw0
      generalize g_TTriggerPlan (aL v1) = p1 at H hw1
      generalize iA v2 = p2 at H hw2
      generalize g_A6u8 (aL v3) = p3 at H hw3
      generalize g_A6u8 (aL v4) = p4 at H hw4
      refine ⟨[.agg [.int .i64 p0.Limit, .int .i64 p0.Stay, .ro 3 p0.List.length false (enR c_TSleeper p0.List), .ro 43 p0.Group.length false (enR c_TStored p0.Group)], .agg [.int .u8 p1.Start, .int .u8 p1.Deliver, .int .i64 p1.Most], .int .i64 p2, .agg [.int .u8 p3.x0, .int .u8 p3.x1, .int .u8 p3.x2, .int .u8 p3.x3, .int .u8 p3.x4, .int .u8 p3.x5], .agg [.int .u8 p4.x0, .int .u8 p4.x1, .int .u8 p4.x2, .int .u8 p4.x3, .int .u8 p4.x4, .int .u8 p4.x5]], .tup [.agg [.int .i64 r.1.Aid, .ro 41 r.1.Left.length false (enR c_TFrame r.1.Left)], .agg [.int .i64 r.2.1.Limit, .int .i64 r.2.1.Stay, .ro 3 r.2.1.List.length false (enR c_TSleeper r.2.1.List), .ro 43 r.2.1.Group.length false (enR c_TStored r.2.1.Group)], .int .i64 r.2.2], [], (fun E vs F => FR_wk1 hw0.1 F (fun vs F => FR_wk1 hw1.1 F (fun vs F => FR_wk1 hw2.1 F (fun vs F => FR_wk1 hw3.1 F (fun vs F => FR_wk1 hw4.1 F (fun vs F => F)))))), by simp only [ren, renL], trivial, ?_⟩
      rw [Try.ntmps29]
      simp only [List.length_cons, List.length_nil, Nat.reduceAdd, Nat.reduceSub, List.replicate_succ, List.replicate_zero, List.cons_append, List.nil_append]
      unfold F29 at H
      try dsimp only at H
      refine sq ctNo_ok ?_
      simp only [go_sem, Nat.reduceLeDiff, Nat.reduceLT, Nat.reduceAdd, Nat.reduceMul, Nat.reduceSub, Nat.reduceEqDiff, Nat.reduceBEq, Int.reduceToNat, reduceCtorEq, upc_ii]
      refine seqM ?_
      refine seqM ?_
      obtain ⟨r1, e2, H⟩ := bsi H
      obtain ⟨f3, H⟩ := need_some.1 H
      replace f3 := g_iff.1 f3
      refine rg ct29t0_ok ?_
      simp only [go_sem, Nat.reduceLeDiff, Nat.reduceLT, Nat.reduceAdd, Nat.reduceMul, Nat.reduceSub, Nat.reduceEqDiff, Nat.reduceBEq, Int.reduceToNat, reduceCtorEq, upc_ii, ct29t0_20, body20, ct29t0_34, body34, e2]
      repeat ((with_reducible refine And.intro ?_ ?_); focus (first | (with_reducible trivial) | omega | exact f3 | (intro g; have q := f3 (by first | exact g | (rw [g]; rfl) | simpa using g); first | exact q | exact ⟨q.1, q.2.1⟩ | exact q.2.2 | omega | exact ⟨g, q⟩ | exact ⟨trivial, q⟩ | exact ⟨g, q.1, q.2.1⟩ | exact ⟨g, q.2.2⟩) | (intro g; (try have q0 := f3 (by first | exact g | (rw [g]; rfl) | simpa using g)); and_intros <;> first | (with_reducible trivial) | assumption | exact nfc | (intro g2; rw [g, g2]; rfl) | (intro g2; assumption) | (simp only [g, Bool.true_and, Bool.and_true, Bool.not_false, Bool.not_true]; assumption) | grind) | (and_intros <;> first | (with_reducible trivial) | omega | assumption | exact nfc | first | exact rfl | exact trivial | exact fitI | exact .inr rfl | exact .inl rfl | exact fun x hx => absurd hx (by omega)) | grind))
      refine condM rfl trivial (fun hc => ?_) (fun hc => ?_)
      · have hk4 : ((!bEq r1 0) || (!bEq (gt (F20 p1)) 0)) = true := by simpa using hc
        replace H := cond_t hc H
        refine sq ctNo_ok ?_
        simp only [go_sem, Nat.reduceLeDiff, Nat.reduceLT, Nat.reduceAdd, Nat.reduceMul, Nat.reduceSub, Nat.reduceEqDiff, Nat.reduceBEq, Int.reduceToNat, reduceCtorEq, upc_ii]
        repeat ((with_reducible refine And.intro ?_ ?_); focus exact an5)
        refine rg ctNo_ok ?_
        simp only [go_sem, Nat.reduceLeDiff, Nat.reduceLT, Nat.reduceAdd, Nat.reduceMul, Nat.reduceSub, Nat.reduceEqDiff, Nat.reduceBEq, Int.reduceToNat, reduceCtorEq, upc_ii]
        obtain rfl := Option.some.inj H
        refine ⟨[0, 1, 2, 3, 4, 5, 6], ?_, ?_, [], ?_, ?_, rfl⟩
        · simp only [go_sem, Nat.reduceEqDiff, Nat.reduceBEq, Nat.reduceAdd]
          try exact at0
        · simp only [go_sem, Nat.reduceEqDiff, Nat.reduceBEq, Nat.reduceAdd]
          try exact at0
        · simp only [go_sem, Nat.reduceEqDiff, Nat.reduceBEq, Nat.reduceAdd]
          exact Cv_tup (CvL_cons (Cv_agg (CvL_cons Cv_int (CvL_cons (Cv_ronil (α := TFrame)) CvL_nil))) (CvL_cons (Cv_agg (CvL_cons Cv_int (CvL_cons Cv_int (CvL_cons (Cv_ronil (α := TSleeper)) (CvL_cons (Cv_ronil (α := TStored)) CvL_nil))))) (CvL_cons Cv_int CvL_nil)))
        · simp only [go_sem, Nat.reduceEqDiff, Nat.reduceBEq, Nat.reduceAdd, CvH]
      have hk4 : ((!bEq r1 0) || (!bEq (gt (F20 p1)) 0)) = false := by simpa using hc
      replace H := cond_f hc H
      refine rg ctNo_ok ?_
      simp only [go_sem, Nat.reduceLeDiff, Nat.reduceLT, Nat.reduceAdd, Nat.reduceMul, Nat.reduceSub, Nat.reduceEqDiff, Nat.reduceBEq, Int.reduceToNat, reduceCtorEq, upc_ii]
      refine seqM ?_
      refine sq ctNo_ok ?_
      simp only [go_sem, Nat.reduceLeDiff, Nat.reduceLT, Nat.reduceAdd, Nat.reduceMul, Nat.reduceSub, Nat.reduceEqDiff, Nat.reduceBEq, Int.reduceToNat, reduceCtorEq, upc_ii]
      repeat ((with_reducible refine And.intro ?_ ?_); focus exact an5)
      refine condM rfl trivial (fun hc => ?_) (fun hc => ?_)
      · have hk5 : ((bLt p2 1) || (bLt 255 p2)) = true := by simpa using hc
        replace H := cond_t hc H
        refine sq ctNo_ok ?_
        simp only [go_sem, Nat.reduceLeDiff, Nat.reduceLT, Nat.reduceAdd, Nat.reduceMul, Nat.reduceSub, Nat.reduceEqDiff, Nat.reduceBEq, Int.reduceToNat, reduceCtorEq, upc_ii]
        repeat ((with_reducible refine And.intro ?_ ?_); focus exact an5)
        refine rg ctNo_ok ?_
        simp only [go_sem, Nat.reduceLeDiff, Nat.reduceLT, Nat.reduceAdd, Nat.reduceMul, Nat.reduceSub, Nat.reduceEqDiff, Nat.reduceBEq, Int.reduceToNat, reduceCtorEq, upc_ii]
        obtain rfl := Option.some.inj H
        refine ⟨[0, 1, 2, 3, 4, 5, 6], ?_, ?_, [], ?_, ?_, rfl⟩
        · simp only [go_sem, Nat.reduceEqDiff, Nat.reduceBEq, Nat.reduceAdd]
          try exact at0
        · simp only [go_sem, Nat.reduceEqDiff, Nat.reduceBEq, Nat.reduceAdd]
          try exact at0
        · simp only [go_sem, Nat.reduceEqDiff, Nat.reduceBEq, Nat.reduceAdd]
          exact Cv_tup (CvL_cons (Cv_agg (CvL_cons Cv_int (CvL_cons (Cv_ronil (α := TFrame)) CvL_nil))) (CvL_cons (Cv_agg (CvL_cons Cv_int (CvL_cons Cv_int (CvL_cons (Cv_ronil (α := TSleeper)) (CvL_cons (Cv_ronil (α := TStored)) CvL_nil))))) (CvL_cons Cv_int CvL_nil)))
        · simp only [go_sem, Nat.reduceEqDiff, Nat.reduceBEq, Nat.reduceAdd, CvH]
      have hk5 : ((bLt p2 1) || (bLt 255 p2)) = false := by simpa using hc
      replace H := cond_f hc H
      refine rg ctNo_ok ?_
      simp only [go_sem, Nat.reduceLeDiff, Nat.reduceLT, Nat.reduceAdd, Nat.reduceMul, Nat.reduceSub, Nat.reduceEqDiff, Nat.reduceBEq, Int.reduceToNat, reduceCtorEq, upc_ii]
      refine seqM ?_
      obtain ⟨r6, e7, H⟩ := bsi H
      refine rg ct29t1_ok ?_
      simp only [go_sem, Nat.reduceLeDiff, Nat.reduceLT, Nat.reduceAdd, Nat.reduceMul, Nat.reduceSub, Nat.reduceEqDiff, Nat.reduceBEq, Int.reduceToNat, reduceCtorEq, upc_ii, ct29t1_52, body52_1, e7]
      repeat ((with_reducible refine And.intro ?_ ?_); focus exact an0)
      refine seqM ?_
      refine blkM ?_
      refine sq ctNo_ok ?_
      simp only [go_sem, Nat.reduceLeDiff, Nat.reduceLT, Nat.reduceAdd, Nat.reduceMul, Nat.reduceSub, Nat.reduceEqDiff, Nat.reduceBEq, Int.reduceToNat, reduceCtorEq, upc_ii]
      refine condM rfl trivial (fun hc => ?_) (fun hc => ?_)
      · have hk8 : (bLt r6 0) = true := by simpa using hc
        replace H := cond_t hc H
        refine sq ctNo_ok ?_
        simp only [go_sem, Nat.reduceLeDiff, Nat.reduceLT, Nat.reduceAdd, Nat.reduceMul, Nat.reduceSub, Nat.reduceEqDiff, Nat.reduceBEq, Int.reduceToNat, reduceCtorEq, upc_ii]
        repeat ((with_reducible refine And.intro ?_ ?_); focus exact an5)
        refine rg ctNo_ok ?_
        simp only [go_sem, Nat.reduceLeDiff, Nat.reduceLT, Nat.reduceAdd, Nat.reduceMul, Nat.reduceSub, Nat.reduceEqDiff, Nat.reduceBEq, Int.reduceToNat, reduceCtorEq, upc_ii]
        obtain rfl := Option.some.inj H
        refine ⟨[0, 1, 2, 3, 4, 5, 6], ?_, ?_, [], ?_, ?_, rfl⟩
        · simp only [go_sem, Nat.reduceEqDiff, Nat.reduceBEq, Nat.reduceAdd]
          try exact at0
        · simp only [go_sem, Nat.reduceEqDiff, Nat.reduceBEq, Nat.reduceAdd]
          try exact at0
        · simp only [go_sem, Nat.reduceEqDiff, Nat.reduceBEq, Nat.reduceAdd]
          exact Cv_tup (CvL_cons (Cv_agg (CvL_cons Cv_int (CvL_cons (Cv_ronil (α := TFrame)) CvL_nil))) (CvL_cons (Cv_agg (CvL_cons Cv_int (CvL_cons Cv_int (CvL_cons (Cv_ronil (α := TSleeper)) (CvL_cons (Cv_ronil (α := TStored)) CvL_nil))))) (CvL_cons Cv_int CvL_nil)))
        · simp only [go_sem, Nat.reduceEqDiff, Nat.reduceBEq, Nat.reduceAdd, CvH]
      have hk8 : (bLt r6 0) = false := by simpa using hc
      replace H := cond_f hc H
      refine seqM ?_
      obtain ⟨f9, H⟩ := need_some.1 H
      replace f9 := inb_iff.1 f9
      refine rg ctNo_ok ?_
      simp only [go_sem, Nat.reduceLeDiff, Nat.reduceLT, Nat.reduceAdd, Nat.reduceMul, Nat.reduceSub, Nat.reduceEqDiff, Nat.reduceBEq, Int.reduceToNat, reduceCtorEq, upc_ii, f9]
      repeat ((with_reducible refine And.intro ?_ ?_); focus exact an5)
      refine condM rfl trivial (fun hc => ?_) (fun hc => ?_)
      · have hk10 : ((gd p0.List r6.toNat).Asleep) = false := by simpa using hc
        replace H := cond_t hc H
        refine sq ctNo_ok ?_
        simp only [go_sem, Nat.reduceLeDiff, Nat.reduceLT, Nat.reduceAdd, Nat.reduceMul, Nat.reduceSub, Nat.reduceEqDiff, Nat.reduceBEq, Int.reduceToNat, reduceCtorEq, upc_ii]
        repeat ((with_reducible refine And.intro ?_ ?_); focus exact an5)
        refine rg ctNo_ok ?_
        simp only [go_sem, Nat.reduceLeDiff, Nat.reduceLT, Nat.reduceAdd, Nat.reduceMul, Nat.reduceSub, Nat.reduceEqDiff, Nat.reduceBEq, Int.reduceToNat, reduceCtorEq, upc_ii]
        obtain rfl := Option.some.inj H
        refine ⟨[0, 1, 2, 3, 4, 5, 6], ?_, ?_, [], ?_, ?_, rfl⟩
        · simp only [go_sem, Nat.reduceEqDiff, Nat.reduceBEq, Nat.reduceAdd]
          try exact at0
        · simp only [go_sem, Nat.reduceEqDiff, Nat.reduceBEq, Nat.reduceAdd]
          try exact at0
        · simp only [go_sem, Nat.reduceEqDiff, Nat.reduceBEq, Nat.reduceAdd]
          exact Cv_tup (CvL_cons (Cv_agg (CvL_cons Cv_int (CvL_cons (Cv_ronil (α := TFrame)) CvL_nil))) (CvL_cons (Cv_agg (CvL_cons Cv_int (CvL_cons Cv_int (CvL_cons (Cv_ronil (α := TSleeper)) (CvL_cons (Cv_ronil (α := TStored)) CvL_nil))))) (CvL_cons Cv_int CvL_nil)))
        · simp only [go_sem, Nat.reduceEqDiff, Nat.reduceBEq, Nat.reduceAdd, CvH]
      have hk10 : ((gd p0.List r6.toNat).Asleep) = true := by simpa using hc
      replace H := cond_f hc H
      refine rg ctNo_ok ?_
      simp only [go_sem, Nat.reduceLeDiff, Nat.reduceLT, Nat.reduceAdd, Nat.reduceMul, Nat.reduceSub, Nat.reduceEqDiff, Nat.reduceBEq, Int.reduceToNat, reduceCtorEq, upc_ii]
      refine seqM ?_
      obtain ⟨r11, e12, H⟩ := bsi H
      refine rg (ct29t2_ok r6.toNat) ?_
      simp only [go_sem, Nat.reduceLeDiff, Nat.reduceLT, Nat.reduceAdd, Nat.reduceMul, Nat.reduceSub, Nat.reduceEqDiff, Nat.reduceBEq, Int.reduceToNat, reduceCtorEq, upc_ii, ct29t2_54, body54f, e12]
      repeat ((with_reducible refine And.intro ?_ ?_); focus exact an0)
      refine seqM ?_
      obtain ⟨f13, H⟩ := need_some.1 H
      replace f13 := inb_iff.1 f13
      refine draw_rule shT_ok ctNo_ok 1 (by kernel_rfl) (by kernel_rfl) ?_
      intro an han
      simp only [d_nil, d_cons, nxtD, xrD, xoD, roEq, minL, List.append_nil, refsOp, refs, refsL, mask, maskF, place, placeF, okLog, pairOk, hit, inL, slotsF, ren, renL, rnN, nrH, nrB, nrL, nr, dead0, deadS, List.replicate_zero, List.replicate_succ, Nat.sub_self, Nat.add_zero, Nat.zero_add, Nat.reduceSub, Nat.not_lt_zero, Nat.zero_le, Nat.lt_add_one, go_sem, Nat.reduceLeDiff, Nat.reduceLT, Nat.reduceAdd, Nat.reduceMul, Nat.reduceSub, Nat.reduceEqDiff, Nat.reduceBEq, Int.reduceToNat, reduceCtorEq, upc_ii, f13]
      repeat ((with_reducible refine And.intro ?_ ?_); focus exact an6)
      refine sq ctNo_ok ?_
      simp only [go_sem, Nat.reduceLeDiff, Nat.reduceLT, Nat.reduceAdd, Nat.reduceMul, Nat.reduceSub, Nat.reduceEqDiff, Nat.reduceBEq, Int.reduceToNat, reduceCtorEq, upc_ii]
      repeat ((with_reducible refine And.intro ?_ ?_); focus exact an5)
      refine seqM ?_
      refine blkM ?_
      refine loop_den (fun s : (List TFrame) × (List TStored) => (tp 5 (.ptr 0 0 0 0 :: .ptr 1 0 0 0 :: .top :: .ptr 3 0 0 0 :: .ptr 4 0 0 0 :: .ptr 5 0 0 0 :: .ptr 6 0 0 0 :: .top :: .int .i64 r6 :: .ptr 10 0 0 0 :: tp 125 []))) (fun s => [.lit 52 [.int .i64 r11.Limit, .int .i64 r11.Stay, .sl 7 3 0 r11.List.length false, .sl 9 43 0 r11.Group.length false], .lit 23 [.int .u8 p1.Start, .int .u8 p1.Deliver, .int .i64 p1.Most], .dead, .lit 25 [.int .u8 p3.x0, .int .u8 p3.x1, .int .u8 p3.x2, .int .u8 p3.x3, .int .u8 p3.x4, .int .u8 p3.x5], .lit 25 [.int .u8 p4.x0, .int .u8 p4.x1, .int .u8 p4.x2, .int .u8 p4.x3, .int .u8 p4.x4, .int .u8 p4.x5], .lit 33 [.int .i64 p2, .sl 11 41 0 s.1.length false], .lit 52 [.int .i64 0, .int .i64 0, .ro 0 0 true (fun _ _ => .top), .ro 0 0 true (fun _ _ => .top)], .row 71 3 r11.List.length (upc (enR c_TSleeper r11.List) r6.toNat 2 [.sl 8 43 0 (((gd r11.List r6.toNat).Held).length) false]), .dead, .row 73 43 r11.Group.length (enR c_TStored r11.Group), .lit 103 [.sl 12 43 0 s.2.length false, .int .u8 p1.Deliver], .row 30 41 s.1.length (enR c_TFrame s.1), .row 73 43 s.2.length (enR c_TStored s.2)]) (fun e : (List TFrame) × (List TStored) => (tp 5 (.ptr 0 0 0 0 :: .top :: .top :: .ptr 3 0 0 0 :: .ptr 4 0 0 0 :: .ptr 5 0 0 0 :: .ptr 6 0 0 0 :: .top :: .int .i64 r6 :: .ptr 10 0 0 0 :: tp 125 []))) (fun e => [.lit 52 [.int .i64 r11.Limit, .int .i64 r11.Stay, .sl 7 3 0 r11.List.length false, .sl 9 43 0 r11.Group.length false], .dead, .dead, .lit 25 [.int .u8 p3.x0, .int .u8 p3.x1, .int .u8 p3.x2, .int .u8 p3.x3, .int .u8 p3.x4, .int .u8 p3.x5], .lit 25 [.int .u8 p4.x0, .int .u8 p4.x1, .int .u8 p4.x2, .int .u8 p4.x3, .int .u8 p4.x4, .int .u8 p4.x5], .lit 33 [.int .i64 p2, .sl 11 41 0 e.1.length false], .lit 52 [.int .i64 0, .int .i64 0, .ro 0 0 true (fun _ _ => .top), .ro 0 0 true (fun _ _ => .top)], .row 71 3 r11.List.length (upc (enR c_TSleeper r11.List) r6.toNat 2 [.sl 8 43 0 (((gd r11.List r6.toNat).Held).length) false]), .dead, .row 73 43 r11.Group.length (enR c_TStored r11.Group), .lit 103 [.sl 12 43 0 e.2.length false, .int .u8 p1.Deliver], .row 30 41 e.1.length (enR c_TFrame e.1), .row 73 43 e.2.length (enR c_TStored e.2)]) H ?_ (fun s o H hn1_1 hn2_1 => ?_) (fun e H => ?_)
      · refine SubF_of ⟨[some 0, some 1, some 2, some 3, some 4, some 5, some 6, some 7, some 8, some 9, some 10, none, some 8], ?_, ?_, by rfl, by rfl⟩
        · simp [CvL, Cv, getM, tp, tp, tpg, t8]
        · exact ⟨cv, cv, CvB_dead, cv, cv, cv, cv, (CvB_focG (i := r6.toNat) (L := r11.List) nr_TSleeper (fun x y hx => by simp only [upc_ne hx]) (fun y hy => match y, hy with | 0, _ => by simp [upc_ii, getL, Cv, getM, enR, c_TSleeper] | 1, _ => by simp [upc_ii, getL, Cv, getM, enR, c_TSleeper] | 2, _ => by simp [upc_ii, getL, Cv, getM, enR, c_TSleeper] | (y+3), h => absurd h nlt)), CvB_dead, (CvB_same nfA), cv, CvB_none, CvB_row nr_TStored cl (fun _ _ _ _ => rfl), trivial⟩
      · obtain ⟨v1_1, v1_2⟩ := s
        unfold F29_L1 at H
        try dsimp only at H ⊢
        try simp only [tp]
        refine seqM ?_
        refine sq ctNo_ok ?_
        simp only [go_sem, Nat.reduceLeDiff, Nat.reduceLT, Nat.reduceAdd, Nat.reduceMul, Nat.reduceSub, Nat.reduceEqDiff, Nat.reduceBEq, Int.reduceToNat, reduceCtorEq, upc_ii]
        repeat ((with_reducible refine And.intro ?_ ?_); focus exact an4)
        refine condM' rfl trivial (fun hc => ?_) (fun hc => ?_)
        · have hk14 : ((bEq p1.Most 0) || (bLt (v1_1.length : Nat) p1.Most)) = false := by simpa using hc
          replace H := cond_f hc H
          refine rg ctNo_ok ?_
          simp only [go_sem, Nat.reduceLeDiff, Nat.reduceLT, Nat.reduceAdd, Nat.reduceMul, Nat.reduceSub, Nat.reduceEqDiff, Nat.reduceBEq, Int.reduceToNat, reduceCtorEq, upc_ii]
          refine ⟨_, (Option.some.inj H).symm, ?_⟩
          refine SubF_of ⟨[some 0, some 1, some 2, some 3, some 4, some 5, some 6, some 7, some 8, some 9, some 10, some 11, some 12], ?_, ?_, by rfl, by rfl⟩
          · simp [CvL, Cv, getM, tp, tp, tpg, t8]
          · exact ⟨cv, CvB_dead, CvB_dead, cv, cv, cv, cv, (CvB_focG (i := r6.toNat) (L := r11.List) nr_TSleeper (fun x y hx => by simp only [upc_ne hx]) (fun y hy => match y, hy with | 0, _ => by simp [upc_ii, getL, Cv, getM, enR, c_TSleeper] | 1, _ => by simp [upc_ii, getL, Cv, getM, enR, c_TSleeper] | 2, _ => by simp [upc_ii, getL, Cv, getM, enR, c_TSleeper] | (y+3), h => absurd h nlt)), CvB_dead, (CvB_same nfA), cv, CvB_row nr_TFrame cl (fun _ _ _ _ => rfl), CvB_row nr_TStored cl (fun _ _ _ _ => rfl), trivial⟩
        have hk14 : ((bEq p1.Most 0) || (bLt (v1_1.length : Nat) p1.Most)) = true := by simpa using hc
        replace H := cond_t hc H
        refine rg ctNo_ok ?_
        simp only [go_sem, Nat.reduceLeDiff, Nat.reduceLT, Nat.reduceAdd, Nat.reduceMul, Nat.reduceSub, Nat.reduceEqDiff, Nat.reduceBEq, Int.reduceToNat, reduceCtorEq, upc_ii]
        refine blkM ?_
        refine seqM ?_
        refine regO ?_
        refine cutO shT_ok ctNo_ok 1 ?_
        simp only [kO_normal, List.take_succ_cons, List.take_zero, List.drop_succ_cons, List.drop_zero, go_sem, Nat.reduceLeDiff, Nat.reduceLT, Nat.reduceAdd, Nat.reduceMul, Nat.reduceSub, Nat.reduceEqDiff, Nat.reduceBEq, Int.reduceToNat, reduceCtorEq, upc_ii]
        repeat ((with_reducible refine And.intro ?_ ?_); focus exact an0)
        refine inlO (rs := [.cell 2 30, .tmp 3]) Try.func55 (by kernel_rfl) rfl rfl Try.ntmps55 (caps := []) (tc := [.ptr 10 0 0 0]) rfl (by simp only [go_sem, Nat.reduceLeDiff, Nat.reduceLT, Nat.reduceAdd, Nat.reduceMul, Nat.reduceSub, Nat.reduceEqDiff, Nat.reduceBEq, Int.reduceToNat, reduceCtorEq]) rfl ?_
        simp only [List.length_cons, List.length_nil, Nat.reduceAdd, Nat.reduceSub, List.replicate_succ, List.replicate_zero, List.cons_append, List.nil_append]
        refine sq ctNo_ok ?_
        simp only [go_sem, Nat.reduceLeDiff, Nat.reduceLT, Nat.reduceAdd, Nat.reduceMul, Nat.reduceSub, Nat.reduceEqDiff, Nat.reduceBEq, Int.reduceToNat, reduceCtorEq, upc_ii]
        refine sq ctNo_ok ?_
        simp only [go_sem, Nat.reduceLeDiff, Nat.reduceLT, Nat.reduceAdd, Nat.reduceMul, Nat.reduceSub, Nat.reduceEqDiff, Nat.reduceBEq, Int.reduceToNat, reduceCtorEq, upc_ii]
        refine seqM ?_
        refine sq ctNo_ok ?_
        simp only [go_sem, Nat.reduceLeDiff, Nat.reduceLT, Nat.reduceAdd, Nat.reduceMul, Nat.reduceSub, Nat.reduceEqDiff, Nat.reduceBEq, Int.reduceToNat, reduceCtorEq, upc_ii]
        repeat ((with_reducible refine And.intro ?_ ?_); focus exact an0)
        refine blkM ?_
        refine loop_den (fun s : Int × Int => (.ptr 10 0 0 0 :: .top :: .ptr 13 0 0 0 :: .top :: .int .i64 s.1 :: tp 6 (.sl 12 43 0 v1_2.length false :: .int .i64 (v1_2.length : Nat) :: .int .i64 s.2 :: tp 49 []))) (fun s => [.lit 52 [.int .i64 r11.Limit, .int .i64 r11.Stay, .sl 7 3 0 r11.List.length false, .sl 9 43 0 r11.Group.length false], .lit 23 [.int .u8 p1.Start, .int .u8 p1.Deliver, .int .i64 p1.Most], .dead, .lit 25 [.int .u8 p3.x0, .int .u8 p3.x1, .int .u8 p3.x2, .int .u8 p3.x3, .int .u8 p3.x4, .int .u8 p3.x5], .lit 25 [.int .u8 p4.x0, .int .u8 p4.x1, .int .u8 p4.x2, .int .u8 p4.x3, .int .u8 p4.x4, .int .u8 p4.x5], .lit 33 [.int .i64 p2, .sl 11 41 0 v1_1.length false], .lit 52 [.int .i64 0, .int .i64 0, .ro 0 0 true (fun _ _ => .top), .ro 0 0 true (fun _ _ => .top)], .row 71 3 r11.List.length (upc (enR c_TSleeper r11.List) r6.toNat 2 [.sl 8 43 0 (((gd r11.List r6.toNat).Held).length) false]), .dead, .row 73 43 r11.Group.length (enR c_TStored r11.Group), .lit 103 [.sl 12 43 0 v1_2.length false, .int .u8 p1.Deliver], .row 30 41 v1_1.length (enR c_TFrame v1_1), .row 73 43 v1_2.length (enR c_TStored v1_2), .lit 30 (.int .u8 0 :: .int .u8 0 :: .bool false :: .bool false :: .bool false :: .bool false :: .bool false :: .bool false :: .bool false :: .int .i64 0 :: .int .u8 0 :: .int .u8 0 :: .int .u8 0 :: .int .u8 0 :: .int .u8 0 :: .int .u8 0 :: .int .u8 0 :: .int .u8 0 :: .int .u8 0 :: .int .u8 0 :: .int .u8 0 :: .int .u8 0 :: .int .u8 0 :: .int .u8 0 :: .int .u8 0 :: .int .u8 0 :: .int .u8 0 :: .int .u8 0 :: .int .u8 0 :: .int .u8 0 :: .int .u8 0 :: .int .u8 0 :: .int .u8 0 :: .int .u8 0 :: .int .i64 0 :: .int .i64 0 :: .int .i64 0 :: .int .u8 0 :: .bool false :: .bool false :: .ro 0 0 true (fun _ _ => .top) :: [])]) (fun e : Int => (.ptr 10 0 0 0 :: .top :: .ptr 13 0 0 0 :: .top :: .int .i64 e :: tp 58 [])) (fun e => [.lit 52 [.int .i64 r11.Limit, .int .i64 r11.Stay, .sl 7 3 0 r11.List.length false, .sl 9 43 0 r11.Group.length false], .lit 23 [.int .u8 p1.Start, .int .u8 p1.Deliver, .int .i64 p1.Most], .dead, .lit 25 [.int .u8 p3.x0, .int .u8 p3.x1, .int .u8 p3.x2, .int .u8 p3.x3, .int .u8 p3.x4, .int .u8 p3.x5], .lit 25 [.int .u8 p4.x0, .int .u8 p4.x1, .int .u8 p4.x2, .int .u8 p4.x3, .int .u8 p4.x4, .int .u8 p4.x5], .lit 33 [.int .i64 p2, .sl 11 41 0 v1_1.length false], .lit 52 [.int .i64 0, .int .i64 0, .ro 0 0 true (fun _ _ => .top), .ro 0 0 true (fun _ _ => .top)], .row 71 3 r11.List.length (upc (enR c_TSleeper r11.List) r6.toNat 2 [.sl 8 43 0 (((gd r11.List r6.toNat).Held).length) false]), .dead, .row 73 43 r11.Group.length (enR c_TStored r11.Group), .lit 103 [.sl 12 43 0 v1_2.length false, .int .u8 p1.Deliver], .row 30 41 v1_1.length (enR c_TFrame v1_1), .row 73 43 v1_2.length (enR c_TStored v1_2), .lit 30 (.int .u8 0 :: .int .u8 0 :: .bool false :: .bool false :: .bool false :: .bool false :: .bool false :: .bool false :: .bool false :: .int .i64 0 :: .int .u8 0 :: .int .u8 0 :: .int .u8 0 :: .int .u8 0 :: .int .u8 0 :: .int .u8 0 :: .int .u8 0 :: .int .u8 0 :: .int .u8 0 :: .int .u8 0 :: .int .u8 0 :: .int .u8 0 :: .int .u8 0 :: .int .u8 0 :: .int .u8 0 :: .int .u8 0 :: .int .u8 0 :: .int .u8 0 :: .int .u8 0 :: .int .u8 0 :: .int .u8 0 :: .int .u8 0 :: .int .u8 0 :: .int .u8 0 :: .int .i64 0 :: .int .i64 0 :: .int .i64 0 :: .int .u8 0 :: .bool false :: .bool false :: .ro 0 0 true (fun _ _ => .top) :: [])]) H ?_ (fun s o H hn1_2 hn2_2 => ?_) (fun w2_3 H => ?_)
        · refine SubF_of ⟨[some 0, some 1, some 2, some 3, some 4, some 5, some 6, some 7, some 8, some 9, some 10, some 11, some 12, some 13], ?_, ?_, by rfl, by rfl⟩
          · simp [CvL, Cv, getM, tp, tp, tpg, t8]
          · exact ⟨cv, cv, CvB_dead, cv, cv, cv, cv, (CvB_focG (i := r6.toNat) (L := r11.List) nr_TSleeper (fun x y hx => by simp only [upc_ne hx]) (fun y hy => match y, hy with | 0, _ => by simp [upc_ii, getL, Cv, getM, enR, c_TSleeper] | 1, _ => by simp [upc_ii, getL, Cv, getM, enR, c_TSleeper] | 2, _ => by simp [upc_ii, getL, Cv, getM, enR, c_TSleeper] | (y+3), h => absurd h nlt)), CvB_dead, (CvB_same nfA), cv, (CvB_same nfA), (CvB_same nfA), cv, trivial⟩
        · obtain ⟨v2_1, v2_2⟩ := s
          unfold F29_L2 at H
          try dsimp only at H ⊢
          try simp only [tp]
          refine sq ctNo_ok ?_
          simp only [go_sem, Nat.reduceLeDiff, Nat.reduceLT, Nat.reduceAdd, Nat.reduceMul, Nat.reduceSub, Nat.reduceEqDiff, Nat.reduceBEq, Int.reduceToNat, reduceCtorEq, upc_ii]
          refine seqM ?_
          refine condM' rfl trivial (fun hc => ?_) (fun hc => ?_)
          · have hk15 : (bLt v2_2 (v1_2.length : Nat)) = false := by simpa using hc
            replace H := cond_f hc H
            refine rg ctNo_ok ?_
            simp only [go_sem, Nat.reduceLeDiff, Nat.reduceLT, Nat.reduceAdd, Nat.reduceMul, Nat.reduceSub, Nat.reduceEqDiff, Nat.reduceBEq, Int.reduceToNat, reduceCtorEq, upc_ii]
            refine ⟨_, (Option.some.inj H).symm, ?_⟩
            refine SubF_of ⟨[some 0, some 1, some 2, some 3, some 4, some 5, some 6, some 7, some 8, some 9, some 10, some 11, some 12, some 13], ?_, ?_, by rfl, by rfl⟩
            · simp [CvL, Cv, getM, tp, tp, tpg, t8]
            · exact ⟨cv, cv, CvB_dead, cv, cv, cv, cv, (CvB_focG (i := r6.toNat) (L := r11.List) nr_TSleeper (fun x y hx => by simp only [upc_ne hx]) (fun y hy => match y, hy with | 0, _ => by simp [upc_ii, getL, Cv, getM, enR, c_TSleeper] | 1, _ => by simp [upc_ii, getL, Cv, getM, enR, c_TSleeper] | 2, _ => by simp [upc_ii, getL, Cv, getM, enR, c_TSleeper] | (y+3), h => absurd h nlt)), CvB_dead, (CvB_same nfA), cv, (CvB_same nfA), (CvB_same nfA), cv, trivial⟩
          have hk15 : (bLt v2_2 (v1_2.length : Nat)) = true := by simpa using hc
          replace H := cond_t hc H
          refine rg ctNo_ok ?_
          simp only [go_sem, Nat.reduceLeDiff, Nat.reduceLT, Nat.reduceAdd, Nat.reduceMul, Nat.reduceSub, Nat.reduceEqDiff, Nat.reduceBEq, Int.reduceToNat, reduceCtorEq, upc_ii]
          refine seqM ?_
          refine blkM ?_
          refine seqM ?_
          obtain ⟨f16, H⟩ := need_some.1 H
          replace f16 := inb_iff.1 f16
          refine rg ctNo_ok ?_
          simp only [go_sem, Nat.reduceLeDiff, Nat.reduceLT, Nat.reduceAdd, Nat.reduceMul, Nat.reduceSub, Nat.reduceEqDiff, Nat.reduceBEq, Int.reduceToNat, reduceCtorEq, upc_ii, f16]
          repeat ((with_reducible refine And.intro ?_ ?_); focus exact an5)
          refine seqM ?_
          obtain ⟨r17, e18, H⟩ := bsi H
          obtain ⟨f19, H⟩ := need_some.1 H
          replace f19 := g_iff.1 f19
          replace f19 := fun g => inb_iff.1 (f19 g)
          refine draw_quiet shT_ok ct29t3_ok (by kernel_rfl) (by kernel_rfl) ?_
          simp only [go_sem, Nat.reduceLeDiff, Nat.reduceLT, Nat.reduceAdd, Nat.reduceMul, Nat.reduceSub, Nat.reduceEqDiff, Nat.reduceBEq, Int.reduceToNat, reduceCtorEq, upc_ii, ct29t3_56, body56_0, e18]
          repeat ((with_reducible refine And.intro ?_ ?_); focus (first | (with_reducible trivial) | omega | exact f19 | (intro g; have q := f19 (by first | exact g | (rw [g]; rfl) | simpa using g); first | exact q | exact ⟨q.1, q.2.1⟩ | exact q.2.2 | omega | exact ⟨g, q⟩ | exact ⟨trivial, q⟩ | exact ⟨g, q.1, q.2.1⟩ | exact ⟨g, q.2.2⟩) | (intro g; (try have q0 := f19 (by first | exact g | (rw [g]; rfl) | simpa using g)); and_intros <;> first | (with_reducible trivial) | assumption | exact nfc | (intro g2; rw [g, g2]; rfl) | (intro g2; assumption) | (simp only [g, Bool.true_and, Bool.and_true, Bool.not_false, Bool.not_true]; assumption) | grind) | (and_intros <;> first | (with_reducible trivial) | omega | assumption | exact nfc | first | exact rfl | exact trivial | exact fitI | exact .inr rfl | exact .inl rfl | exact fun x hx => absurd hx (by omega)) | grind))
          refine condM rfl trivial (fun hc => ?_) (fun hc => ?_)
          · have hk20 : (r17 && ((bLt v2_1 0) || (bLt ((gd v1_2 v2_1.toNat).Cat) ((gd v1_2 v2_2.toNat).Cat)))) = true := by first | simpa using hc | simpa only [Bool.not_eq_true', Bool.not_eq_false'] using hc
            replace H := cond_t hc H
            refine rg ctNo_ok ?_
            simp only [go_sem, Nat.reduceLeDiff, Nat.reduceLT, Nat.reduceAdd, Nat.reduceMul, Nat.reduceSub, Nat.reduceEqDiff, Nat.reduceBEq, Int.reduceToNat, reduceCtorEq, upc_ii]
            refine rg ctNo_ok ?_
            simp only [go_sem, Nat.reduceLeDiff, Nat.reduceLT, Nat.reduceAdd, Nat.reduceMul, Nat.reduceSub, Nat.reduceEqDiff, Nat.reduceBEq, Int.reduceToNat, reduceCtorEq, upc_ii]
            refine ⟨_, (Option.some.inj H).symm, ?_⟩
            refine SubF_of ⟨[some 0, some 1, some 2, some 3, some 4, some 5, some 6, some 7, some 8, some 9, some 10, some 11, some 12, some 13], ?_, ?_, by rfl, by rfl⟩
            · simp [CvL, Cv, getM, tp, tp, tpg, t8]
            · exact ⟨cv, cv, CvB_dead, cv, cv, cv, cv, (CvB_focG (i := r6.toNat) (L := r11.List) nr_TSleeper (fun x y hx => by simp only [upc_ne hx]) (fun y hy => match y, hy with | 0, _ => by simp [upc_ii, getL, Cv, getM, enR, c_TSleeper] | 1, _ => by simp [upc_ii, getL, Cv, getM, enR, c_TSleeper] | 2, _ => by simp [upc_ii, getL, Cv, getM, enR, c_TSleeper] | (y+3), h => absurd h nlt)), CvB_dead, (CvB_same nfA), cv, (CvB_same nfA), (CvB_same nfA), cv, trivial⟩
          have hk20 : (r17 && ((bLt v2_1 0) || (bLt ((gd v1_2 v2_1.toNat).Cat) ((gd v1_2 v2_2.toNat).Cat)))) = false := by first | simpa using hc | simpa only [Bool.not_eq_true', Bool.not_eq_false'] using hc
          replace H := cond_f hc H
          refine rg ctNo_ok ?_
          simp only [go_sem, Nat.reduceLeDiff, Nat.reduceLT, Nat.reduceAdd, Nat.reduceMul, Nat.reduceSub, Nat.reduceEqDiff, Nat.reduceBEq, Int.reduceToNat, reduceCtorEq, upc_ii]
          refine rg ctNo_ok ?_
          simp only [go_sem, Nat.reduceLeDiff, Nat.reduceLT, Nat.reduceAdd, Nat.reduceMul, Nat.reduceSub, Nat.reduceEqDiff, Nat.reduceBEq, Int.reduceToNat, reduceCtorEq, upc_ii]
          refine ⟨_, (Option.some.inj H).symm, ?_⟩
          refine SubF_of ⟨[some 0, some 1, some 2, some 3, some 4, some 5, some 6, some 7, some 8, some 9, some 10, some 11, some 12, some 13], ?_, ?_, by rfl, by rfl⟩
          · simp [CvL, Cv, getM, tp, tp, tpg, t8]
          · exact ⟨cv, cv, CvB_dead, cv, cv, cv, cv, (CvB_focG (i := r6.toNat) (L := r11.List) nr_TSleeper (fun x y hx => by simp only [upc_ne hx]) (fun y hy => match y, hy with | 0, _ => by simp [upc_ii, getL, Cv, getM, enR, c_TSleeper] | 1, _ => by simp [upc_ii, getL, Cv, getM, enR, c_TSleeper] | 2, _ => by simp [upc_ii, getL, Cv, getM, enR, c_TSleeper] | (y+3), h => absurd h nlt)), CvB_dead, (CvB_same nfA), cv, (CvB_same nfA), (CvB_same nfA), cv, trivial⟩
        · try dsimp only at H ⊢
          try simp only [tp]
          try simp only [m_normal, k_normal, b_normal, kL_normal, r_normal]
          refine seqM ?_
          refine sq ctNo_ok ?_
          simp only [go_sem, Nat.reduceLeDiff, Nat.reduceLT, Nat.reduceAdd, Nat.reduceMul, Nat.reduceSub, Nat.reduceEqDiff, Nat.reduceBEq, Int.reduceToNat, reduceCtorEq, upc_ii]
          refine condM rfl trivial (fun hc => ?_) (fun hc => ?_)
          · have hk21 : (bLt w2_3 0) = true := by simpa using hc
            replace H := cond_t hc H
            refine sq ctNo_ok ?_
            simp only [go_sem, Nat.reduceLeDiff, Nat.reduceLT, Nat.reduceAdd, Nat.reduceMul, Nat.reduceSub, Nat.reduceEqDiff, Nat.reduceBEq, Int.reduceToNat, reduceCtorEq, upc_ii]
            repeat ((with_reducible refine And.intro ?_ ?_); focus exact an5)
            refine rg ctNo_ok ?_
            simp only [go_sem, Nat.reduceLeDiff, Nat.reduceLT, Nat.reduceAdd, Nat.reduceMul, Nat.reduceSub, Nat.reduceEqDiff, Nat.reduceBEq, Int.reduceToNat, reduceCtorEq, upc_ii]
            refine cutO shT_ok ctNo_ok 6 ?_
            simp only [kO_normal, List.take_succ_cons, List.take_zero, List.drop_succ_cons, List.drop_zero, go_sem, Nat.reduceLeDiff, Nat.reduceLT, Nat.reduceAdd, Nat.reduceMul, Nat.reduceSub, Nat.reduceEqDiff, Nat.reduceBEq, Int.reduceToNat, reduceCtorEq, upc_ii]
            repeat ((with_reducible refine And.intro ?_ ?_); focus exact an0)
            refine endO ?_
            refine seqM ?_
            refine sq ctNo_ok ?_
            simp only [go_sem, Nat.reduceLeDiff, Nat.reduceLT, Nat.reduceAdd, Nat.reduceMul, Nat.reduceSub, Nat.reduceEqDiff, Nat.reduceBEq, Int.reduceToNat, reduceCtorEq, upc_ii]
            refine condM rfl trivial (fun hc => ?_) (fun hc => ?_)
            rotate_left
            · cases hc
            refine rg ctNo_ok ?_
            simp only [go_sem, Nat.reduceLeDiff, Nat.reduceLT, Nat.reduceAdd, Nat.reduceMul, Nat.reduceSub, Nat.reduceEqDiff, Nat.reduceBEq, Int.reduceToNat, reduceCtorEq, upc_ii]
            refine ⟨_, (Option.some.inj H).symm, ?_⟩
            refine SubF_of ⟨[some 0, some 1, some 2, some 3, some 4, some 5, some 6, some 7, some 8, some 9, some 10, some 11, some 12], ?_, ?_, by rfl, by rfl⟩
            · simp [CvL, Cv, getM, tp, tp, tpg, t8]
            · exact ⟨cv, CvB_dead, CvB_dead, cv, cv, cv, cv, (CvB_focG (i := r6.toNat) (L := r11.List) nr_TSleeper (fun x y hx => by simp only [upc_ne hx]) (fun y hy => match y, hy with | 0, _ => by simp [upc_ii, getL, Cv, getM, enR, c_TSleeper] | 1, _ => by simp [upc_ii, getL, Cv, getM, enR, c_TSleeper] | 2, _ => by simp [upc_ii, getL, Cv, getM, enR, c_TSleeper] | (y+3), h => absurd h nlt)), CvB_dead, (CvB_same nfA), cv, CvB_row nr_TFrame cl (fun _ _ _ _ => rfl), CvB_row nr_TStored cl (fun _ _ _ _ => rfl), trivial⟩
          have hk21 : (bLt w2_3 0) = false := by simpa using hc
          replace H := cond_f hc H
          refine rg ctNo_ok ?_
          simp only [go_sem, Nat.reduceLeDiff, Nat.reduceLT, Nat.reduceAdd, Nat.reduceMul, Nat.reduceSub, Nat.reduceEqDiff, Nat.reduceBEq, Int.reduceToNat, reduceCtorEq, upc_ii]
          refine seqM ?_
          obtain ⟨f22, H⟩ := need_some.1 H
          replace f22 := inb_iff.1 f22
          refine rg ctNo_ok ?_
          simp only [go_sem, Nat.reduceLeDiff, Nat.reduceLT, Nat.reduceAdd, Nat.reduceMul, Nat.reduceSub, Nat.reduceEqDiff, Nat.reduceBEq, Int.reduceToNat, reduceCtorEq, upc_ii, f22]
          repeat ((with_reducible refine And.intro ?_ ?_); focus exact an5)
          refine seqM ?_
          obtain ⟨f23, H⟩ := need_some.1 H
          replace f23 := delb_iff.1 f23
          refine rg ct29t4_ok ?_
          simp only [go_sem, Nat.reduceLeDiff, Nat.reduceLT, Nat.reduceAdd, Nat.reduceMul, Nat.reduceSub, Nat.reduceEqDiff, Nat.reduceBEq, Int.reduceToNat, reduceCtorEq, upc_ii, ct29t4_73, delN, f23]
          repeat ((with_reducible refine And.intro ?_ ?_); focus exact an0)
          refine seqM ?_
          obtain ⟨w24, hw25, H⟩ := bsi H
          replace hw25 := Option.some.inj hw25
          have lhw25 : w24.length = v1_2.length - ((wr .i64 (w2_3 + 1)).toNat - w2_3.toNat) := by rw [← hw25]; exact (del_len f23 cl)
          refine subF_mean (t2 := (.top :: .top :: .ptr 13 0 0 0 :: tp 4 (.ptr 14 0 0 0 :: tp 55 []))) (h2 := [.lit 52 [.int .i64 r11.Limit, .int .i64 r11.Stay, .sl 7 3 0 r11.List.length false, .sl 9 43 0 r11.Group.length false], .lit 23 [.int .u8 p1.Start, .int .u8 p1.Deliver, .int .i64 p1.Most], .dead, .lit 25 [.int .u8 p3.x0, .int .u8 p3.x1, .int .u8 p3.x2, .int .u8 p3.x3, .int .u8 p3.x4, .int .u8 p3.x5], .lit 25 [.int .u8 p4.x0, .int .u8 p4.x1, .int .u8 p4.x2, .int .u8 p4.x3, .int .u8 p4.x4, .int .u8 p4.x5], .lit 33 [.int .i64 p2, .sl 11 41 0 v1_1.length false], .lit 52 [.int .i64 0, .int .i64 0, .ro 0 0 true (fun _ _ => .top), .ro 0 0 true (fun _ _ => .top)], .row 71 3 r11.List.length (upc (enR c_TSleeper r11.List) r6.toNat 2 [.sl 8 43 0 (((gd r11.List r6.toNat).Held).length) false]), .dead, .row 73 43 r11.Group.length (enR c_TStored r11.Group), .lit 103 [.sl 15 43 0 w24.length false, .int .u8 p1.Deliver], .row 30 41 v1_1.length (enR c_TFrame v1_1), .dead, .lit 30 (.int .u8 0 :: .int .u8 0 :: .bool false :: .bool false :: .bool false :: .bool false :: .bool false :: .bool false :: .bool false :: .int .i64 0 :: .int .u8 0 :: .int .u8 0 :: .int .u8 0 :: .int .u8 0 :: .int .u8 0 :: .int .u8 0 :: .int .u8 0 :: .int .u8 0 :: .int .u8 0 :: .int .u8 0 :: .int .u8 0 :: .int .u8 0 :: .int .u8 0 :: .int .u8 0 :: .int .u8 0 :: .int .u8 0 :: .int .u8 0 :: .int .u8 0 :: .int .u8 0 :: .int .u8 0 :: .int .u8 0 :: .int .u8 0 :: .int .u8 0 :: .int .u8 0 :: .int .i64 0 :: .int .i64 0 :: .int .i64 0 :: .int .u8 0 :: .bool false :: .bool false :: .ro 0 0 true (fun _ _ => .top) :: []), .lit 30 (.int .u8 ((((gd v1_2 w2_3.toNat).Frame).Head).Kind) :: .int .u8 ((((gd v1_2 w2_3.toNat).Frame).Head).Sub) :: .bool ((((gd v1_2 w2_3.toNat).Frame).Head).ToDs) :: .bool ((((gd v1_2 w2_3.toNat).Frame).Head).FromDs) :: .bool ((((gd v1_2 w2_3.toNat).Frame).Head).More) :: .bool ((((gd v1_2 w2_3.toNat).Frame).Head).Retry) :: .bool ((((gd v1_2 w2_3.toNat).Frame).Head).Sleep) :: .bool ((((gd v1_2 w2_3.toNat).Frame).Head).MoreData) :: .bool ((((gd v1_2 w2_3.toNat).Frame).Head).Protected) :: .int .i64 ((((gd v1_2 w2_3.toNat).Frame).Head).Duration) :: .int .u8 (((((gd v1_2 w2_3.toNat).Frame).Head).A1).x0) :: .int .u8 (((((gd v1_2 w2_3.toNat).Frame).Head).A1).x1) :: .int .u8 (((((gd v1_2 w2_3.toNat).Frame).Head).A1).x2) :: .int .u8 (((((gd v1_2 w2_3.toNat).Frame).Head).A1).x3) :: .int .u8 (((((gd v1_2 w2_3.toNat).Frame).Head).A1).x4) :: .int .u8 (((((gd v1_2 w2_3.toNat).Frame).Head).A1).x5) :: .int .u8 (((((gd v1_2 w2_3.toNat).Frame).Head).A2).x0) :: .int .u8 (((((gd v1_2 w2_3.toNat).Frame).Head).A2).x1) :: .int .u8 (((((gd v1_2 w2_3.toNat).Frame).Head).A2).x2) :: .int .u8 (((((gd v1_2 w2_3.toNat).Frame).Head).A2).x3) :: .int .u8 (((((gd v1_2 w2_3.toNat).Frame).Head).A2).x4) :: .int .u8 (((((gd v1_2 w2_3.toNat).Frame).Head).A2).x5) :: .int .u8 (((((gd v1_2 w2_3.toNat).Frame).Head).A3).x0) :: .int .u8 (((((gd v1_2 w2_3.toNat).Frame).Head).A3).x1) :: .int .u8 (((((gd v1_2 w2_3.toNat).Frame).Head).A3).x2) :: .int .u8 (((((gd v1_2 w2_3.toNat).Frame).Head).A3).x3) :: .int .u8 (((((gd v1_2 w2_3.toNat).Frame).Head).A3).x4) :: .int .u8 (((((gd v1_2 w2_3.toNat).Frame).Head).A3).x5) :: .int .u8 (((((gd v1_2 w2_3.toNat).Frame).Head).A4).x0) :: .int .u8 (((((gd v1_2 w2_3.toNat).Frame).Head).A4).x1) :: .int .u8 (((((gd v1_2 w2_3.toNat).Frame).Head).A4).x2) :: .int .u8 (((((gd v1_2 w2_3.toNat).Frame).Head).A4).x3) :: .int .u8 (((((gd v1_2 w2_3.toNat).Frame).Head).A4).x4) :: .int .u8 (((((gd v1_2 w2_3.toNat).Frame).Head).A4).x5) :: .int .i64 ((((gd v1_2 w2_3.toNat).Frame).Head).Seq) :: .int .i64 ((((gd v1_2 w2_3.toNat).Frame).Head).Frag) :: .int .i64 ((((gd v1_2 w2_3.toNat).Frame).Head).Tid) :: .int .u8 ((((gd v1_2 w2_3.toNat).Frame).Head).Ack) :: .bool ((((gd v1_2 w2_3.toNat).Frame).Head).Amsdu) :: .bool ((((gd v1_2 w2_3.toNat).Frame).Head).Eosp) :: .ro 1 ((((gd v1_2 w2_3.toNat).Frame).Body).length) false (enR c_u8 (((gd v1_2 w2_3.toNat).Frame).Body)) :: []), .row 73 43 w24.length (enR c_TStored w24)]) ?_ ?_
          · refine SubF_of ⟨[some 0, some 1, some 2, some 3, some 4, some 5, some 6, some 7, some 8, some 9, some 10, some 11, some 12, some 13, some 14, some 15], ?_, ?_, by rfl, by rfl⟩
            · simp [CvL, Cv, getM, tp, tp, tpg, t8, lhw25]
            · exact ⟨(by simp [CvB, CvL, Cv, blkAt, geth, getM, lhw25]), (by simp [CvB, CvL, Cv, blkAt, geth, getM, lhw25]), CvB_dead, (by simp [CvB, CvL, Cv, blkAt, geth, getM, lhw25]), (by simp [CvB, CvL, Cv, blkAt, geth, getM, lhw25]), (by simp [CvB, CvL, Cv, blkAt, geth, getM, lhw25]), (by simp [CvB, CvL, Cv, blkAt, geth, getM, lhw25]), (CvB_focG (i := r6.toNat) (L := r11.List) nr_TSleeper (fun x y hx => by simp only [upc_ne hx]) (fun y hy => match y, hy with | 0, _ => by simp [upc_ii, getL, Cv, getM, enR, c_TSleeper] | 1, _ => by simp [upc_ii, getL, Cv, getM, enR, c_TSleeper] | 2, _ => by simp [upc_ii, getL, Cv, getM, enR, c_TSleeper] | (y+3), h => absurd h nlt)), CvB_dead, CvB_row nr_TStored rfl (fun _ _ _ _ => rfl), (by simp [CvB, CvL, Cv, blkAt, geth, getM, lhw25]), CvB_row nr_TFrame rfl (fun _ _ _ _ => rfl), CvB_dead, (by simp [CvB, CvL, Cv, blkAt, geth, getM, lhw25]), (by simp [CvB, CvL, Cv, blkAt, geth, getM, lhw25]), CvB_row nr_TStored lhw25 (hw25 ▸ (del_row f23 cl (fun _ _ _ _ => rfl))), trivial⟩
          simp only [tp]
          refine rg ctNo_ok ?_
          simp only [go_sem, Nat.reduceLeDiff, Nat.reduceLT, Nat.reduceAdd, Nat.reduceMul, Nat.reduceSub, Nat.reduceEqDiff, Nat.reduceBEq, Int.reduceToNat, reduceCtorEq, upc_ii]
          repeat ((with_reducible refine And.intro ?_ ?_); focus exact an5)
          refine rg ctNo_ok ?_
          simp only [go_sem, Nat.reduceLeDiff, Nat.reduceLT, Nat.reduceAdd, Nat.reduceMul, Nat.reduceSub, Nat.reduceEqDiff, Nat.reduceBEq, Int.reduceToNat, reduceCtorEq, upc_ii]
          refine cutO shT_ok ctNo_ok 6 ?_
          simp only [kO_normal, List.take_succ_cons, List.take_zero, List.drop_succ_cons, List.drop_zero, go_sem, Nat.reduceLeDiff, Nat.reduceLT, Nat.reduceAdd, Nat.reduceMul, Nat.reduceSub, Nat.reduceEqDiff, Nat.reduceBEq, Int.reduceToNat, reduceCtorEq, upc_ii]
          repeat ((with_reducible refine And.intro ?_ ?_); focus exact an0)
          refine endO ?_
          refine seqM ?_
          refine sq ctNo_ok ?_
          simp only [go_sem, Nat.reduceLeDiff, Nat.reduceLT, Nat.reduceAdd, Nat.reduceMul, Nat.reduceSub, Nat.reduceEqDiff, Nat.reduceBEq, Int.reduceToNat, reduceCtorEq, upc_ii]
          refine condM rfl trivial (fun hc => ?_) (fun hc => ?_)
          · cases hc
          refine rg ctNo_ok ?_
          simp only [go_sem, Nat.reduceLeDiff, Nat.reduceLT, Nat.reduceAdd, Nat.reduceMul, Nat.reduceSub, Nat.reduceEqDiff, Nat.reduceBEq, Int.reduceToNat, reduceCtorEq, upc_ii]
          refine sq ctNo_ok ?_
          simp only [go_sem, Nat.reduceLeDiff, Nat.reduceLT, Nat.reduceAdd, Nat.reduceMul, Nat.reduceSub, Nat.reduceEqDiff, Nat.reduceBEq, Int.reduceToNat, reduceCtorEq, upc_ii]
          repeat ((with_reducible refine And.intro ?_ ?_); focus exact an5)
          obtain ⟨f26, H⟩ := need_some.1 H
          replace f26 := capb_iff.1 f26
          refine rg ctNo_ok ?_
          simp only [go_sem, Nat.reduceLeDiff, Nat.reduceLT, Nat.reduceAdd, Nat.reduceMul, Nat.reduceSub, Nat.reduceEqDiff, Nat.reduceBEq, Int.reduceToNat, reduceCtorEq, upc_ii, f26]
          repeat ((with_reducible refine And.intro ?_ ?_); focus exact an1)
          refine ⟨_, (Option.some.inj H).symm, ?_⟩
          refine SubF_of ⟨[some 0, some 1, some 2, some 3, some 4, some 5, some 6, some 7, some 8, some 9, some 10, some 18, some 15], ?_, ?_, by rfl, by rfl⟩
          · simp [CvL, Cv, getM, tp, tp, tpg, t8]
          · exact ⟨cv, cv, CvB_dead, cv, cv, cv, cv, (CvB_focG (i := r6.toNat) (L := r11.List) nr_TSleeper (fun x y hx => by simp only [upc_ne hx]) (fun y hy => match y, hy with | 0, _ => by simp [upc_ii, getL, Cv, getM, enR, c_TSleeper] | 1, _ => by simp [upc_ii, getL, Cv, getM, enR, c_TSleeper] | 2, _ => by simp [upc_ii, getL, Cv, getM, enR, c_TSleeper] | (y+3), h => absurd h nlt)), CvB_dead, (CvB_same nfA), cv, CvB_row nr_TFrame cl (app_row (f := c_TFrame) v1_1 [(TFrame.mk (THeader.mk ((((gd v1_2 w2_3.toNat).Frame).Head).Kind) ((((gd v1_2 w2_3.toNat).Frame).Head).Sub) ((((gd v1_2 w2_3.toNat).Frame).Head).ToDs) ((((gd v1_2 w2_3.toNat).Frame).Head).FromDs) ((((gd v1_2 w2_3.toNat).Frame).Head).More) ((((gd v1_2 w2_3.toNat).Frame).Head).Retry) ((((gd v1_2 w2_3.toNat).Frame).Head).Sleep) true ((((gd v1_2 w2_3.toNat).Frame).Head).Protected) ((((gd v1_2 w2_3.toNat).Frame).Head).Duration) (A6u8.mk (((((gd v1_2 w2_3.toNat).Frame).Head).A1).x0) (((((gd v1_2 w2_3.toNat).Frame).Head).A1).x1) (((((gd v1_2 w2_3.toNat).Frame).Head).A1).x2) (((((gd v1_2 w2_3.toNat).Frame).Head).A1).x3) (((((gd v1_2 w2_3.toNat).Frame).Head).A1).x4) (((((gd v1_2 w2_3.toNat).Frame).Head).A1).x5)) (A6u8.mk (((((gd v1_2 w2_3.toNat).Frame).Head).A2).x0) (((((gd v1_2 w2_3.toNat).Frame).Head).A2).x1) (((((gd v1_2 w2_3.toNat).Frame).Head).A2).x2) (((((gd v1_2 w2_3.toNat).Frame).Head).A2).x3) (((((gd v1_2 w2_3.toNat).Frame).Head).A2).x4) (((((gd v1_2 w2_3.toNat).Frame).Head).A2).x5)) (A6u8.mk (((((gd v1_2 w2_3.toNat).Frame).Head).A3).x0) (((((gd v1_2 w2_3.toNat).Frame).Head).A3).x1) (((((gd v1_2 w2_3.toNat).Frame).Head).A3).x2) (((((gd v1_2 w2_3.toNat).Frame).Head).A3).x3) (((((gd v1_2 w2_3.toNat).Frame).Head).A3).x4) (((((gd v1_2 w2_3.toNat).Frame).Head).A3).x5)) (A6u8.mk (((((gd v1_2 w2_3.toNat).Frame).Head).A4).x0) (((((gd v1_2 w2_3.toNat).Frame).Head).A4).x1) (((((gd v1_2 w2_3.toNat).Frame).Head).A4).x2) (((((gd v1_2 w2_3.toNat).Frame).Head).A4).x3) (((((gd v1_2 w2_3.toNat).Frame).Head).A4).x4) (((((gd v1_2 w2_3.toNat).Frame).Head).A4).x5)) ((((gd v1_2 w2_3.toNat).Frame).Head).Seq) ((((gd v1_2 w2_3.toNat).Frame).Head).Frag) ((((gd v1_2 w2_3.toNat).Frame).Head).Tid) ((((gd v1_2 w2_3.toNat).Frame).Head).Ack) ((((gd v1_2 w2_3.toNat).Frame).Head).Amsdu) false) (((gd v1_2 w2_3.toNat).Frame).Body))] (fun _ _ _ _ => rfl) (lit_row (f := c_TFrame) [(TFrame.mk (THeader.mk ((((gd v1_2 w2_3.toNat).Frame).Head).Kind) ((((gd v1_2 w2_3.toNat).Frame).Head).Sub) ((((gd v1_2 w2_3.toNat).Frame).Head).ToDs) ((((gd v1_2 w2_3.toNat).Frame).Head).FromDs) ((((gd v1_2 w2_3.toNat).Frame).Head).More) ((((gd v1_2 w2_3.toNat).Frame).Head).Retry) ((((gd v1_2 w2_3.toNat).Frame).Head).Sleep) true ((((gd v1_2 w2_3.toNat).Frame).Head).Protected) ((((gd v1_2 w2_3.toNat).Frame).Head).Duration) (A6u8.mk (((((gd v1_2 w2_3.toNat).Frame).Head).A1).x0) (((((gd v1_2 w2_3.toNat).Frame).Head).A1).x1) (((((gd v1_2 w2_3.toNat).Frame).Head).A1).x2) (((((gd v1_2 w2_3.toNat).Frame).Head).A1).x3) (((((gd v1_2 w2_3.toNat).Frame).Head).A1).x4) (((((gd v1_2 w2_3.toNat).Frame).Head).A1).x5)) (A6u8.mk (((((gd v1_2 w2_3.toNat).Frame).Head).A2).x0) (((((gd v1_2 w2_3.toNat).Frame).Head).A2).x1) (((((gd v1_2 w2_3.toNat).Frame).Head).A2).x2) (((((gd v1_2 w2_3.toNat).Frame).Head).A2).x3) (((((gd v1_2 w2_3.toNat).Frame).Head).A2).x4) (((((gd v1_2 w2_3.toNat).Frame).Head).A2).x5)) (A6u8.mk (((((gd v1_2 w2_3.toNat).Frame).Head).A3).x0) (((((gd v1_2 w2_3.toNat).Frame).Head).A3).x1) (((((gd v1_2 w2_3.toNat).Frame).Head).A3).x2) (((((gd v1_2 w2_3.toNat).Frame).Head).A3).x3) (((((gd v1_2 w2_3.toNat).Frame).Head).A3).x4) (((((gd v1_2 w2_3.toNat).Frame).Head).A3).x5)) (A6u8.mk (((((gd v1_2 w2_3.toNat).Frame).Head).A4).x0) (((((gd v1_2 w2_3.toNat).Frame).Head).A4).x1) (((((gd v1_2 w2_3.toNat).Frame).Head).A4).x2) (((((gd v1_2 w2_3.toNat).Frame).Head).A4).x3) (((((gd v1_2 w2_3.toNat).Frame).Head).A4).x4) (((((gd v1_2 w2_3.toNat).Frame).Head).A4).x5)) ((((gd v1_2 w2_3.toNat).Frame).Head).Seq) ((((gd v1_2 w2_3.toNat).Frame).Head).Frag) ((((gd v1_2 w2_3.toNat).Frame).Head).Tid) ((((gd v1_2 w2_3.toNat).Frame).Head).Ack) ((((gd v1_2 w2_3.toNat).Frame).Head).Amsdu) false) (((gd v1_2 w2_3.toNat).Frame).Body))] (fun _ _ => rfl) rfl)), CvB_row nr_TStored cl (fun _ _ _ _ => rfl), trivial⟩
      · obtain ⟨w1_5, w1_6⟩ := e
        try dsimp only at H ⊢
        try simp only [tp]
        try simp only [m_normal, k_normal, b_normal, kL_normal, r_normal]
        refine seqM ?_
        obtain ⟨f27, H⟩ := need_some.1 H
        replace f27 := inb_iff.1 f27
        refine draw_rule shT_ok ctNo_ok 0 (by kernel_rfl) (by kernel_rfl) ?_
        intro an han
        simp only [d_nil, d_cons, nxtD, xrD, xoD, roEq, minL, List.append_nil, refsOp, refs, refsL, mask, maskF, place, placeF, okLog, pairOk, hit, inL, slotsF, ren, renL, rnN, nrH, nrB, nrL, nr, dead0, deadS, List.replicate_zero, List.replicate_succ, Nat.sub_self, Nat.add_zero, Nat.zero_add, Nat.reduceSub, Nat.not_lt_zero, Nat.zero_le, Nat.lt_add_one, go_sem, Nat.reduceLeDiff, Nat.reduceLT, Nat.reduceAdd, Nat.reduceMul, Nat.reduceSub, Nat.reduceEqDiff, Nat.reduceBEq, Int.reduceToNat, reduceCtorEq, upc_ii, f27]
        repeat ((with_reducible refine And.intro ?_ ?_); focus exact an6)
        refine seqM ?_
        obtain ⟨r28, e29, H⟩ := bsi H
        refine rg ct29t5_ok ?_
        simp only [go_sem, Nat.reduceLeDiff, Nat.reduceLT, Nat.reduceAdd, Nat.reduceMul, Nat.reduceSub, Nat.reduceEqDiff, Nat.reduceBEq, Int.reduceToNat, reduceCtorEq, upc_ii, ct29t5_49, body49_0, e29]
        repeat ((with_reducible refine And.intro ?_ ?_); focus exact an0)
        refine seqM ?_
        refine sq ctNo_ok ?_
        simp only [go_sem, Nat.reduceLeDiff, Nat.reduceLT, Nat.reduceAdd, Nat.reduceMul, Nat.reduceSub, Nat.reduceEqDiff, Nat.reduceBEq, Int.reduceToNat, reduceCtorEq, upc_ii]
        repeat ((with_reducible refine And.intro ?_ ?_); focus exact an0)
        refine condM' rfl trivial (fun hc => ?_) (fun hc => ?_)
        · have hk30 : (bEq (w1_5.length : Nat) 0) = false := by simpa using hc
          replace H := cond_f hc H
          refine rg ctNo_ok ?_
          simp only [go_sem, Nat.reduceLeDiff, Nat.reduceLT, Nat.reduceAdd, Nat.reduceMul, Nat.reduceSub, Nat.reduceEqDiff, Nat.reduceBEq, Int.reduceToNat, reduceCtorEq, upc_ii]
          refine seqM ?_
          obtain ⟨f38, H⟩ := need_some.1 H
          replace f38 := inb_iff.1 f38
          refine rg ctNo_ok ?_
          simp only [go_sem, Nat.reduceLeDiff, Nat.reduceLT, Nat.reduceAdd, Nat.reduceMul, Nat.reduceSub, Nat.reduceEqDiff, Nat.reduceBEq, Int.reduceToNat, reduceCtorEq, upc_ii, f38]
          repeat ((with_reducible refine And.intro ?_ ?_); focus exact an0)
          refine sq ctNo_ok ?_
          simp only [go_sem, Nat.reduceLeDiff, Nat.reduceLT, Nat.reduceAdd, Nat.reduceMul, Nat.reduceSub, Nat.reduceEqDiff, Nat.reduceBEq, Int.reduceToNat, reduceCtorEq, upc_ii]
          repeat ((with_reducible refine And.intro ?_ ?_); focus exact an5)
          refine seqM ?_
          refine draw_rule shT_ok ctNo_ok 0 (by kernel_rfl) (by kernel_rfl) ?_
          intro an han
          simp only [d_nil, d_cons, nxtD, xrD, xoD, roEq, minL, List.append_nil, refsOp, refs, refsL, mask, maskF, place, placeF, okLog, pairOk, hit, inL, slotsF, ren, renL, rnN, nrH, nrB, nrL, nr, dead0, deadS, List.replicate_zero, List.replicate_succ, Nat.sub_self, Nat.add_zero, Nat.zero_add, Nat.reduceSub, Nat.not_lt_zero, Nat.zero_le, Nat.lt_add_one, go_sem, Nat.reduceLeDiff, Nat.reduceLT, Nat.reduceAdd, Nat.reduceMul, Nat.reduceSub, Nat.reduceEqDiff, Nat.reduceBEq, Int.reduceToNat, reduceCtorEq, upc_ii]
          repeat ((with_reducible refine And.intro ?_ ?_); focus exact an6)
          refine fz2_mean [12] [7] ?_ ?_
          · simp only [go_sem, Nat.reduceEqDiff, Nat.reduceBEq, Nat.reduceAdd, fzObHF2, fzObB2]
            first | exact (foc_ob (L := r11.List) (i := r6.toNat) (fun a y => nrefL_getL (nr_TSleeper a) y) (fun x y hx => by simp only [upc_ne hx]) (fun y hy => match y, hy with | 0, _ => (by (simp [upc_ii, getL, fzOb, inL, geth, rowOb, enR, c_TSleeper]; all_goals (first | (with_reducible trivial) | (intros; exact nrefL_getL (NRf.h _) _) | (intros; exact nfc)))) | 1, _ => (by (simp [upc_ii, getL, fzOb, inL, geth, rowOb, enR, c_TSleeper]; all_goals (first | (with_reducible trivial) | (intros; exact nrefL_getL (NRf.h _) _) | (intros; exact nfc)))) | 2, _ => (by (simp [upc_ii, getL, fzOb, inL, geth, rowOb, enR, c_TSleeper]; all_goals (first | (with_reducible trivial) | (intros; exact nrefL_getL (NRf.h _) _) | (intros; exact nfc)))) | (y+3), h => absurd h nlt)) | (and_intros <;> first | exact (foc_ob (L := r11.List) (i := r6.toNat) (fun a y => nrefL_getL (nr_TSleeper a) y) (fun x y hx => by simp only [upc_ne hx]) (fun y hy => match y, hy with | 0, _ => (by (simp [upc_ii, getL, fzOb, inL, geth, rowOb, enR, c_TSleeper]; all_goals (first | (with_reducible trivial) | (intros; exact nrefL_getL (NRf.h _) _) | (intros; exact nfc)))) | 1, _ => (by (simp [upc_ii, getL, fzOb, inL, geth, rowOb, enR, c_TSleeper]; all_goals (first | (with_reducible trivial) | (intros; exact nrefL_getL (NRf.h _) _) | (intros; exact nfc)))) | 2, _ => (by (simp [upc_ii, getL, fzOb, inL, geth, rowOb, enR, c_TSleeper]; all_goals (first | (with_reducible trivial) | (intros; exact nrefL_getL (NRf.h _) _) | (intros; exact nfc)))) | (y+3), h => absurd h nlt)) | (with_reducible trivial) | omega | exact nfc | trivial)
          simp only [go_sem, Nat.reduceEqDiff, Nat.reduceBEq, Nat.reduceAdd, fzH2, fzHF2, fzB2]
          obtain ⟨w39, hw40, H⟩ := bsi H
          replace hw40 := Option.some.inj hw40
          have lhw40 : w39.length = r11.List.length := by rw [← hw40]; exact (by simp only [List.length_set])
          obtain ⟨w41, hw42, H⟩ := bsi H
          replace hw42 := Option.some.inj hw42
          have lhw42 : w41.length = w1_5.length := by rw [← hw42]; exact cl
          refine subF_mean (t2 := (tp 10 (.ptr 5 0 0 0 :: .ptr 6 0 0 0 :: .int .i64 0 :: tp 127 []))) (h2 := [.lit 52 [.int .i64 r11.Limit, .int .i64 r11.Stay, .sl 7 3 0 w39.length false, .sl 9 43 0 r11.Group.length false], .dead, .dead, .lit 25 [.int .u8 p3.x0, .int .u8 p3.x1, .int .u8 p3.x2, .int .u8 p3.x3, .int .u8 p3.x4, .int .u8 p3.x5], .lit 25 [.int .u8 p4.x0, .int .u8 p4.x1, .int .u8 p4.x2, .int .u8 p4.x3, .int .u8 p4.x4, .int .u8 p4.x5], .lit 33 [.int .i64 p2, .sl 11 41 0 w41.length false], .lit 52 [.int .i64 r11.Limit, .int .i64 r11.Stay, .sl 7 3 0 w39.length false, .sl 9 43 0 r11.Group.length false], .row 71 3 w39.length (enR c_TSleeper w39), .dead, .row 73 43 r11.Group.length (enR c_TStored r11.Group), .lit 103 [.ro 43 w1_6.length false (enR c_TStored w1_6), .int .u8 p1.Deliver], .row 30 41 w41.length (enR c_TFrame w41), .dead]) ?_ ?_
          · refine SubF_of ⟨[some 0, some 1, some 2, some 3, some 4, some 5, some 6, some 7, some 8, some 9, some 10, some 11, some 12], ?_, ?_, by rfl, by rfl⟩
            · simp [CvL, Cv, getM, tp, tp, tpg, t8, lhw40, lhw42]
            · exact ⟨(by simp [CvB, CvL, Cv, blkAt, geth, getM, lhw40, lhw42]), CvB_dead, CvB_dead, (by simp [CvB, CvL, Cv, blkAt, geth, getM, lhw40, lhw42]), (by simp [CvB, CvL, Cv, blkAt, geth, getM, lhw40, lhw42]), (by simp [CvB, CvL, Cv, blkAt, geth, getM, lhw40, lhw42]), (by simp [CvB, CvL, Cv, blkAt, geth, getM, lhw40, lhw42]), CvB_row nr_TSleeper lhw40 (hw40 ▸ (foc_row (L := r11.List) (i := r6.toNat) (fun a y => nrefL_getL (nr_TSleeper a) y) (fun x y hx => by simp only [upc_ne hx]) (fun y hy => match y, hy with | 0, _ => by simp [upc_ii, getL, fzV, inL, geth, enR, c_TSleeper, sub_enR0] | 1, _ => by simp [upc_ii, getL, fzV, inL, geth, enR, c_TSleeper, sub_enR0] | 2, _ => by simp [upc_ii, getL, fzV, inL, geth, enR, c_TSleeper, sub_enR0] | (y+3), h => absurd h nlt))), CvB_dead, CvB_row nr_TStored rfl (fun _ _ _ _ => rfl), (by simp [CvB, CvL, Cv, blkAt, geth, getM, lhw40, lhw42]), CvB_row nr_TFrame lhw42 (hw42 ▸ (upc_row (f := c_TFrame) (w1_5.set ((wr .i64 ((w1_5.length : Nat) - 1)).toNat) (TFrame.mk (THeader.mk (((gd w1_5 ((wr .i64 ((w1_5.length : Nat) - 1)).toNat)).Head).Kind) (((gd w1_5 ((wr .i64 ((w1_5.length : Nat) - 1)).toNat)).Head).Sub) (((gd w1_5 ((wr .i64 ((w1_5.length : Nat) - 1)).toNat)).Head).ToDs) (((gd w1_5 ((wr .i64 ((w1_5.length : Nat) - 1)).toNat)).Head).FromDs) (((gd w1_5 ((wr .i64 ((w1_5.length : Nat) - 1)).toNat)).Head).More) (((gd w1_5 ((wr .i64 ((w1_5.length : Nat) - 1)).toNat)).Head).Retry) (((gd w1_5 ((wr .i64 ((w1_5.length : Nat) - 1)).toNat)).Head).Sleep) (((gd w1_5 ((wr .i64 ((w1_5.length : Nat) - 1)).toNat)).Head).MoreData) (((gd w1_5 ((wr .i64 ((w1_5.length : Nat) - 1)).toNat)).Head).Protected) (((gd w1_5 ((wr .i64 ((w1_5.length : Nat) - 1)).toNat)).Head).Duration) (A6u8.mk ((((gd w1_5 ((wr .i64 ((w1_5.length : Nat) - 1)).toNat)).Head).A1).x0) ((((gd w1_5 ((wr .i64 ((w1_5.length : Nat) - 1)).toNat)).Head).A1).x1) ((((gd w1_5 ((wr .i64 ((w1_5.length : Nat) - 1)).toNat)).Head).A1).x2) ((((gd w1_5 ((wr .i64 ((w1_5.length : Nat) - 1)).toNat)).Head).A1).x3) ((((gd w1_5 ((wr .i64 ((w1_5.length : Nat) - 1)).toNat)).Head).A1).x4) ((((gd w1_5 ((wr .i64 ((w1_5.length : Nat) - 1)).toNat)).Head).A1).x5)) (A6u8.mk ((((gd w1_5 ((wr .i64 ((w1_5.length : Nat) - 1)).toNat)).Head).A2).x0) ((((gd w1_5 ((wr .i64 ((w1_5.length : Nat) - 1)).toNat)).Head).A2).x1) ((((gd w1_5 ((wr .i64 ((w1_5.length : Nat) - 1)).toNat)).Head).A2).x2) ((((gd w1_5 ((wr .i64 ((w1_5.length : Nat) - 1)).toNat)).Head).A2).x3) ((((gd w1_5 ((wr .i64 ((w1_5.length : Nat) - 1)).toNat)).Head).A2).x4) ((((gd w1_5 ((wr .i64 ((w1_5.length : Nat) - 1)).toNat)).Head).A2).x5)) (A6u8.mk ((((gd w1_5 ((wr .i64 ((w1_5.length : Nat) - 1)).toNat)).Head).A3).x0) ((((gd w1_5 ((wr .i64 ((w1_5.length : Nat) - 1)).toNat)).Head).A3).x1) ((((gd w1_5 ((wr .i64 ((w1_5.length : Nat) - 1)).toNat)).Head).A3).x2) ((((gd w1_5 ((wr .i64 ((w1_5.length : Nat) - 1)).toNat)).Head).A3).x3) ((((gd w1_5 ((wr .i64 ((w1_5.length : Nat) - 1)).toNat)).Head).A3).x4) ((((gd w1_5 ((wr .i64 ((w1_5.length : Nat) - 1)).toNat)).Head).A3).x5)) (A6u8.mk ((((gd w1_5 ((wr .i64 ((w1_5.length : Nat) - 1)).toNat)).Head).A4).x0) ((((gd w1_5 ((wr .i64 ((w1_5.length : Nat) - 1)).toNat)).Head).A4).x1) ((((gd w1_5 ((wr .i64 ((w1_5.length : Nat) - 1)).toNat)).Head).A4).x2) ((((gd w1_5 ((wr .i64 ((w1_5.length : Nat) - 1)).toNat)).Head).A4).x3) ((((gd w1_5 ((wr .i64 ((w1_5.length : Nat) - 1)).toNat)).Head).A4).x4) ((((gd w1_5 ((wr .i64 ((w1_5.length : Nat) - 1)).toNat)).Head).A4).x5)) (((gd w1_5 ((wr .i64 ((w1_5.length : Nat) - 1)).toNat)).Head).Seq) (((gd w1_5 ((wr .i64 ((w1_5.length : Nat) - 1)).toNat)).Head).Frag) (((gd w1_5 ((wr .i64 ((w1_5.length : Nat) - 1)).toNat)).Head).Tid) (((gd w1_5 ((wr .i64 ((w1_5.length : Nat) - 1)).toNat)).Head).Ack) (((gd w1_5 ((wr .i64 ((w1_5.length : Nat) - 1)).toNat)).Head).Amsdu) true) ((gd w1_5 ((wr .i64 ((w1_5.length : Nat) - 1)).toNat)).Body))) ((wr .i64 ((w1_5.length : Nat) - 1)).toNat) 7 ((fun qq38 => (TFrame.mk (THeader.mk qq38.Head.Kind qq38.Head.Sub qq38.Head.ToDs qq38.Head.FromDs qq38.Head.More qq38.Head.Retry qq38.Head.Sleep r28 qq38.Head.Protected qq38.Head.Duration (A6u8.mk qq38.Head.A1.x0 qq38.Head.A1.x1 qq38.Head.A1.x2 qq38.Head.A1.x3 qq38.Head.A1.x4 qq38.Head.A1.x5) (A6u8.mk qq38.Head.A2.x0 qq38.Head.A2.x1 qq38.Head.A2.x2 qq38.Head.A2.x3 qq38.Head.A2.x4 qq38.Head.A2.x5) (A6u8.mk qq38.Head.A3.x0 qq38.Head.A3.x1 qq38.Head.A3.x2 qq38.Head.A3.x3 qq38.Head.A3.x4 qq38.Head.A3.x5) (A6u8.mk qq38.Head.A4.x0 qq38.Head.A4.x1 qq38.Head.A4.x2 qq38.Head.A4.x3 qq38.Head.A4.x4 qq38.Head.A4.x5) qq38.Head.Seq qq38.Head.Frag qq38.Head.Tid qq38.Head.Ack qq38.Head.Amsdu qq38.Head.Eosp) qq38.Body)) (gd (w1_5.set ((wr .i64 ((w1_5.length : Nat) - 1)).toNat) (TFrame.mk (THeader.mk (((gd w1_5 ((wr .i64 ((w1_5.length : Nat) - 1)).toNat)).Head).Kind) (((gd w1_5 ((wr .i64 ((w1_5.length : Nat) - 1)).toNat)).Head).Sub) (((gd w1_5 ((wr .i64 ((w1_5.length : Nat) - 1)).toNat)).Head).ToDs) (((gd w1_5 ((wr .i64 ((w1_5.length : Nat) - 1)).toNat)).Head).FromDs) (((gd w1_5 ((wr .i64 ((w1_5.length : Nat) - 1)).toNat)).Head).More) (((gd w1_5 ((wr .i64 ((w1_5.length : Nat) - 1)).toNat)).Head).Retry) (((gd w1_5 ((wr .i64 ((w1_5.length : Nat) - 1)).toNat)).Head).Sleep) (((gd w1_5 ((wr .i64 ((w1_5.length : Nat) - 1)).toNat)).Head).MoreData) (((gd w1_5 ((wr .i64 ((w1_5.length : Nat) - 1)).toNat)).Head).Protected) (((gd w1_5 ((wr .i64 ((w1_5.length : Nat) - 1)).toNat)).Head).Duration) (A6u8.mk ((((gd w1_5 ((wr .i64 ((w1_5.length : Nat) - 1)).toNat)).Head).A1).x0) ((((gd w1_5 ((wr .i64 ((w1_5.length : Nat) - 1)).toNat)).Head).A1).x1) ((((gd w1_5 ((wr .i64 ((w1_5.length : Nat) - 1)).toNat)).Head).A1).x2) ((((gd w1_5 ((wr .i64 ((w1_5.length : Nat) - 1)).toNat)).Head).A1).x3) ((((gd w1_5 ((wr .i64 ((w1_5.length : Nat) - 1)).toNat)).Head).A1).x4) ((((gd w1_5 ((wr .i64 ((w1_5.length : Nat) - 1)).toNat)).Head).A1).x5)) (A6u8.mk ((((gd w1_5 ((wr .i64 ((w1_5.length : Nat) - 1)).toNat)).Head).A2).x0) ((((gd w1_5 ((wr .i64 ((w1_5.length : Nat) - 1)).toNat)).Head).A2).x1) ((((gd w1_5 ((wr .i64 ((w1_5.length : Nat) - 1)).toNat)).Head).A2).x2) ((((gd w1_5 ((wr .i64 ((w1_5.length : Nat) - 1)).toNat)).Head).A2).x3) ((((gd w1_5 ((wr .i64 ((w1_5.length : Nat) - 1)).toNat)).Head).A2).x4) ((((gd w1_5 ((wr .i64 ((w1_5.length : Nat) - 1)).toNat)).Head).A2).x5)) (A6u8.mk ((((gd w1_5 ((wr .i64 ((w1_5.length : Nat) - 1)).toNat)).Head).A3).x0) ((((gd w1_5 ((wr .i64 ((w1_5.length : Nat) - 1)).toNat)).Head).A3).x1) ((((gd w1_5 ((wr .i64 ((w1_5.length : Nat) - 1)).toNat)).Head).A3).x2) ((((gd w1_5 ((wr .i64 ((w1_5.length : Nat) - 1)).toNat)).Head).A3).x3) ((((gd w1_5 ((wr .i64 ((w1_5.length : Nat) - 1)).toNat)).Head).A3).x4) ((((gd w1_5 ((wr .i64 ((w1_5.length : Nat) - 1)).toNat)).Head).A3).x5)) (A6u8.mk ((((gd w1_5 ((wr .i64 ((w1_5.length : Nat) - 1)).toNat)).Head).A4).x0) ((((gd w1_5 ((wr .i64 ((w1_5.length : Nat) - 1)).toNat)).Head).A4).x1) ((((gd w1_5 ((wr .i64 ((w1_5.length : Nat) - 1)).toNat)).Head).A4).x2) ((((gd w1_5 ((wr .i64 ((w1_5.length : Nat) - 1)).toNat)).Head).A4).x3) ((((gd w1_5 ((wr .i64 ((w1_5.length : Nat) - 1)).toNat)).Head).A4).x4) ((((gd w1_5 ((wr .i64 ((w1_5.length : Nat) - 1)).toNat)).Head).A4).x5)) (((gd w1_5 ((wr .i64 ((w1_5.length : Nat) - 1)).toNat)).Head).Seq) (((gd w1_5 ((wr .i64 ((w1_5.length : Nat) - 1)).toNat)).Head).Frag) (((gd w1_5 ((wr .i64 ((w1_5.length : Nat) - 1)).toNat)).Head).Tid) (((gd w1_5 ((wr .i64 ((w1_5.length : Nat) - 1)).toNat)).Head).Ack) (((gd w1_5 ((wr .i64 ((w1_5.length : Nat) - 1)).toNat)).Head).Amsdu) true) ((gd w1_5 ((wr .i64 ((w1_5.length : Nat) - 1)).toNat)).Body))) ((wr .i64 ((w1_5.length : Nat) - 1)).toNat))) (upc_row (f := c_TFrame) w1_5 ((wr .i64 ((w1_5.length : Nat) - 1)).toNat) 39 (TFrame.mk (THeader.mk (((gd w1_5 ((wr .i64 ((w1_5.length : Nat) - 1)).toNat)).Head).Kind) (((gd w1_5 ((wr .i64 ((w1_5.length : Nat) - 1)).toNat)).Head).Sub) (((gd w1_5 ((wr .i64 ((w1_5.length : Nat) - 1)).toNat)).Head).ToDs) (((gd w1_5 ((wr .i64 ((w1_5.length : Nat) - 1)).toNat)).Head).FromDs) (((gd w1_5 ((wr .i64 ((w1_5.length : Nat) - 1)).toNat)).Head).More) (((gd w1_5 ((wr .i64 ((w1_5.length : Nat) - 1)).toNat)).Head).Retry) (((gd w1_5 ((wr .i64 ((w1_5.length : Nat) - 1)).toNat)).Head).Sleep) (((gd w1_5 ((wr .i64 ((w1_5.length : Nat) - 1)).toNat)).Head).MoreData) (((gd w1_5 ((wr .i64 ((w1_5.length : Nat) - 1)).toNat)).Head).Protected) (((gd w1_5 ((wr .i64 ((w1_5.length : Nat) - 1)).toNat)).Head).Duration) (A6u8.mk ((((gd w1_5 ((wr .i64 ((w1_5.length : Nat) - 1)).toNat)).Head).A1).x0) ((((gd w1_5 ((wr .i64 ((w1_5.length : Nat) - 1)).toNat)).Head).A1).x1) ((((gd w1_5 ((wr .i64 ((w1_5.length : Nat) - 1)).toNat)).Head).A1).x2) ((((gd w1_5 ((wr .i64 ((w1_5.length : Nat) - 1)).toNat)).Head).A1).x3) ((((gd w1_5 ((wr .i64 ((w1_5.length : Nat) - 1)).toNat)).Head).A1).x4) ((((gd w1_5 ((wr .i64 ((w1_5.length : Nat) - 1)).toNat)).Head).A1).x5)) (A6u8.mk ((((gd w1_5 ((wr .i64 ((w1_5.length : Nat) - 1)).toNat)).Head).A2).x0) ((((gd w1_5 ((wr .i64 ((w1_5.length : Nat) - 1)).toNat)).Head).A2).x1) ((((gd w1_5 ((wr .i64 ((w1_5.length : Nat) - 1)).toNat)).Head).A2).x2) ((((gd w1_5 ((wr .i64 ((w1_5.length : Nat) - 1)).toNat)).Head).A2).x3) ((((gd w1_5 ((wr .i64 ((w1_5.length : Nat) - 1)).toNat)).Head).A2).x4) ((((gd w1_5 ((wr .i64 ((w1_5.length : Nat) - 1)).toNat)).Head).A2).x5)) (A6u8.mk ((((gd w1_5 ((wr .i64 ((w1_5.length : Nat) - 1)).toNat)).Head).A3).x0) ((((gd w1_5 ((wr .i64 ((w1_5.length : Nat) - 1)).toNat)).Head).A3).x1) ((((gd w1_5 ((wr .i64 ((w1_5.length : Nat) - 1)).toNat)).Head).A3).x2) ((((gd w1_5 ((wr .i64 ((w1_5.length : Nat) - 1)).toNat)).Head).A3).x3) ((((gd w1_5 ((wr .i64 ((w1_5.length : Nat) - 1)).toNat)).Head).A3).x4) ((((gd w1_5 ((wr .i64 ((w1_5.length : Nat) - 1)).toNat)).Head).A3).x5)) (A6u8.mk ((((gd w1_5 ((wr .i64 ((w1_5.length : Nat) - 1)).toNat)).Head).A4).x0) ((((gd w1_5 ((wr .i64 ((w1_5.length : Nat) - 1)).toNat)).Head).A4).x1) ((((gd w1_5 ((wr .i64 ((w1_5.length : Nat) - 1)).toNat)).Head).A4).x2) ((((gd w1_5 ((wr .i64 ((w1_5.length : Nat) - 1)).toNat)).Head).A4).x3) ((((gd w1_5 ((wr .i64 ((w1_5.length : Nat) - 1)).toNat)).Head).A4).x4) ((((gd w1_5 ((wr .i64 ((w1_5.length : Nat) - 1)).toNat)).Head).A4).x5)) (((gd w1_5 ((wr .i64 ((w1_5.length : Nat) - 1)).toNat)).Head).Seq) (((gd w1_5 ((wr .i64 ((w1_5.length : Nat) - 1)).toNat)).Head).Frag) (((gd w1_5 ((wr .i64 ((w1_5.length : Nat) - 1)).toNat)).Head).Tid) (((gd w1_5 ((wr .i64 ((w1_5.length : Nat) - 1)).toNat)).Head).Ack) (((gd w1_5 ((wr .i64 ((w1_5.length : Nat) - 1)).toNat)).Head).Amsdu) true) ((gd w1_5 ((wr .i64 ((w1_5.length : Nat) - 1)).toNat)).Body)) (fun _ _ _ _ => rfl) (fun y hy => match y, hy with | 0, _ => rfl | 1, _ => rfl | 2, _ => rfl | 3, _ => rfl | 4, _ => rfl | 5, _ => rfl | 6, _ => rfl | 7, _ => rfl | 8, _ => rfl | 9, _ => rfl | 10, _ => rfl | 11, _ => rfl | 12, _ => rfl | 13, _ => rfl | 14, _ => rfl | 15, _ => rfl | 16, _ => rfl | 17, _ => rfl | 18, _ => rfl | 19, _ => rfl | 20, _ => rfl | 21, _ => rfl | 22, _ => rfl | 23, _ => rfl | 24, _ => rfl | 25, _ => rfl | 26, _ => rfl | 27, _ => rfl | 28, _ => rfl | 29, _ => rfl | 30, _ => rfl | 31, _ => rfl | 32, _ => rfl | 33, _ => rfl | 34, _ => rfl | 35, _ => rfl | 36, _ => rfl | 37, _ => rfl | 38, _ => rfl | 39, _ => rfl | 40, _ => rfl | (y+41), h => absurd h nlt)) (fun y hy => match y, hy with | 0, _ => rfl | 1, _ => rfl | 2, _ => rfl | 3, _ => rfl | 4, _ => rfl | 5, _ => rfl | 6, _ => rfl | 7, _ => rfl | 8, _ => rfl | 9, _ => rfl | 10, _ => rfl | 11, _ => rfl | 12, _ => rfl | 13, _ => rfl | 14, _ => rfl | 15, _ => rfl | 16, _ => rfl | 17, _ => rfl | 18, _ => rfl | 19, _ => rfl | 20, _ => rfl | 21, _ => rfl | 22, _ => rfl | 23, _ => rfl | 24, _ => rfl | 25, _ => rfl | 26, _ => rfl | 27, _ => rfl | 28, _ => rfl | 29, _ => rfl | 30, _ => rfl | 31, _ => rfl | 32, _ => rfl | 33, _ => rfl | 34, _ => rfl | 35, _ => rfl | 36, _ => rfl | 37, _ => rfl | 38, _ => rfl | 39, _ => rfl | 40, _ => rfl | (y+41), h => absurd h nlt))), CvB_dead, trivial⟩
          simp only [tp]
          refine rg ctNo_ok ?_
          simp only [go_sem, Nat.reduceLeDiff, Nat.reduceLT, Nat.reduceAdd, Nat.reduceMul, Nat.reduceSub, Nat.reduceEqDiff, Nat.reduceBEq, Int.reduceToNat, reduceCtorEq, upc_ii]
          obtain rfl := Option.some.inj H
          refine ⟨[11, 7, 9, 0, 3, 4, 5, 6, 10], ?_, ?_, [], ?_, ?_, rfl⟩
          · simp only [go_sem, Nat.reduceEqDiff, Nat.reduceBEq, Nat.reduceAdd]
            try exact at0
          · simp only [go_sem, Nat.reduceEqDiff, Nat.reduceBEq, Nat.reduceAdd]
            try exact at0
          · simp only [go_sem, Nat.reduceEqDiff, Nat.reduceBEq, Nat.reduceAdd]
            exact Cv_tup (CvL_cons (Cv_agg (CvL_cons Cv_int (CvL_cons (ro_row (by first | rfl | simp) (fun _ _ _ _ => rfl)) CvL_nil))) (CvL_cons (Cv_agg (CvL_cons Cv_int (CvL_cons Cv_int (CvL_cons (ro_row (by first | rfl | simp) (fun _ _ _ _ => rfl)) (CvL_cons (ro_row (by first | rfl | simp) (fun _ _ _ _ => rfl)) CvL_nil))))) (CvL_cons Cv_int CvL_nil)))
          · simp only [go_sem, Nat.reduceEqDiff, Nat.reduceBEq, Nat.reduceAdd, CvH]
        have hk30 : (bEq (w1_5.length : Nat) 0) = true := by simpa using hc
        replace H := cond_t hc H
        refine regO ?_
        obtain ⟨r31, e32, H⟩ := bsi H
        refine cutO shT_ok ct29t6_ok 3 ?_
        simp only [kO_normal, List.take_succ_cons, List.take_zero, List.drop_succ_cons, List.drop_zero, go_sem, Nat.reduceLeDiff, Nat.reduceLT, Nat.reduceAdd, Nat.reduceMul, Nat.reduceSub, Nat.reduceEqDiff, Nat.reduceBEq, Int.reduceToNat, reduceCtorEq, upc_ii, ct29t6_57, body57, e32]
        repeat ((with_reducible refine And.intro ?_ ?_); focus exact an2)
        refine fzO [13] ?_ ?_
        · simp only [go_sem, Nat.reduceEqDiff, Nat.reduceBEq, Nat.reduceAdd]
          try exact at0
        simp only [go_sem, Nat.reduceEqDiff, Nat.reduceBEq, Nat.reduceAdd]
        refine cutO shT_ok ctNo_ok 4 ?_
        simp only [kO_normal, List.take_succ_cons, List.take_zero, List.drop_succ_cons, List.drop_zero, go_sem, Nat.reduceLeDiff, Nat.reduceLT, Nat.reduceAdd, Nat.reduceMul, Nat.reduceSub, Nat.reduceEqDiff, Nat.reduceBEq, Int.reduceToNat, reduceCtorEq, upc_ii]
        repeat ((with_reducible refine And.intro ?_ ?_); focus exact an2)
        refine endO ?_
        refine seqM ?_
        obtain ⟨f33, H⟩ := need_some.1 H
        replace f33 := inb_iff.1 f33
        refine rg ctNo_ok ?_
        simp only [go_sem, Nat.reduceLeDiff, Nat.reduceLT, Nat.reduceAdd, Nat.reduceMul, Nat.reduceSub, Nat.reduceEqDiff, Nat.reduceBEq, Int.reduceToNat, reduceCtorEq, upc_ii, (by decide : wr IntKind.i64 ((1 : Int) - 1) = 0), f33]
        repeat ((with_reducible refine And.intro ?_ ?_); focus exact an2)
        refine sq ctNo_ok ?_
        simp only [go_sem, Nat.reduceLeDiff, Nat.reduceLT, Nat.reduceAdd, Nat.reduceMul, Nat.reduceSub, Nat.reduceEqDiff, Nat.reduceBEq, Int.reduceToNat, reduceCtorEq, upc_ii]
        repeat ((with_reducible refine And.intro ?_ ?_); focus exact an5)
        refine seqM ?_
        refine draw_rule shT_ok ctNo_ok 0 (by kernel_rfl) (by kernel_rfl) ?_
        intro an han
        simp only [d_nil, d_cons, nxtD, xrD, xoD, roEq, minL, List.append_nil, refsOp, refs, refsL, mask, maskF, place, placeF, okLog, pairOk, hit, inL, slotsF, ren, renL, rnN, nrH, nrB, nrL, nr, dead0, deadS, List.replicate_zero, List.replicate_succ, Nat.sub_self, Nat.add_zero, Nat.zero_add, Nat.reduceSub, Nat.not_lt_zero, Nat.zero_le, Nat.lt_add_one, go_sem, Nat.reduceLeDiff, Nat.reduceLT, Nat.reduceAdd, Nat.reduceMul, Nat.reduceSub, Nat.reduceEqDiff, Nat.reduceBEq, Int.reduceToNat, reduceCtorEq, upc_ii]
        repeat ((with_reducible refine And.intro ?_ ?_); focus exact an7)
        refine fz2_mean [12] [7] ?_ ?_
        · simp only [go_sem, Nat.reduceEqDiff, Nat.reduceBEq, Nat.reduceAdd, fzObHF2, fzObB2]
          first | exact (foc_ob (L := r11.List) (i := r6.toNat) (fun a y => nrefL_getL (nr_TSleeper a) y) (fun x y hx => by simp only [upc_ne hx]) (fun y hy => match y, hy with | 0, _ => (by (simp [upc_ii, getL, fzOb, inL, geth, rowOb, enR, c_TSleeper]; all_goals (first | (with_reducible trivial) | (intros; exact nrefL_getL (NRf.h _) _) | (intros; exact nfc)))) | 1, _ => (by (simp [upc_ii, getL, fzOb, inL, geth, rowOb, enR, c_TSleeper]; all_goals (first | (with_reducible trivial) | (intros; exact nrefL_getL (NRf.h _) _) | (intros; exact nfc)))) | 2, _ => (by (simp [upc_ii, getL, fzOb, inL, geth, rowOb, enR, c_TSleeper]; all_goals (first | (with_reducible trivial) | (intros; exact nrefL_getL (NRf.h _) _) | (intros; exact nfc)))) | (y+3), h => absurd h nlt)) | (and_intros <;> first | exact (foc_ob (L := r11.List) (i := r6.toNat) (fun a y => nrefL_getL (nr_TSleeper a) y) (fun x y hx => by simp only [upc_ne hx]) (fun y hy => match y, hy with | 0, _ => (by (simp [upc_ii, getL, fzOb, inL, geth, rowOb, enR, c_TSleeper]; all_goals (first | (with_reducible trivial) | (intros; exact nrefL_getL (NRf.h _) _) | (intros; exact nfc)))) | 1, _ => (by (simp [upc_ii, getL, fzOb, inL, geth, rowOb, enR, c_TSleeper]; all_goals (first | (with_reducible trivial) | (intros; exact nrefL_getL (NRf.h _) _) | (intros; exact nfc)))) | 2, _ => (by (simp [upc_ii, getL, fzOb, inL, geth, rowOb, enR, c_TSleeper]; all_goals (first | (with_reducible trivial) | (intros; exact nrefL_getL (NRf.h _) _) | (intros; exact nfc)))) | (y+3), h => absurd h nlt)) | (with_reducible trivial) | omega | exact nfc | trivial)
        simp only [go_sem, Nat.reduceEqDiff, Nat.reduceBEq, Nat.reduceAdd, fzH2, fzHF2, fzB2]
        obtain ⟨w34, hw35, H⟩ := bsi H
        replace hw35 := Option.some.inj hw35
        have lhw35 : w34.length = r11.List.length := by rw [← hw35]; exact (by simp only [List.length_set])
        obtain ⟨w36, hw37, H⟩ := bsi H
        replace hw37 := Option.some.inj hw37
        have lhw37 : w36.length = 1 := by rw [← hw37]; exact cl
        refine subF_mean (t2 := (tp 10 (.ptr 5 0 0 0 :: .ptr 6 0 0 0 :: .int .i64 0 :: tp 127 []))) (h2 := [.lit 52 [.int .i64 r11.Limit, .int .i64 r11.Stay, .sl 7 3 0 w34.length false, .sl 9 43 0 r11.Group.length false], .dead, .dead, .lit 25 [.int .u8 p3.x0, .int .u8 p3.x1, .int .u8 p3.x2, .int .u8 p3.x3, .int .u8 p3.x4, .int .u8 p3.x5], .lit 25 [.int .u8 p4.x0, .int .u8 p4.x1, .int .u8 p4.x2, .int .u8 p4.x3, .int .u8 p4.x4, .int .u8 p4.x5], .lit 33 [.int .i64 p2, .sl 14 41 0 w36.length false], .lit 52 [.int .i64 r11.Limit, .int .i64 r11.Stay, .sl 7 3 0 w34.length false, .sl 9 43 0 r11.Group.length false], .row 71 3 w34.length (enR c_TSleeper w34), .dead, .row 73 43 r11.Group.length (enR c_TStored r11.Group), .lit 103 [.ro 43 w1_6.length false (enR c_TStored w1_6), .int .u8 p1.Deliver], .row 30 41 w1_5.length (enR c_TFrame w1_5), .dead, .dead, .row 30 41 w36.length (enR c_TFrame w36)]) ?_ ?_
        · refine SubF_of ⟨[some 0, some 1, some 2, some 3, some 4, some 5, some 6, some 7, some 8, some 9, some 10, some 11, some 12, some 13, some 14], ?_, ?_, by rfl, by rfl⟩
          · simp [CvL, Cv, getM, tp, tp, tpg, t8, lhw35, lhw37]
          · exact ⟨(by simp [CvB, CvL, Cv, blkAt, geth, getM, lhw35, lhw37]), CvB_dead, CvB_dead, (by simp [CvB, CvL, Cv, blkAt, geth, getM, lhw35, lhw37]), (by simp [CvB, CvL, Cv, blkAt, geth, getM, lhw35, lhw37]), (by simp [CvB, CvL, Cv, blkAt, geth, getM, lhw35, lhw37]), (by simp [CvB, CvL, Cv, blkAt, geth, getM, lhw35, lhw37]), CvB_row nr_TSleeper lhw35 (hw35 ▸ (foc_row (L := r11.List) (i := r6.toNat) (fun a y => nrefL_getL (nr_TSleeper a) y) (fun x y hx => by simp only [upc_ne hx]) (fun y hy => match y, hy with | 0, _ => by simp [upc_ii, getL, fzV, inL, geth, enR, c_TSleeper, sub_enR0] | 1, _ => by simp [upc_ii, getL, fzV, inL, geth, enR, c_TSleeper, sub_enR0] | 2, _ => by simp [upc_ii, getL, fzV, inL, geth, enR, c_TSleeper, sub_enR0] | (y+3), h => absurd h nlt))), CvB_dead, CvB_row nr_TStored rfl (fun _ _ _ _ => rfl), (by simp [CvB, CvL, Cv, blkAt, geth, getM, lhw35, lhw37]), CvB_row nr_TFrame rfl (fun _ _ _ _ => rfl), CvB_dead, CvB_dead, CvB_row nr_TFrame lhw37 (hw37 ▸ (upc_row (f := c_TFrame) ([r31].set 0 (TFrame.mk (THeader.mk (((gd [r31] 0).Head).Kind) (((gd [r31] 0).Head).Sub) (((gd [r31] 0).Head).ToDs) (((gd [r31] 0).Head).FromDs) (((gd [r31] 0).Head).More) (((gd [r31] 0).Head).Retry) (((gd [r31] 0).Head).Sleep) (((gd [r31] 0).Head).MoreData) (((gd [r31] 0).Head).Protected) (((gd [r31] 0).Head).Duration) (A6u8.mk ((((gd [r31] 0).Head).A1).x0) ((((gd [r31] 0).Head).A1).x1) ((((gd [r31] 0).Head).A1).x2) ((((gd [r31] 0).Head).A1).x3) ((((gd [r31] 0).Head).A1).x4) ((((gd [r31] 0).Head).A1).x5)) (A6u8.mk ((((gd [r31] 0).Head).A2).x0) ((((gd [r31] 0).Head).A2).x1) ((((gd [r31] 0).Head).A2).x2) ((((gd [r31] 0).Head).A2).x3) ((((gd [r31] 0).Head).A2).x4) ((((gd [r31] 0).Head).A2).x5)) (A6u8.mk ((((gd [r31] 0).Head).A3).x0) ((((gd [r31] 0).Head).A3).x1) ((((gd [r31] 0).Head).A3).x2) ((((gd [r31] 0).Head).A3).x3) ((((gd [r31] 0).Head).A3).x4) ((((gd [r31] 0).Head).A3).x5)) (A6u8.mk ((((gd [r31] 0).Head).A4).x0) ((((gd [r31] 0).Head).A4).x1) ((((gd [r31] 0).Head).A4).x2) ((((gd [r31] 0).Head).A4).x3) ((((gd [r31] 0).Head).A4).x4) ((((gd [r31] 0).Head).A4).x5)) (((gd [r31] 0).Head).Seq) (((gd [r31] 0).Head).Frag) (((gd [r31] 0).Head).Tid) (((gd [r31] 0).Head).Ack) (((gd [r31] 0).Head).Amsdu) true) ((gd [r31] 0).Body))) 0 7 ((fun qq33 => (TFrame.mk (THeader.mk qq33.Head.Kind qq33.Head.Sub qq33.Head.ToDs qq33.Head.FromDs qq33.Head.More qq33.Head.Retry qq33.Head.Sleep false qq33.Head.Protected qq33.Head.Duration (A6u8.mk qq33.Head.A1.x0 qq33.Head.A1.x1 qq33.Head.A1.x2 qq33.Head.A1.x3 qq33.Head.A1.x4 qq33.Head.A1.x5) (A6u8.mk qq33.Head.A2.x0 qq33.Head.A2.x1 qq33.Head.A2.x2 qq33.Head.A2.x3 qq33.Head.A2.x4 qq33.Head.A2.x5) (A6u8.mk qq33.Head.A3.x0 qq33.Head.A3.x1 qq33.Head.A3.x2 qq33.Head.A3.x3 qq33.Head.A3.x4 qq33.Head.A3.x5) (A6u8.mk qq33.Head.A4.x0 qq33.Head.A4.x1 qq33.Head.A4.x2 qq33.Head.A4.x3 qq33.Head.A4.x4 qq33.Head.A4.x5) qq33.Head.Seq qq33.Head.Frag qq33.Head.Tid qq33.Head.Ack qq33.Head.Amsdu qq33.Head.Eosp) qq33.Body)) (gd ([r31].set 0 (TFrame.mk (THeader.mk (((gd [r31] 0).Head).Kind) (((gd [r31] 0).Head).Sub) (((gd [r31] 0).Head).ToDs) (((gd [r31] 0).Head).FromDs) (((gd [r31] 0).Head).More) (((gd [r31] 0).Head).Retry) (((gd [r31] 0).Head).Sleep) (((gd [r31] 0).Head).MoreData) (((gd [r31] 0).Head).Protected) (((gd [r31] 0).Head).Duration) (A6u8.mk ((((gd [r31] 0).Head).A1).x0) ((((gd [r31] 0).Head).A1).x1) ((((gd [r31] 0).Head).A1).x2) ((((gd [r31] 0).Head).A1).x3) ((((gd [r31] 0).Head).A1).x4) ((((gd [r31] 0).Head).A1).x5)) (A6u8.mk ((((gd [r31] 0).Head).A2).x0) ((((gd [r31] 0).Head).A2).x1) ((((gd [r31] 0).Head).A2).x2) ((((gd [r31] 0).Head).A2).x3) ((((gd [r31] 0).Head).A2).x4) ((((gd [r31] 0).Head).A2).x5)) (A6u8.mk ((((gd [r31] 0).Head).A3).x0) ((((gd [r31] 0).Head).A3).x1) ((((gd [r31] 0).Head).A3).x2) ((((gd [r31] 0).Head).A3).x3) ((((gd [r31] 0).Head).A3).x4) ((((gd [r31] 0).Head).A3).x5)) (A6u8.mk ((((gd [r31] 0).Head).A4).x0) ((((gd [r31] 0).Head).A4).x1) ((((gd [r31] 0).Head).A4).x2) ((((gd [r31] 0).Head).A4).x3) ((((gd [r31] 0).Head).A4).x4) ((((gd [r31] 0).Head).A4).x5)) (((gd [r31] 0).Head).Seq) (((gd [r31] 0).Head).Frag) (((gd [r31] 0).Head).Tid) (((gd [r31] 0).Head).Ack) (((gd [r31] 0).Head).Amsdu) true) ((gd [r31] 0).Body))) 0)) (upc_row (f := c_TFrame) [r31] 0 39 (TFrame.mk (THeader.mk (((gd [r31] 0).Head).Kind) (((gd [r31] 0).Head).Sub) (((gd [r31] 0).Head).ToDs) (((gd [r31] 0).Head).FromDs) (((gd [r31] 0).Head).More) (((gd [r31] 0).Head).Retry) (((gd [r31] 0).Head).Sleep) (((gd [r31] 0).Head).MoreData) (((gd [r31] 0).Head).Protected) (((gd [r31] 0).Head).Duration) (A6u8.mk ((((gd [r31] 0).Head).A1).x0) ((((gd [r31] 0).Head).A1).x1) ((((gd [r31] 0).Head).A1).x2) ((((gd [r31] 0).Head).A1).x3) ((((gd [r31] 0).Head).A1).x4) ((((gd [r31] 0).Head).A1).x5)) (A6u8.mk ((((gd [r31] 0).Head).A2).x0) ((((gd [r31] 0).Head).A2).x1) ((((gd [r31] 0).Head).A2).x2) ((((gd [r31] 0).Head).A2).x3) ((((gd [r31] 0).Head).A2).x4) ((((gd [r31] 0).Head).A2).x5)) (A6u8.mk ((((gd [r31] 0).Head).A3).x0) ((((gd [r31] 0).Head).A3).x1) ((((gd [r31] 0).Head).A3).x2) ((((gd [r31] 0).Head).A3).x3) ((((gd [r31] 0).Head).A3).x4) ((((gd [r31] 0).Head).A3).x5)) (A6u8.mk ((((gd [r31] 0).Head).A4).x0) ((((gd [r31] 0).Head).A4).x1) ((((gd [r31] 0).Head).A4).x2) ((((gd [r31] 0).Head).A4).x3) ((((gd [r31] 0).Head).A4).x4) ((((gd [r31] 0).Head).A4).x5)) (((gd [r31] 0).Head).Seq) (((gd [r31] 0).Head).Frag) (((gd [r31] 0).Head).Tid) (((gd [r31] 0).Head).Ack) (((gd [r31] 0).Head).Amsdu) true) ((gd [r31] 0).Body)) (lit_row (f := c_TFrame) [r31] (fun _ _ => rfl) rfl) (fun y hy => match y, hy with | 0, _ => rfl | 1, _ => rfl | 2, _ => rfl | 3, _ => rfl | 4, _ => rfl | 5, _ => rfl | 6, _ => rfl | 7, _ => rfl | 8, _ => rfl | 9, _ => rfl | 10, _ => rfl | 11, _ => rfl | 12, _ => rfl | 13, _ => rfl | 14, _ => rfl | 15, _ => rfl | 16, _ => rfl | 17, _ => rfl | 18, _ => rfl | 19, _ => rfl | 20, _ => rfl | 21, _ => rfl | 22, _ => rfl | 23, _ => rfl | 24, _ => rfl | 25, _ => rfl | 26, _ => rfl | 27, _ => rfl | 28, _ => rfl | 29, _ => rfl | 30, _ => rfl | 31, _ => rfl | 32, _ => rfl | 33, _ => rfl | 34, _ => rfl | 35, _ => rfl | 36, _ => rfl | 37, _ => rfl | 38, _ => rfl | 39, _ => rfl | 40, _ => rfl | (y+41), h => absurd h nlt)) (fun y hy => match y, hy with | 0, _ => rfl | 1, _ => rfl | 2, _ => rfl | 3, _ => rfl | 4, _ => rfl | 5, _ => rfl | 6, _ => rfl | 7, _ => rfl | 8, _ => rfl | 9, _ => rfl | 10, _ => rfl | 11, _ => rfl | 12, _ => rfl | 13, _ => rfl | 14, _ => rfl | 15, _ => rfl | 16, _ => rfl | 17, _ => rfl | 18, _ => rfl | 19, _ => rfl | 20, _ => rfl | 21, _ => rfl | 22, _ => rfl | 23, _ => rfl | 24, _ => rfl | 25, _ => rfl | 26, _ => rfl | 27, _ => rfl | 28, _ => rfl | 29, _ => rfl | 30, _ => rfl | 31, _ => rfl | 32, _ => rfl | 33, _ => rfl | 34, _ => rfl | 35, _ => rfl | 36, _ => rfl | 37, _ => rfl | 38, _ => rfl | 39, _ => rfl | 40, _ => rfl | (y+41), h => absurd h nlt))), trivial⟩
        simp only [tp]
        refine rg ctNo_ok ?_
        simp only [go_sem, Nat.reduceLeDiff, Nat.reduceLT, Nat.reduceAdd, Nat.reduceMul, Nat.reduceSub, Nat.reduceEqDiff, Nat.reduceBEq, Int.reduceToNat, reduceCtorEq, upc_ii]
        obtain rfl := Option.some.inj H
        refine ⟨[14, 7, 9, 0, 3, 4, 5, 6, 10], ?_, ?_, [], ?_, ?_, rfl⟩
        · simp only [go_sem, Nat.reduceEqDiff, Nat.reduceBEq, Nat.reduceAdd]
          try exact at0
        · simp only [go_sem, Nat.reduceEqDiff, Nat.reduceBEq, Nat.reduceAdd]
          try exact at0
        · simp only [go_sem, Nat.reduceEqDiff, Nat.reduceBEq, Nat.reduceAdd]
          exact Cv_tup (CvL_cons (Cv_agg (CvL_cons Cv_int (CvL_cons (ro_row (by first | rfl | simp) (fun _ _ _ _ => rfl)) CvL_nil))) (CvL_cons (Cv_agg (CvL_cons Cv_int (CvL_cons Cv_int (CvL_cons (ro_row (by first | rfl | simp) (fun _ _ _ _ => rfl)) (CvL_cons (ro_row (by first | rfl | simp) (fun _ _ _ _ => rfl)) CvL_nil))))) (CvL_cons Cv_int CvL_nil)))
        · simp only [go_sem, Nat.reduceEqDiff, Nat.reduceBEq, Nat.reduceAdd, CvH]
    · cases hb
  · unfold body29 at hb
    split at hb <;> cases hb
/-! hotspot/buffer.place$1 -/
noncomputable def F82 (p0 : TSleeper) (p1 : Int) : Option (Int) :=
  some (wr .i64 (p0.Aid - p1))
noncomputable def body82 : List AV -> AR
  | [v0, v1] => .pure (aK 3 k_TSleeper v0 /\ iK .i64 v1 /\ (F82 (g_TSleeper (aL v0)) (iA v1)).isSome = true) (.int .i64 (gt (F82 (g_TSleeper (aL v0)) (iA v1))))
  | _ => .fail
set_option maxHeartbeats 4000000 in
set_option maxRecDepth 20000 in
theorem ok82 : FnOk Try.prog 82 (pureC body82) := by
  refine pure_fnM body82 (rs := [.tmp 4]) Try.func82 (by kernel_rfl) rfl rfl ?_
  intro l ob v hb hob
  unfold body82 at hb
  split at hb
  · rename_i v0 v1
    injection hb with q1 q2; subst q1 q2
    obtain ⟨hk0_0, hk1_0, hob⟩ := hob
    obtain ⟨r, H⟩ := Option.isSome_iff_exists.1 hob
    rw [H, gt_some]
    have hw0 := wA_TSleeper hk0_0
    have hw1 := iK_wk hk1_0
    generalize g_TSleeper (aL v0) = p0 at H hw0
    generalize iA v1 = p1 at H hw1
    refine ⟨[.agg [.int .i64 p0.Aid, .bool p0.Asleep, .ro 43 p0.Held.length false (enR c_TStored p0.Held)], .int .i64 p1], _, (fun E vs F => FR_wk1 hw0.1 F (fun vs F => FR_wk1 hw1.1 F (fun vs F => F))), rfl, rfl, ?_⟩
    rw [Try.ntmps82]
    simp only [List.length_cons, List.length_nil, Nat.reduceAdd, Nat.reduceSub, List.replicate_succ, List.replicate_zero, List.cons_append, List.nil_append]
    unfold F82 at H
    try dsimp only at H
    refine sq ctNo_ok ?_
    simp only [go_sem, Nat.reduceLeDiff, Nat.reduceLT, Nat.reduceAdd, Nat.reduceMul, Nat.reduceSub, Nat.reduceEqDiff, Nat.reduceBEq, Int.reduceToNat, reduceCtorEq]
    refine sq ctNo_ok ?_
    simp only [go_sem, Nat.reduceLeDiff, Nat.reduceLT, Nat.reduceAdd, Nat.reduceMul, Nat.reduceSub, Nat.reduceEqDiff, Nat.reduceBEq, Int.reduceToNat, reduceCtorEq]
    repeat ((with_reducible refine And.intro ?_ ?_); focus exact an5)
    refine rg ctNo_ok ?_
    simp only [go_sem, Nat.reduceLeDiff, Nat.reduceLT, Nat.reduceAdd, Nat.reduceMul, Nat.reduceSub, Nat.reduceEqDiff, Nat.reduceBEq, Int.reduceToNat, reduceCtorEq]
    obtain rfl := Option.some.inj H
    first | rfl | simp only [Bool.and_false, Bool.false_and, Bool.and_true, Bool.true_and]
  · cases hb
/-! slices.BinarySearchFunc[[]hotspot/api.Sleeper,hotspot/api.Sleeper,int] -/
noncomputable def ct81_0t0 : Ct := tab [(82, pureC body82)]
theorem ct81_0t0_ok : CtOk Try.prog ct81_0t0 := tab_cons ok82 <| tab_nil
theorem ct81_0t0_82 (l : List AV) (h : List ABlk) : ct81_0t0 82 l h = pureC body82 l h := rfl
noncomputable def F81_0_L1 (p0 : List TSleeper) (p1 : Int) (v1_1 : Int) (v1_2 : Int) : Option (Lp (Int × Int) ((Int) ⊕ (Int × Bool))) :=
  bif (bLt v1_1 v1_2) then (need (inb (wr .i64 (shrI .u64 (wr .u64 (wr .i64 (v1_1 + v1_2))) 1)) p0.length) <| (F82 (gd p0 ((wr .i64 (shrI .u64 (wr .u64 (wr .i64 (v1_1 + v1_2))) 1)).toNat)) p1).bind fun r3 => bif (bLt r3 0) then (some (.next (wr .i64 ((wr .i64 (shrI .u64 (wr .u64 (wr .i64 (v1_1 + v1_2))) 1)) + 1), v1_2))) else (some (.next (v1_1, wr .i64 (shrI .u64 (wr .u64 (wr .i64 (v1_1 + v1_2))) 1))))) else (some (.done (.inl v1_1)))
noncomputable def F81_0 (p0 : List TSleeper) (p1 : Int) : Option (Int × Bool) :=
  lp (loopD (fun s => F81_0_L1 p0 p1 s.1 s.2) (0, (p0.length : Nat))) (fun w1_3 => need (bif (bLt w1_3 (p0.length : Nat)) then inb w1_3 p0.length else true) <| need (bif (bLt w1_3 (p0.length : Nat)) then ((F82 (gd p0 w1_3.toNat) p1).isSome) else true) <| some (w1_3, ((bLt w1_3 (p0.length : Nat)) && (bEq (gt (F82 (gd p0 w1_3.toNat) p1)) 0)))) some
noncomputable def body81_0 : List AV -> AR
  | [v0, v1, .fn 82 []] => .pure (lK k_TSleeper 3 v0 /\ iK .i64 v1 /\ (F81_0 (lA g_TSleeper v0) (iA v1)).isSome = true) (.tup [.int .i64 ((gt (F81_0 (lA g_TSleeper v0) (iA v1))).1), .bool ((gt (F81_0 (lA g_TSleeper v0) (iA v1))).2)])
  | _ => .fail
set_option maxHeartbeats 4000000 in
set_option maxRecDepth 20000 in
theorem ok81_0 : FnOk Try.prog 81 (pureC body81_0) := by
  refine pure_fnM body81_0 (rs := [.tmp 6, .tmp 7]) Try.func81 (by kernel_rfl) rfl rfl ?_
  intro l ob v hb hob
  unfold body81_0 at hb
  split at hb
  · rename_i v0 v1
    injection hb with q1 q2; subst q1 q2
    obtain ⟨hk0_0, hk1_0, hob⟩ := hob
    obtain ⟨r, H⟩ := Option.isSome_iff_exists.1 hob
    rw [H, gt_some]
    have hw0 := lK_wk (fun r h => w_TSleeper h) hk0_0
    have hw1 := iK_wk hk1_0
    generalize lA g_TSleeper v0 = p0 at H hw0
    generalize iA v1 = p1 at H hw1
    refine ⟨[.ro 3 p0.length false (enR c_TSleeper p0), .int .i64 p1, .fn 82 []], _, (fun E vs F => FR_wk1 hw0.1 F (fun vs F => FR_wk1 hw1.1 F (fun vs F => FR_wk1 (fn_wk LW_nil) F (fun vs F => F)))), rfl, rfl, ?_⟩
    rw [Try.ntmps81]
    simp only [List.length_cons, List.length_nil, Nat.reduceAdd, Nat.reduceSub, List.replicate_succ, List.replicate_zero, List.cons_append, List.nil_append]
    unfold F81_0 at H
    try dsimp only at H
    refine sq ctNo_ok ?_
    simp only [go_sem, Nat.reduceLeDiff, Nat.reduceLT, Nat.reduceAdd, Nat.reduceMul, Nat.reduceSub, Nat.reduceEqDiff, Nat.reduceBEq, Int.reduceToNat, reduceCtorEq]
    refine sq ctNo_ok ?_
    simp only [go_sem, Nat.reduceLeDiff, Nat.reduceLT, Nat.reduceAdd, Nat.reduceMul, Nat.reduceSub, Nat.reduceEqDiff, Nat.reduceBEq, Int.reduceToNat, reduceCtorEq]
    repeat ((with_reducible refine And.intro ?_ ?_); focus exact an0)
    refine sq ctNo_ok ?_
    simp only [go_sem, Nat.reduceLeDiff, Nat.reduceLT, Nat.reduceAdd, Nat.reduceMul, Nat.reduceSub, Nat.reduceEqDiff, Nat.reduceBEq, Int.reduceToNat, reduceCtorEq]
    refine seqM ?_
    refine blkM ?_
    refine loop_den (fun s : Int × Int => (.ro 3 p0.length false (enR c_TSleeper p0) :: .int .i64 p1 :: .fn 82 [] :: tp 5 (.int .i64 (p0.length : Nat) :: .int .i64 s.1 :: .int .i64 s.2 :: tp 38 []))) (fun s => []) (fun e : Int => (.ro 3 p0.length false (enR c_TSleeper p0) :: .int .i64 p1 :: .fn 82 [] :: tp 5 (.int .i64 (p0.length : Nat) :: .int .i64 e :: tp 39 []))) (fun e => []) H ?_ (fun s o H hn1_1 hn2_1 => ?_) (fun w1_3 H => ?_)
    · refine SubF_of ⟨[], ?_, ?_, by rfl, by rfl⟩
      · simp [CvL, Cv, getM, tp, tp, tpg, t8]
      · trivial
    · obtain ⟨v1_1, v1_2⟩ := s
      unfold F81_0_L1 at H
      try dsimp only at H ⊢
      try simp only [tp]
      refine seqM ?_
      refine sq ctNo_ok ?_
      simp only [go_sem, Nat.reduceLeDiff, Nat.reduceLT, Nat.reduceAdd, Nat.reduceMul, Nat.reduceSub, Nat.reduceEqDiff, Nat.reduceBEq, Int.reduceToNat, reduceCtorEq]
      refine condM' rfl trivial (fun hc => ?_) (fun hc => ?_)
      · have hk1 : (bLt v1_1 v1_2) = false := by simpa using hc
        replace H := cond_f hc H
        refine rg ctNo_ok ?_
        simp only [go_sem, Nat.reduceLeDiff, Nat.reduceLT, Nat.reduceAdd, Nat.reduceMul, Nat.reduceSub, Nat.reduceEqDiff, Nat.reduceBEq, Int.reduceToNat, reduceCtorEq]
        refine ⟨_, (Option.some.inj H).symm, ?_⟩
        refine SubF_of ⟨[], ?_, ?_, by rfl, by rfl⟩
        · simp [CvL, Cv, getM, tp, tp, tpg, t8]
        · trivial
      have hk1 : (bLt v1_1 v1_2) = true := by simpa using hc
      replace H := cond_t hc H
      refine rg ctNo_ok ?_
      simp only [go_sem, Nat.reduceLeDiff, Nat.reduceLT, Nat.reduceAdd, Nat.reduceMul, Nat.reduceSub, Nat.reduceEqDiff, Nat.reduceBEq, Int.reduceToNat, reduceCtorEq]
      refine blkM ?_
      refine sq ctNo_ok ?_
      simp only [go_sem, Nat.reduceLeDiff, Nat.reduceLT, Nat.reduceAdd, Nat.reduceMul, Nat.reduceSub, Nat.reduceEqDiff, Nat.reduceBEq, Int.reduceToNat, reduceCtorEq]
      repeat ((with_reducible refine And.intro ?_ ?_); focus exact an5)
      refine seqM ?_
      obtain ⟨f2, H⟩ := need_some.1 H
      replace f2 := inb_iff.1 f2
      obtain ⟨r3, e4, H⟩ := bsi H
      refine rg ct81_0t0_ok ?_
      simp only [go_sem, Nat.reduceLeDiff, Nat.reduceLT, Nat.reduceAdd, Nat.reduceMul, Nat.reduceSub, Nat.reduceEqDiff, Nat.reduceBEq, Int.reduceToNat, reduceCtorEq, ct81_0t0_82, body82, f2, e4]
      repeat ((with_reducible refine And.intro ?_ ?_); focus exact an0)
      refine condM rfl trivial (fun hc => ?_) (fun hc => ?_)
      · have hk5 : (bLt r3 0) = true := by simpa using hc
        replace H := cond_t hc H
        refine rg ctNo_ok ?_
        simp only [go_sem, Nat.reduceLeDiff, Nat.reduceLT, Nat.reduceAdd, Nat.reduceMul, Nat.reduceSub, Nat.reduceEqDiff, Nat.reduceBEq, Int.reduceToNat, reduceCtorEq]
        refine ⟨_, (Option.some.inj H).symm, ?_⟩
        refine SubF_of ⟨[], ?_, ?_, by rfl, by rfl⟩
        · simp [CvL, Cv, getM, tp, tp, tpg, t8]
        · trivial
      have hk5 : (bLt r3 0) = false := by simpa using hc
      replace H := cond_f hc H
      refine rg ctNo_ok ?_
      simp only [go_sem, Nat.reduceLeDiff, Nat.reduceLT, Nat.reduceAdd, Nat.reduceMul, Nat.reduceSub, Nat.reduceEqDiff, Nat.reduceBEq, Int.reduceToNat, reduceCtorEq]
      refine ⟨_, (Option.some.inj H).symm, ?_⟩
      refine SubF_of ⟨[], ?_, ?_, by rfl, by rfl⟩
      · simp [CvL, Cv, getM, tp, tp, tpg, t8]
      · trivial
    · try dsimp only at H ⊢
      try simp only [tp]
      try simp only [m_normal, k_normal, b_normal, kL_normal, r_normal]
      refine seqM ?_
      obtain ⟨f6, H⟩ := need_some.1 H
      replace f6 := g_iff.1 f6
      replace f6 := fun g => inb_iff.1 (f6 g)
      obtain ⟨f7, H⟩ := need_some.1 H
      replace f7 := g_iff.1 f7
      refine rg ct81_0t0_ok ?_
      simp only [go_sem, Nat.reduceLeDiff, Nat.reduceLT, Nat.reduceAdd, Nat.reduceMul, Nat.reduceSub, Nat.reduceEqDiff, Nat.reduceBEq, Int.reduceToNat, reduceCtorEq, ct81_0t0_82, body82]
      repeat ((with_reducible refine And.intro ?_ ?_); focus (first | (with_reducible trivial) | omega | exact f6 | exact f7 | (intro g; have q := f6 (by first | exact g | (rw [g]; rfl) | simpa using g); first | exact q | exact ⟨q.1, q.2.1⟩ | exact q.2.2 | omega | exact ⟨g, q⟩ | exact ⟨trivial, q⟩ | exact ⟨g, q.1, q.2.1⟩ | exact ⟨g, q.2.2⟩) | (intro g; have q := f7 (by first | exact g | (rw [g]; rfl) | simpa using g); first | exact q | exact ⟨q.1, q.2.1⟩ | exact q.2.2 | omega | exact ⟨g, q⟩ | exact ⟨trivial, q⟩ | exact ⟨g, q.1, q.2.1⟩ | exact ⟨g, q.2.2⟩) | (intro g; (try have q0 := f6 (by first | exact g | (rw [g]; rfl) | simpa using g)); (try have q1 := f7 (by first | exact g | (rw [g]; rfl) | simpa using g)); and_intros <;> first | (with_reducible trivial) | assumption | exact nfc | (intro g2; rw [g, g2]; rfl) | (intro g2; assumption) | (simp only [g, Bool.true_and, Bool.and_true, Bool.not_false, Bool.not_true]; assumption) | grind) | (and_intros <;> first | (with_reducible trivial) | omega | assumption | exact nfc | first | exact rfl | exact trivial | exact fitI | exact .inr rfl | exact .inl rfl | exact fun x hx => absurd hx (by omega)) | grind))
      refine rg ctNo_ok ?_
      simp only [go_sem, Nat.reduceLeDiff, Nat.reduceLT, Nat.reduceAdd, Nat.reduceMul, Nat.reduceSub, Nat.reduceEqDiff, Nat.reduceBEq, Int.reduceToNat, reduceCtorEq]
      obtain rfl := Option.some.inj H
      first | rfl | simp only [Bool.and_false, Bool.false_and, Bool.and_true, Bool.true_and]
  · cases hb
/-! hotspot/buffer.place -/
noncomputable def ct78t0 : Ct := tab [(81, pureC body81_0)]
theorem ct78t0_ok : CtOk Try.prog ct78t0 := tab_cons ok81_0 <| tab_nil
theorem ct78t0_81 (l : List AV) (h : List ABlk) : ct78t0 81 l h = pureC body81_0 l h := rfl
noncomputable def F78 (p0 : TBuffer) (p1 : Int) : Option (Int × Bool) :=
  (F81_0 p0.List p1).bind fun r1 => some (r1.1, r1.2)
noncomputable def body78 : List AV -> AR
  | [v0, v1] => .pure (aK 4 k_TBuffer v0 /\ iK .i64 v1 /\ (F78 (g_TBuffer (aL v0)) (iA v1)).isSome = true) (.tup [.int .i64 ((gt (F78 (g_TBuffer (aL v0)) (iA v1))).1), .bool ((gt (F78 (g_TBuffer (aL v0)) (iA v1))).2)])
  | _ => .fail
set_option maxHeartbeats 4000000 in
set_option maxRecDepth 20000 in
theorem ok78 : FnOk Try.prog 78 (pureC body78) := by
  refine pure_fnM body78 (rs := [.tmp 4, .tmp 5]) Try.func78 (by kernel_rfl) rfl rfl ?_
  intro l ob v hb hob
  unfold body78 at hb
  split at hb
  · rename_i v0 v1
    injection hb with q1 q2; subst q1 q2
    obtain ⟨hk0_0, hk1_0, hob⟩ := hob
    obtain ⟨r, H⟩ := Option.isSome_iff_exists.1 hob
    rw [H, gt_some]
    have hw0 := wA_TBuffer hk0_0
    have hw1 := iK_wk hk1_0
    generalize g_TBuffer (aL v0) = p0 at H hw0
    generalize iA v1 = p1 at H hw1
    refine ⟨[.agg [.int .i64 p0.Limit, .int .i64 p0.Stay, .ro 3 p0.List.length false (enR c_TSleeper p0.List), .ro 43 p0.Group.length false (enR c_TStored p0.Group)], .int .i64 p1], _, (fun E vs F => FR_wk1 hw0.1 F (fun vs F => FR_wk1 hw1.1 F (fun vs F => F))), rfl, rfl, ?_⟩
    rw [Try.ntmps78]
    simp only [List.length_cons, List.length_nil, Nat.reduceAdd, Nat.reduceSub, List.replicate_succ, List.replicate_zero, List.cons_append, List.nil_append]
    unfold F78 at H
    try dsimp only at H
    refine sq ctNo_ok ?_
    simp only [go_sem, Nat.reduceLeDiff, Nat.reduceLT, Nat.reduceAdd, Nat.reduceMul, Nat.reduceSub, Nat.reduceEqDiff, Nat.reduceBEq, Int.reduceToNat, reduceCtorEq]
    refine seqM ?_
    obtain ⟨r1, e2, H⟩ := bsi H
    refine rg ct78t0_ok ?_
    simp only [go_sem, Nat.reduceLeDiff, Nat.reduceLT, Nat.reduceAdd, Nat.reduceMul, Nat.reduceSub, Nat.reduceEqDiff, Nat.reduceBEq, Int.reduceToNat, reduceCtorEq, ct78t0_81, body81_0, e2]
    repeat ((with_reducible refine And.intro ?_ ?_); focus exact an0)
    refine rg ctNo_ok ?_
    simp only [go_sem, Nat.reduceLeDiff, Nat.reduceLT, Nat.reduceAdd, Nat.reduceMul, Nat.reduceSub, Nat.reduceEqDiff, Nat.reduceBEq, Int.reduceToNat, reduceCtorEq]
    obtain rfl := Option.some.inj H
    first | rfl | simp only [Bool.and_false, Bool.false_and, Bool.and_true, Bool.true_and]
  · cases hb
/-! hotspot/buffer.queue -/
noncomputable def ct83t0 : Ct := tab [(44, edC body44)]
theorem ct83t0_ok : CtOk Try.prog ct83t0 := tab_cons ok44 <| tab_nil
theorem ct83t0_44 (l : List AV) (h : List ABlk) : ct83t0 44 l h = edC body44 l h := rfl
noncomputable def F83_L1 (p0 : List TStored) (v1_1 : List TStored) (v1_2 : Int) : Option (Lp ((List TStored) × Int) ((List TStored) ⊕ (List TStored))) :=
  bif (bLt v1_2 (p0.length : Nat)) then (need (inb v1_2 p0.length) <| (F44 (TFrame.mk (THeader.mk ((((gd p0 v1_2.toNat).Frame).Head).Kind) ((((gd p0 v1_2.toNat).Frame).Head).Sub) ((((gd p0 v1_2.toNat).Frame).Head).ToDs) ((((gd p0 v1_2.toNat).Frame).Head).FromDs) ((((gd p0 v1_2.toNat).Frame).Head).More) ((((gd p0 v1_2.toNat).Frame).Head).Retry) ((((gd p0 v1_2.toNat).Frame).Head).Sleep) ((((gd p0 v1_2.toNat).Frame).Head).MoreData) ((((gd p0 v1_2.toNat).Frame).Head).Protected) ((((gd p0 v1_2.toNat).Frame).Head).Duration) (A6u8.mk (((((gd p0 v1_2.toNat).Frame).Head).A1).x0) (((((gd p0 v1_2.toNat).Frame).Head).A1).x1) (((((gd p0 v1_2.toNat).Frame).Head).A1).x2) (((((gd p0 v1_2.toNat).Frame).Head).A1).x3) (((((gd p0 v1_2.toNat).Frame).Head).A1).x4) (((((gd p0 v1_2.toNat).Frame).Head).A1).x5)) (A6u8.mk (((((gd p0 v1_2.toNat).Frame).Head).A2).x0) (((((gd p0 v1_2.toNat).Frame).Head).A2).x1) (((((gd p0 v1_2.toNat).Frame).Head).A2).x2) (((((gd p0 v1_2.toNat).Frame).Head).A2).x3) (((((gd p0 v1_2.toNat).Frame).Head).A2).x4) (((((gd p0 v1_2.toNat).Frame).Head).A2).x5)) (A6u8.mk (((((gd p0 v1_2.toNat).Frame).Head).A3).x0) (((((gd p0 v1_2.toNat).Frame).Head).A3).x1) (((((gd p0 v1_2.toNat).Frame).Head).A3).x2) (((((gd p0 v1_2.toNat).Frame).Head).A3).x3) (((((gd p0 v1_2.toNat).Frame).Head).A3).x4) (((((gd p0 v1_2.toNat).Frame).Head).A3).x5)) (A6u8.mk (((((gd p0 v1_2.toNat).Frame).Head).A4).x0) (((((gd p0 v1_2.toNat).Frame).Head).A4).x1) (((((gd p0 v1_2.toNat).Frame).Head).A4).x2) (((((gd p0 v1_2.toNat).Frame).Head).A4).x3) (((((gd p0 v1_2.toNat).Frame).Head).A4).x4) (((((gd p0 v1_2.toNat).Frame).Head).A4).x5)) ((((gd p0 v1_2.toNat).Frame).Head).Seq) ((((gd p0 v1_2.toNat).Frame).Head).Frag) ((((gd p0 v1_2.toNat).Frame).Head).Tid) ((((gd p0 v1_2.toNat).Frame).Head).Ack) ((((gd p0 v1_2.toNat).Frame).Head).Amsdu) ((((gd p0 v1_2.toNat).Frame).Head).Eosp)) (((gd p0 v1_2.toNat).Frame).Body))).bind fun r3 => need (capb 120 (v1_1.length + 1)) <| some (.next ((v1_1 ++ [(TStored.mk ((gd p0 v1_2.toNat).Cat) ((gd p0 v1_2.toNat).At) (TFrame.mk (THeader.mk r3.Head.Kind r3.Head.Sub r3.Head.ToDs r3.Head.FromDs r3.Head.More r3.Head.Retry r3.Head.Sleep r3.Head.MoreData r3.Head.Protected r3.Head.Duration (A6u8.mk r3.Head.A1.x0 r3.Head.A1.x1 r3.Head.A1.x2 r3.Head.A1.x3 r3.Head.A1.x4 r3.Head.A1.x5) (A6u8.mk r3.Head.A2.x0 r3.Head.A2.x1 r3.Head.A2.x2 r3.Head.A2.x3 r3.Head.A2.x4 r3.Head.A2.x5) (A6u8.mk r3.Head.A3.x0 r3.Head.A3.x1 r3.Head.A3.x2 r3.Head.A3.x3 r3.Head.A3.x4 r3.Head.A3.x5) (A6u8.mk r3.Head.A4.x0 r3.Head.A4.x1 r3.Head.A4.x2 r3.Head.A4.x3 r3.Head.A4.x4 r3.Head.A4.x5) r3.Head.Seq r3.Head.Frag r3.Head.Tid r3.Head.Ack r3.Head.Amsdu r3.Head.Eosp) r3.Body))]), wr .i64 (v1_2 + 1)))) else (some (.done (.inl v1_1)))
noncomputable def F83 (p0 : List TStored) : Option (List TStored) :=
  lp (loopD (fun s => F83_L1 p0 s.1 s.2) ([], 0)) (fun w1_3 => some w1_3) some
noncomputable def body83 : List AV -> Nat -> AR
  | [v0], s => .heap (lK k_TStored 43 v0 /\ (F83 (lA g_TStored v0)).isSome = true) (.sl s 43 0 ((gt (F83 (lA g_TStored v0))).length) false) [.row 73 43 ((gt (F83 (lA g_TStored v0))).length) (enR c_TStored (gt (F83 (lA g_TStored v0))))]
  | _, _ => .fail
set_option maxHeartbeats 4000000 in
set_option maxRecDepth 20000 in
theorem ok83 : FnOk Try.prog 83 (genC body83) := by
  refine gen_fn body83 (rs := [.tmp 2]) Try.func83 (by kernel_rfl) rfl rfl ?_
  intro l s ob v ns hb hob
  rcases hb with ⟨hb, rfl⟩ | hb
  · unfold body83 at hb
    split at hb <;> cases hb
  · unfold body83 at hb
    split at hb
    · rename_i v0
      injection hb with q1 q2 q3; subst q1 q2 q3
      obtain ⟨hk0_0, hob⟩ := hob
      obtain ⟨r, H⟩ := Option.isSome_iff_exists.1 hob
      rw [H, gt_some]
      have hw0 := lK_wk (fun r h => w_TStored h) hk0_0
      generalize lA g_TStored v0 = p0 at H hw0
      refine ⟨[.ro 43 p0.length false (enR c_TStored p0)], .sl 0 43 0 r.length false, [.row 73 43 r.length (enR c_TStored r)], (fun E vs F => FR_wk1 hw0.1 F (fun vs F => F)), by simp only [ren, renL, rnN_0, rnN_s, Nat.zero_add, Nat.reduceAdd], ⟨RenB_row nr_TStored, trivial⟩, ?_⟩
      rw [Try.ntmps83]
      simp only [List.length_cons, List.length_nil, Nat.reduceAdd, Nat.reduceSub, List.replicate_succ, List.replicate_zero, List.cons_append, List.nil_append]
      unfold F83 at H
      try dsimp only at H
      refine sq ctNo_ok ?_
      simp only [go_sem, Nat.reduceLeDiff, Nat.reduceLT, Nat.reduceAdd, Nat.reduceMul, Nat.reduceSub, Nat.reduceEqDiff, Nat.reduceBEq, Int.reduceToNat, reduceCtorEq]
      refine seqM ?_
      refine sq ctNo_ok ?_
      simp only [go_sem, Nat.reduceLeDiff, Nat.reduceLT, Nat.reduceAdd, Nat.reduceMul, Nat.reduceSub, Nat.reduceEqDiff, Nat.reduceBEq, Int.reduceToNat, reduceCtorEq]
      repeat ((with_reducible refine And.intro ?_ ?_); focus exact an0)
      refine blkM ?_
      refine loop_den (fun s : (List TStored) × Int => (.top :: .top :: .sl 0 43 0 s.1.length false :: .top :: .top :: .ro 43 p0.length false (enR c_TStored p0) :: .int .i64 (p0.length : Nat) :: .int .i64 s.2 :: tp 13 [])) (fun s => [.row 73 43 s.1.length (enR c_TStored s.1)]) (fun e : List TStored => (.top :: .top :: .sl 0 43 0 e.length false :: tp 18 [])) (fun e => [.row 73 43 e.length (enR c_TStored e)]) H ?_ (fun s o H hn1_1 hn2_1 => ?_) (fun w1_3 H => ?_)
      · refine SubF_of ⟨[none], ?_, ?_, by rfl, by rfl⟩
        · simp [CvL, Cv, getM, tp, tp, tpg, t8]
        · exact ⟨CvB_none, trivial⟩
      · obtain ⟨v1_1, v1_2⟩ := s
        unfold F83_L1 at H
        try dsimp only at H ⊢
        try simp only [tp]
        refine sq ctNo_ok ?_
        simp only [go_sem, Nat.reduceLeDiff, Nat.reduceLT, Nat.reduceAdd, Nat.reduceMul, Nat.reduceSub, Nat.reduceEqDiff, Nat.reduceBEq, Int.reduceToNat, reduceCtorEq]
        refine seqM ?_
        refine condM' rfl trivial (fun hc => ?_) (fun hc => ?_)
        · have hk1 : (bLt v1_2 (p0.length : Nat)) = false := by simpa using hc
          replace H := cond_f hc H
          refine rg ctNo_ok ?_
          simp only [go_sem, Nat.reduceLeDiff, Nat.reduceLT, Nat.reduceAdd, Nat.reduceMul, Nat.reduceSub, Nat.reduceEqDiff, Nat.reduceBEq, Int.reduceToNat, reduceCtorEq]
          refine ⟨_, (Option.some.inj H).symm, ?_⟩
          refine SubF_of ⟨[some 0], ?_, ?_, by rfl, by rfl⟩
          · simp [CvL, Cv, getM, tp, tp, tpg, t8]
          · exact ⟨CvB_row nr_TStored cl (fun _ _ _ _ => rfl), trivial⟩
        have hk1 : (bLt v1_2 (p0.length : Nat)) = true := by simpa using hc
        replace H := cond_t hc H
        refine rg ctNo_ok ?_
        simp only [go_sem, Nat.reduceLeDiff, Nat.reduceLT, Nat.reduceAdd, Nat.reduceMul, Nat.reduceSub, Nat.reduceEqDiff, Nat.reduceBEq, Int.reduceToNat, reduceCtorEq]
        refine seqM ?_
        refine blkM ?_
        refine seqM ?_
        obtain ⟨f2, H⟩ := need_some.1 H
        replace f2 := inb_iff.1 f2
        refine rg ctNo_ok ?_
        simp only [go_sem, Nat.reduceLeDiff, Nat.reduceLT, Nat.reduceAdd, Nat.reduceMul, Nat.reduceSub, Nat.reduceEqDiff, Nat.reduceBEq, Int.reduceToNat, reduceCtorEq, f2]
        repeat ((with_reducible refine And.intro ?_ ?_); focus exact an5)
        refine seqM ?_
        obtain ⟨r3, e4, H⟩ := bsi H
        refine rg ct83t0_ok ?_
        simp only [go_sem, Nat.reduceLeDiff, Nat.reduceLT, Nat.reduceAdd, Nat.reduceMul, Nat.reduceSub, Nat.reduceEqDiff, Nat.reduceBEq, Int.reduceToNat, reduceCtorEq, ct83t0_44, body44, e4]
        repeat ((with_reducible refine And.intro ?_ ?_); focus exact an0)
        refine regO ?_
        refine cutO shT_ok ctNo_ok 2 ?_
        simp only [kO_normal, List.take_succ_cons, List.take_zero, List.drop_succ_cons, List.drop_zero, go_sem, Nat.reduceLeDiff, Nat.reduceLT, Nat.reduceAdd, Nat.reduceMul, Nat.reduceSub, Nat.reduceEqDiff, Nat.reduceBEq, Int.reduceToNat, reduceCtorEq]
        repeat ((with_reducible refine And.intro ?_ ?_); focus exact an2)
        refine fzO [2] ?_ ?_
        · simp only [go_sem, Nat.reduceEqDiff, Nat.reduceBEq, Nat.reduceAdd]
          try exact at0
        simp only [go_sem, Nat.reduceEqDiff, Nat.reduceBEq, Nat.reduceAdd]
        obtain ⟨f5, H⟩ := need_some.1 H
        replace f5 := capb_iff.1 f5
        refine cutO shT_ok ctNo_ok 3 ?_
        simp only [kO_normal, List.take_succ_cons, List.take_zero, List.drop_succ_cons, List.drop_zero, go_sem, Nat.reduceLeDiff, Nat.reduceLT, Nat.reduceAdd, Nat.reduceMul, Nat.reduceSub, Nat.reduceEqDiff, Nat.reduceBEq, Int.reduceToNat, reduceCtorEq, f5]
        repeat ((with_reducible refine And.intro ?_ ?_); focus exact an1)
        refine endO ?_
        refine rg ctNo_ok ?_
        simp only [go_sem, Nat.reduceLeDiff, Nat.reduceLT, Nat.reduceAdd, Nat.reduceMul, Nat.reduceSub, Nat.reduceEqDiff, Nat.reduceBEq, Int.reduceToNat, reduceCtorEq]
        refine ⟨_, (Option.some.inj H).symm, ?_⟩
        refine SubF_of ⟨[some 4], ?_, ?_, by rfl, by rfl⟩
        · simp [CvL, Cv, getM, tp, tp, tpg, t8]
        · exact ⟨CvB_row nr_TStored cl (app_row (f := c_TStored) v1_1 [(TStored.mk ((gd p0 v1_2.toNat).Cat) ((gd p0 v1_2.toNat).At) (TFrame.mk (THeader.mk r3.Head.Kind r3.Head.Sub r3.Head.ToDs r3.Head.FromDs r3.Head.More r3.Head.Retry r3.Head.Sleep r3.Head.MoreData r3.Head.Protected r3.Head.Duration (A6u8.mk r3.Head.A1.x0 r3.Head.A1.x1 r3.Head.A1.x2 r3.Head.A1.x3 r3.Head.A1.x4 r3.Head.A1.x5) (A6u8.mk r3.Head.A2.x0 r3.Head.A2.x1 r3.Head.A2.x2 r3.Head.A2.x3 r3.Head.A2.x4 r3.Head.A2.x5) (A6u8.mk r3.Head.A3.x0 r3.Head.A3.x1 r3.Head.A3.x2 r3.Head.A3.x3 r3.Head.A3.x4 r3.Head.A3.x5) (A6u8.mk r3.Head.A4.x0 r3.Head.A4.x1 r3.Head.A4.x2 r3.Head.A4.x3 r3.Head.A4.x4 r3.Head.A4.x5) r3.Head.Seq r3.Head.Frag r3.Head.Tid r3.Head.Ack r3.Head.Amsdu r3.Head.Eosp) r3.Body))] (fun _ _ _ _ => rfl) (lit_row (f := c_TStored) [(TStored.mk ((gd p0 v1_2.toNat).Cat) ((gd p0 v1_2.toNat).At) (TFrame.mk (THeader.mk r3.Head.Kind r3.Head.Sub r3.Head.ToDs r3.Head.FromDs r3.Head.More r3.Head.Retry r3.Head.Sleep r3.Head.MoreData r3.Head.Protected r3.Head.Duration (A6u8.mk r3.Head.A1.x0 r3.Head.A1.x1 r3.Head.A1.x2 r3.Head.A1.x3 r3.Head.A1.x4 r3.Head.A1.x5) (A6u8.mk r3.Head.A2.x0 r3.Head.A2.x1 r3.Head.A2.x2 r3.Head.A2.x3 r3.Head.A2.x4 r3.Head.A2.x5) (A6u8.mk r3.Head.A3.x0 r3.Head.A3.x1 r3.Head.A3.x2 r3.Head.A3.x3 r3.Head.A3.x4 r3.Head.A3.x5) (A6u8.mk r3.Head.A4.x0 r3.Head.A4.x1 r3.Head.A4.x2 r3.Head.A4.x3 r3.Head.A4.x4 r3.Head.A4.x5) r3.Head.Seq r3.Head.Frag r3.Head.Tid r3.Head.Ack r3.Head.Amsdu r3.Head.Eosp) r3.Body))] (fun _ _ => rfl) rfl)), trivial⟩
      · try dsimp only at H ⊢
        try simp only [tp]
        try simp only [m_normal, k_normal, b_normal, kL_normal, r_normal]
        refine sq ctNo_ok ?_
        simp only [go_sem, Nat.reduceLeDiff, Nat.reduceLT, Nat.reduceAdd, Nat.reduceMul, Nat.reduceSub, Nat.reduceEqDiff, Nat.reduceBEq, Int.reduceToNat, reduceCtorEq]
        refine rg ctNo_ok ?_
        simp only [go_sem, Nat.reduceLeDiff, Nat.reduceLT, Nat.reduceAdd, Nat.reduceMul, Nat.reduceSub, Nat.reduceEqDiff, Nat.reduceBEq, Int.reduceToNat, reduceCtorEq]
        obtain rfl := Option.some.inj H
        refine ⟨[], ?_, ?_, [some 0], ?_, ?_, by rfl⟩
        · simp only [go_sem, Nat.reduceEqDiff, Nat.reduceBEq, Nat.reduceAdd]
        · simp only [go_sem, Nat.reduceEqDiff, Nat.reduceBEq, Nat.reduceAdd]
        · simp [fzV, fzL, inL, Cv, CvL, getM]
          all_goals first | exact cl
        · simp only [go_sem, Nat.reduceEqDiff, Nat.reduceBEq, Nat.reduceAdd, CvH]
          exact CvB_row nr_TStored cl (fun _ _ _ _ => rfl)
    · cases hb
/-! hotspot/buffer.queue -/
noncomputable def ct83_0t0 : Ct := tab [(44, edC body44)]
theorem ct83_0t0_ok : CtOk Try.prog ct83_0t0 := tab_cons ok44 <| tab_nil
theorem ct83_0t0_44 (l : List AV) (h : List ABlk) : ct83_0t0 44 l h = edC body44 l h := rfl
noncomputable def F83_0_L1 (p0 : List TStored) (v1_1 : List TStored) (v1_2 : Int) : Option (Lp ((List TStored) × Int) ((List TStored) ⊕ (List TStored))) :=
  bif (bLt v1_2 (p0.length : Nat)) then (need (inb v1_2 p0.length) <| (F44 (TFrame.mk (THeader.mk ((((gd p0 v1_2.toNat).Frame).Head).Kind) ((((gd p0 v1_2.toNat).Frame).Head).Sub) ((((gd p0 v1_2.toNat).Frame).Head).ToDs) ((((gd p0 v1_2.toNat).Frame).Head).FromDs) ((((gd p0 v1_2.toNat).Frame).Head).More) ((((gd p0 v1_2.toNat).Frame).Head).Retry) ((((gd p0 v1_2.toNat).Frame).Head).Sleep) ((((gd p0 v1_2.toNat).Frame).Head).MoreData) ((((gd p0 v1_2.toNat).Frame).Head).Protected) ((((gd p0 v1_2.toNat).Frame).Head).Duration) (A6u8.mk (((((gd p0 v1_2.toNat).Frame).Head).A1).x0) (((((gd p0 v1_2.toNat).Frame).Head).A1).x1) (((((gd p0 v1_2.toNat).Frame).Head).A1).x2) (((((gd p0 v1_2.toNat).Frame).Head).A1).x3) (((((gd p0 v1_2.toNat).Frame).Head).A1).x4) (((((gd p0 v1_2.toNat).Frame).Head).A1).x5)) (A6u8.mk (((((gd p0 v1_2.toNat).Frame).Head).A2).x0) (((((gd p0 v1_2.toNat).Frame).Head).A2).x1) (((((gd p0 v1_2.toNat).Frame).Head).A2).x2) (((((gd p0 v1_2.toNat).Frame).Head).A2).x3) (((((gd p0 v1_2.toNat).Frame).Head).A2).x4) (((((gd p0 v1_2.toNat).Frame).Head).A2).x5)) (A6u8.mk (((((gd p0 v1_2.toNat).Frame).Head).A3).x0) (((((gd p0 v1_2.toNat).Frame).Head).A3).x1) (((((gd p0 v1_2.toNat).Frame).Head).A3).x2) (((((gd p0 v1_2.toNat).Frame).Head).A3).x3) (((((gd p0 v1_2.toNat).Frame).Head).A3).x4) (((((gd p0 v1_2.toNat).Frame).Head).A3).x5)) (A6u8.mk (((((gd p0 v1_2.toNat).Frame).Head).A4).x0) (((((gd p0 v1_2.toNat).Frame).Head).A4).x1) (((((gd p0 v1_2.toNat).Frame).Head).A4).x2) (((((gd p0 v1_2.toNat).Frame).Head).A4).x3) (((((gd p0 v1_2.toNat).Frame).Head).A4).x4) (((((gd p0 v1_2.toNat).Frame).Head).A4).x5)) ((((gd p0 v1_2.toNat).Frame).Head).Seq) ((((gd p0 v1_2.toNat).Frame).Head).Frag) ((((gd p0 v1_2.toNat).Frame).Head).Tid) ((((gd p0 v1_2.toNat).Frame).Head).Ack) ((((gd p0 v1_2.toNat).Frame).Head).Amsdu) ((((gd p0 v1_2.toNat).Frame).Head).Eosp)) (((gd p0 v1_2.toNat).Frame).Body))).bind fun r3 => need (capb 120 (v1_1.length + 1)) <| some (.next ((v1_1 ++ [(TStored.mk ((gd p0 v1_2.toNat).Cat) ((gd p0 v1_2.toNat).At) (TFrame.mk (THeader.mk r3.Head.Kind r3.Head.Sub r3.Head.ToDs r3.Head.FromDs r3.Head.More r3.Head.Retry r3.Head.Sleep r3.Head.MoreData r3.Head.Protected r3.Head.Duration (A6u8.mk r3.Head.A1.x0 r3.Head.A1.x1 r3.Head.A1.x2 r3.Head.A1.x3 r3.Head.A1.x4 r3.Head.A1.x5) (A6u8.mk r3.Head.A2.x0 r3.Head.A2.x1 r3.Head.A2.x2 r3.Head.A2.x3 r3.Head.A2.x4 r3.Head.A2.x5) (A6u8.mk r3.Head.A3.x0 r3.Head.A3.x1 r3.Head.A3.x2 r3.Head.A3.x3 r3.Head.A3.x4 r3.Head.A3.x5) (A6u8.mk r3.Head.A4.x0 r3.Head.A4.x1 r3.Head.A4.x2 r3.Head.A4.x3 r3.Head.A4.x4 r3.Head.A4.x5) r3.Head.Seq r3.Head.Frag r3.Head.Tid r3.Head.Ack r3.Head.Amsdu r3.Head.Eosp) r3.Body))]), wr .i64 (v1_2 + 1)))) else (some (.done (.inl v1_1)))
noncomputable def F83_0 (p0 : List TStored) : Option (List TStored) :=
  lp (loopD (fun s => F83_0_L1 p0 s.1 s.2) ([], 0)) (fun w1_3 => some w1_3) some
noncomputable def body83_0 : List AV -> Nat -> AR
  | [v0], _ => .pure (lK k_TStored 43 v0 /\ (F83_0 (lA g_TStored v0)).isSome = true) (.ro 43 ((gt (F83_0 (lA g_TStored v0))).length) false (enR c_TStored (gt (F83_0 (lA g_TStored v0)))))
  | _, _ => .fail
set_option maxHeartbeats 4000000 in
set_option maxRecDepth 20000 in
theorem ok83_0 : FnOk Try.prog 83 (genC body83_0) := by
  refine gen_fn body83_0 (rs := [.tmp 2]) Try.func83 (by kernel_rfl) rfl rfl ?_
  intro l s ob v ns hb hob
  rcases hb with ⟨hb, rfl⟩ | hb
  · unfold body83_0 at hb
    split at hb
    · rename_i v0
      injection hb with q1 q2; subst q1 q2
      obtain ⟨hk0_0, hob⟩ := hob
      obtain ⟨r, H⟩ := Option.isSome_iff_exists.1 hob
      rw [H, gt_some]
      have hw0 := lK_wk (fun r h => w_TStored h) hk0_0
      generalize lA g_TStored v0 = p0 at H hw0
      refine ⟨[.ro 43 p0.length false (enR c_TStored p0)], .ro 43 r.length false (enR c_TStored r), [], (fun E vs F => FR_wk1 hw0.1 F (fun vs F => F)), by simp only [ren, renL], trivial, ?_⟩
      rw [Try.ntmps83]
      simp only [List.length_cons, List.length_nil, Nat.reduceAdd, Nat.reduceSub, List.replicate_succ, List.replicate_zero, List.cons_append, List.nil_append]
      unfold F83_0 at H
      try dsimp only at H
      refine sq ctNo_ok ?_
      simp only [go_sem, Nat.reduceLeDiff, Nat.reduceLT, Nat.reduceAdd, Nat.reduceMul, Nat.reduceSub, Nat.reduceEqDiff, Nat.reduceBEq, Int.reduceToNat, reduceCtorEq]
      refine seqM ?_
      refine sq ctNo_ok ?_
      simp only [go_sem, Nat.reduceLeDiff, Nat.reduceLT, Nat.reduceAdd, Nat.reduceMul, Nat.reduceSub, Nat.reduceEqDiff, Nat.reduceBEq, Int.reduceToNat, reduceCtorEq]
      repeat ((with_reducible refine And.intro ?_ ?_); focus exact an0)
      refine blkM ?_
      refine loop_den (fun s : (List TStored) × Int => (.top :: .top :: .sl 0 43 0 s.1.length false :: .top :: .top :: .ro 43 p0.length false (enR c_TStored p0) :: .int .i64 (p0.length : Nat) :: .int .i64 s.2 :: tp 13 [])) (fun s => [.row 73 43 s.1.length (enR c_TStored s.1)]) (fun e : List TStored => (.top :: .top :: .sl 0 43 0 e.length false :: tp 18 [])) (fun e => [.row 73 43 e.length (enR c_TStored e)]) H ?_ (fun s o H hn1_1 hn2_1 => ?_) (fun w1_3 H => ?_)
      · refine SubF_of ⟨[none], ?_, ?_, by rfl, by rfl⟩
        · simp [CvL, Cv, getM, tp, tp, tpg, t8]
        · exact ⟨CvB_none, trivial⟩
      · obtain ⟨v1_1, v1_2⟩ := s
        unfold F83_0_L1 at H
        try dsimp only at H ⊢
        try simp only [tp]
        refine sq ctNo_ok ?_
        simp only [go_sem, Nat.reduceLeDiff, Nat.reduceLT, Nat.reduceAdd, Nat.reduceMul, Nat.reduceSub, Nat.reduceEqDiff, Nat.reduceBEq, Int.reduceToNat, reduceCtorEq]
        refine seqM ?_
        refine condM' rfl trivial (fun hc => ?_) (fun hc => ?_)
        · have hk1 : (bLt v1_2 (p0.length : Nat)) = false := by simpa using hc
          replace H := cond_f hc H
          refine rg ctNo_ok ?_
          simp only [go_sem, Nat.reduceLeDiff, Nat.reduceLT, Nat.reduceAdd, Nat.reduceMul, Nat.reduceSub, Nat.reduceEqDiff, Nat.reduceBEq, Int.reduceToNat, reduceCtorEq]
          refine ⟨_, (Option.some.inj H).symm, ?_⟩
          refine SubF_of ⟨[some 0], ?_, ?_, by rfl, by rfl⟩
          · simp [CvL, Cv, getM, tp, tp, tpg, t8]
          · exact ⟨CvB_row nr_TStored cl (fun _ _ _ _ => rfl), trivial⟩
        have hk1 : (bLt v1_2 (p0.length : Nat)) = true := by simpa using hc
        replace H := cond_t hc H
        refine rg ctNo_ok ?_
        simp only [go_sem, Nat.reduceLeDiff, Nat.reduceLT, Nat.reduceAdd, Nat.reduceMul, Nat.reduceSub, Nat.reduceEqDiff, Nat.reduceBEq, Int.reduceToNat, reduceCtorEq]
        refine seqM ?_
        refine blkM ?_
        refine seqM ?_
        obtain ⟨f2, H⟩ := need_some.1 H
        replace f2 := inb_iff.1 f2
        refine rg ctNo_ok ?_
        simp only [go_sem, Nat.reduceLeDiff, Nat.reduceLT, Nat.reduceAdd, Nat.reduceMul, Nat.reduceSub, Nat.reduceEqDiff, Nat.reduceBEq, Int.reduceToNat, reduceCtorEq, f2]
        repeat ((with_reducible refine And.intro ?_ ?_); focus exact an5)
        refine seqM ?_
        obtain ⟨r3, e4, H⟩ := bsi H
        refine rg ct83_0t0_ok ?_
        simp only [go_sem, Nat.reduceLeDiff, Nat.reduceLT, Nat.reduceAdd, Nat.reduceMul, Nat.reduceSub, Nat.reduceEqDiff, Nat.reduceBEq, Int.reduceToNat, reduceCtorEq, ct83_0t0_44, body44, e4]
        repeat ((with_reducible refine And.intro ?_ ?_); focus exact an0)
        refine regO ?_
        refine cutO shT_ok ctNo_ok 2 ?_
        simp only [kO_normal, List.take_succ_cons, List.take_zero, List.drop_succ_cons, List.drop_zero, go_sem, Nat.reduceLeDiff, Nat.reduceLT, Nat.reduceAdd, Nat.reduceMul, Nat.reduceSub, Nat.reduceEqDiff, Nat.reduceBEq, Int.reduceToNat, reduceCtorEq]
        repeat ((with_reducible refine And.intro ?_ ?_); focus exact an2)
        refine fzO [2] ?_ ?_
        · simp only [go_sem, Nat.reduceEqDiff, Nat.reduceBEq, Nat.reduceAdd]
          try exact at0
        simp only [go_sem, Nat.reduceEqDiff, Nat.reduceBEq, Nat.reduceAdd]
        obtain ⟨f5, H⟩ := need_some.1 H
        replace f5 := capb_iff.1 f5
        refine cutO shT_ok ctNo_ok 3 ?_
        simp only [kO_normal, List.take_succ_cons, List.take_zero, List.drop_succ_cons, List.drop_zero, go_sem, Nat.reduceLeDiff, Nat.reduceLT, Nat.reduceAdd, Nat.reduceMul, Nat.reduceSub, Nat.reduceEqDiff, Nat.reduceBEq, Int.reduceToNat, reduceCtorEq, f5]
        repeat ((with_reducible refine And.intro ?_ ?_); focus exact an1)
        refine endO ?_
        refine rg ctNo_ok ?_
        simp only [go_sem, Nat.reduceLeDiff, Nat.reduceLT, Nat.reduceAdd, Nat.reduceMul, Nat.reduceSub, Nat.reduceEqDiff, Nat.reduceBEq, Int.reduceToNat, reduceCtorEq]
        refine ⟨_, (Option.some.inj H).symm, ?_⟩
        refine SubF_of ⟨[some 4], ?_, ?_, by rfl, by rfl⟩
        · simp [CvL, Cv, getM, tp, tp, tpg, t8]
        · exact ⟨CvB_row nr_TStored cl (app_row (f := c_TStored) v1_1 [(TStored.mk ((gd p0 v1_2.toNat).Cat) ((gd p0 v1_2.toNat).At) (TFrame.mk (THeader.mk r3.Head.Kind r3.Head.Sub r3.Head.ToDs r3.Head.FromDs r3.Head.More r3.Head.Retry r3.Head.Sleep r3.Head.MoreData r3.Head.Protected r3.Head.Duration (A6u8.mk r3.Head.A1.x0 r3.Head.A1.x1 r3.Head.A1.x2 r3.Head.A1.x3 r3.Head.A1.x4 r3.Head.A1.x5) (A6u8.mk r3.Head.A2.x0 r3.Head.A2.x1 r3.Head.A2.x2 r3.Head.A2.x3 r3.Head.A2.x4 r3.Head.A2.x5) (A6u8.mk r3.Head.A3.x0 r3.Head.A3.x1 r3.Head.A3.x2 r3.Head.A3.x3 r3.Head.A3.x4 r3.Head.A3.x5) (A6u8.mk r3.Head.A4.x0 r3.Head.A4.x1 r3.Head.A4.x2 r3.Head.A4.x3 r3.Head.A4.x4 r3.Head.A4.x5) r3.Head.Seq r3.Head.Frag r3.Head.Tid r3.Head.Ack r3.Head.Amsdu r3.Head.Eosp) r3.Body))] (fun _ _ _ _ => rfl) (lit_row (f := c_TStored) [(TStored.mk ((gd p0 v1_2.toNat).Cat) ((gd p0 v1_2.toNat).At) (TFrame.mk (THeader.mk r3.Head.Kind r3.Head.Sub r3.Head.ToDs r3.Head.FromDs r3.Head.More r3.Head.Retry r3.Head.Sleep r3.Head.MoreData r3.Head.Protected r3.Head.Duration (A6u8.mk r3.Head.A1.x0 r3.Head.A1.x1 r3.Head.A1.x2 r3.Head.A1.x3 r3.Head.A1.x4 r3.Head.A1.x5) (A6u8.mk r3.Head.A2.x0 r3.Head.A2.x1 r3.Head.A2.x2 r3.Head.A2.x3 r3.Head.A2.x4 r3.Head.A2.x5) (A6u8.mk r3.Head.A3.x0 r3.Head.A3.x1 r3.Head.A3.x2 r3.Head.A3.x3 r3.Head.A3.x4 r3.Head.A3.x5) (A6u8.mk r3.Head.A4.x0 r3.Head.A4.x1 r3.Head.A4.x2 r3.Head.A4.x3 r3.Head.A4.x4 r3.Head.A4.x5) r3.Head.Seq r3.Head.Frag r3.Head.Tid r3.Head.Ack r3.Head.Amsdu r3.Head.Eosp) r3.Body))] (fun _ _ => rfl) rfl)), trivial⟩
      · try dsimp only at H ⊢
        try simp only [tp]
        try simp only [m_normal, k_normal, b_normal, kL_normal, r_normal]
        refine sq ctNo_ok ?_
        simp only [go_sem, Nat.reduceLeDiff, Nat.reduceLT, Nat.reduceAdd, Nat.reduceMul, Nat.reduceSub, Nat.reduceEqDiff, Nat.reduceBEq, Int.reduceToNat, reduceCtorEq]
        refine rg ctNo_ok ?_
        simp only [go_sem, Nat.reduceLeDiff, Nat.reduceLT, Nat.reduceAdd, Nat.reduceMul, Nat.reduceSub, Nat.reduceEqDiff, Nat.reduceBEq, Int.reduceToNat, reduceCtorEq]
        obtain rfl := Option.some.inj H
        refine ⟨[0], ?_, ?_, [], ?_, ?_, rfl⟩
        · simp only [go_sem, Nat.reduceEqDiff, Nat.reduceBEq, Nat.reduceAdd]
          try exact at0
        · simp only [go_sem, Nat.reduceEqDiff, Nat.reduceBEq, Nat.reduceAdd]
          try exact at0
        · simp only [go_sem, Nat.reduceEqDiff, Nat.reduceBEq, Nat.reduceAdd]
          exact (ro_row (by first | rfl | simp) (fun _ _ _ _ => rfl))
        · simp only [go_sem, Nat.reduceEqDiff, Nat.reduceBEq, Nat.reduceAdd, CvH]
    · cases hb
  · unfold body83_0 at hb
    split at hb <;> cases hb
/-! hotspot/buffer.twin -/
noncomputable def ct79t0 : Ct := tab [(72, genC body72)]
theorem ct79t0_ok : CtOk Try.prog ct79t0 := tab_cons ok72 <| tab_nil
theorem ct79t0_72 (l : List AV) (h : List ABlk) : ct79t0 72 l h = genC body72 l h := rfl
noncomputable def ct79t1 : Ct := tab [(83, genC body83_0)]
theorem ct79t1_ok : CtOk Try.prog ct79t1 := tab_cons ok83_0 <| tab_nil
theorem ct79t1_83 (l : List AV) (h : List ABlk) : ct79t1 83 l h = genC body83_0 l h := rfl
noncomputable def ct79t2 : Ct := tab [(83, genC body83)]
theorem ct79t2_ok : CtOk Try.prog ct79t2 := tab_cons ok83 <| tab_nil
theorem ct79t2_83 (l : List AV) (h : List ABlk) : ct79t2 83 l h = genC body83 l h := rfl
noncomputable def F79_L1 (r1 : List TSleeper) (v1_1 : Int) (v1_2 : List TSleeper) : Option (Lp (Int × (List TSleeper)) ((List TSleeper) ⊕ (TBuffer))) :=
  bif (bLt v1_1 (r1.length : Nat)) then (need (inb v1_1 v1_2.length) <| (F83_0 ((gd v1_2 v1_1.toNat).Held)).bind fun r5 => need (inb v1_1 v1_2.length) <| some (.next (wr .i64 (v1_1 + 1), (v1_2.set v1_1.toNat (TSleeper.mk ((gd v1_2 v1_1.toNat).Aid) ((gd v1_2 v1_1.toNat).Asleep) r5))))) else (some (.done (.inl v1_2)))
noncomputable def F79 (p0 : TBuffer) : Option (TBuffer) :=
  (F72 p0.List).bind fun r1 => lp (loopD (fun s => F79_L1 r1 s.1 s.2) (0, r1)) (fun w1_3 => (F83 p0.Group).bind fun r8 => some (TBuffer.mk p0.Limit p0.Stay w1_3 r8)) some
noncomputable def body79 : List AV -> Nat -> AR
  | [v0], s => .heap (aK 4 k_TBuffer v0 /\ (F79 (g_TBuffer (aL v0))).isSome = true) (.agg [.int .i64 ((gt (F79 (g_TBuffer (aL v0)))).Limit), .int .i64 ((gt (F79 (g_TBuffer (aL v0)))).Stay), .sl s 3 0 (((gt (F79 (g_TBuffer (aL v0)))).List).length) false, .sl (s + 1) 43 0 (((gt (F79 (g_TBuffer (aL v0)))).Group).length) false]) [.row 71 3 (((gt (F79 (g_TBuffer (aL v0)))).List).length) (enR c_TSleeper ((gt (F79 (g_TBuffer (aL v0)))).List)), .row 73 43 (((gt (F79 (g_TBuffer (aL v0)))).Group).length) (enR c_TStored ((gt (F79 (g_TBuffer (aL v0)))).Group))]
  | _, _ => .fail
set_option maxHeartbeats 4000000 in
set_option maxRecDepth 20000 in
theorem ok79 : FnOk Try.prog 79 (genC body79) := by
  refine gen_fn body79 (rs := [.cell 2 52]) Try.func79 (by kernel_rfl) rfl rfl ?_
  intro l s ob v ns hb hob
  rcases hb with ⟨hb, rfl⟩ | hb
  · unfold body79 at hb
    split at hb <;> cases hb
  · unfold body79 at hb
    split at hb
    · rename_i v0
      injection hb with q1 q2 q3; subst q1 q2 q3
      obtain ⟨hk0_0, hob⟩ := hob
      obtain ⟨r, H⟩ := Option.isSome_iff_exists.1 hob
      rw [H, gt_some]
      have hw0 := wA_TBuffer hk0_0
      generalize g_TBuffer (aL v0) = p0 at H hw0
      refine ⟨[.agg [.int .i64 p0.Limit, .int .i64 p0.Stay, .ro 3 p0.List.length false (enR c_TSleeper p0.List), .ro 43 p0.Group.length false (enR c_TStored p0.Group)]], .agg [.int .i64 r.Limit, .int .i64 r.Stay, .sl 0 3 0 r.List.length false, .sl 1 43 0 r.Group.length false], [.row 71 3 r.List.length (enR c_TSleeper r.List), .row 73 43 r.Group.length (enR c_TStored r.Group)], (fun E vs F => FR_wk1 hw0.1 F (fun vs F => F)), by simp only [ren, renL, rnN_0, rnN_s, Nat.zero_add, Nat.reduceAdd], ⟨RenB_row nr_TSleeper, RenB_row nr_TStored, trivial⟩, ?_⟩
      rw [Try.ntmps79]
      simp only [List.length_cons, List.length_nil, Nat.reduceAdd, Nat.reduceSub, List.replicate_succ, List.replicate_zero, List.cons_append, List.nil_append]
      unfold F79 at H
      try dsimp only at H
      refine sq ctNo_ok ?_
      simp only [go_sem, Nat.reduceLeDiff, Nat.reduceLT, Nat.reduceAdd, Nat.reduceMul, Nat.reduceSub, Nat.reduceEqDiff, Nat.reduceBEq, Int.reduceToNat, reduceCtorEq]
      refine seqM ?_
      obtain ⟨r1, e2, H⟩ := bsi H
      refine rg ct79t0_ok ?_
      simp only [go_sem, Nat.reduceLeDiff, Nat.reduceLT, Nat.reduceAdd, Nat.reduceMul, Nat.reduceSub, Nat.reduceEqDiff, Nat.reduceBEq, Int.reduceToNat, reduceCtorEq, ct79t0_72, body72, e2]
      repeat ((with_reducible refine And.intro ?_ ?_); focus exact an0)
      refine seqM ?_
      refine sq ctNo_ok ?_
      simp only [go_sem, Nat.reduceLeDiff, Nat.reduceLT, Nat.reduceAdd, Nat.reduceMul, Nat.reduceSub, Nat.reduceEqDiff, Nat.reduceBEq, Int.reduceToNat, reduceCtorEq]
      repeat ((with_reducible refine And.intro ?_ ?_); focus exact an0)
      refine blkM ?_
      refine loop_den (fun s : Int × (List TSleeper) => (.top :: .ptr 0 0 0 0 :: .ptr 1 0 0 0 :: tp 7 (.int .i64 (r1.length : Nat) :: .int .i64 s.1 :: tp 20 []))) (fun s => [.lit 52 [.int .i64 p0.Limit, .int .i64 p0.Stay, .sl 3 3 0 s.2.length false, .ro 43 p0.Group.length false (enR c_TStored p0.Group)], .lit 52 [.int .i64 0, .int .i64 0, .ro 0 0 true (fun _ _ => .top), .ro 0 0 true (fun _ _ => .top)], .dead, .row 71 3 s.2.length (enR c_TSleeper s.2)]) (fun e : List TSleeper => (.top :: .ptr 0 0 0 0 :: .ptr 1 0 0 0 :: tp 29 [])) (fun e => [.lit 52 [.int .i64 p0.Limit, .int .i64 p0.Stay, .sl 3 3 0 e.length false, .ro 43 p0.Group.length false (enR c_TStored p0.Group)], .lit 52 [.int .i64 0, .int .i64 0, .ro 0 0 true (fun _ _ => .top), .ro 0 0 true (fun _ _ => .top)], .dead, .row 71 3 e.length (enR c_TSleeper e)]) H ?_ (fun s o H hn1_1 hn2_1 => ?_) (fun w1_3 H => ?_)
      · refine SubF_of ⟨[some 0, some 1, some 2, some 2], ?_, ?_, by rfl, by rfl⟩
        · simp [CvL, Cv, getM, tp, tp, tpg, t8]
        · exact ⟨cv, cv, CvB_dead, CvB_row nr_TSleeper cl (fun _ _ _ _ => rfl), trivial⟩
      · obtain ⟨v1_1, v1_2⟩ := s
        unfold F79_L1 at H
        try dsimp only at H ⊢
        try simp only [tp]
        refine sq ctNo_ok ?_
        simp only [go_sem, Nat.reduceLeDiff, Nat.reduceLT, Nat.reduceAdd, Nat.reduceMul, Nat.reduceSub, Nat.reduceEqDiff, Nat.reduceBEq, Int.reduceToNat, reduceCtorEq]
        refine seqM ?_
        refine condM' rfl trivial (fun hc => ?_) (fun hc => ?_)
        · have hk3 : (bLt v1_1 (r1.length : Nat)) = false := by simpa using hc
          replace H := cond_f hc H
          refine rg ctNo_ok ?_
          simp only [go_sem, Nat.reduceLeDiff, Nat.reduceLT, Nat.reduceAdd, Nat.reduceMul, Nat.reduceSub, Nat.reduceEqDiff, Nat.reduceBEq, Int.reduceToNat, reduceCtorEq]
          refine ⟨_, (Option.some.inj H).symm, ?_⟩
          refine SubF_of ⟨[some 0, some 1, some 2, some 3], ?_, ?_, by rfl, by rfl⟩
          · simp [CvL, Cv, getM, tp, tp, tpg, t8]
          · exact ⟨cv, cv, CvB_dead, CvB_row nr_TSleeper cl (fun _ _ _ _ => rfl), trivial⟩
        have hk3 : (bLt v1_1 (r1.length : Nat)) = true := by simpa using hc
        replace H := cond_t hc H
        refine rg ctNo_ok ?_
        simp only [go_sem, Nat.reduceLeDiff, Nat.reduceLT, Nat.reduceAdd, Nat.reduceMul, Nat.reduceSub, Nat.reduceEqDiff, Nat.reduceBEq, Int.reduceToNat, reduceCtorEq]
        refine seqM ?_
        refine blkM ?_
        refine sq ctNo_ok ?_
        simp only [go_sem, Nat.reduceLeDiff, Nat.reduceLT, Nat.reduceAdd, Nat.reduceMul, Nat.reduceSub, Nat.reduceEqDiff, Nat.reduceBEq, Int.reduceToNat, reduceCtorEq]
        obtain ⟨f4, H⟩ := need_some.1 H
        replace f4 := inb_iff.1 f4
        obtain ⟨r5, e6, H⟩ := bsi H
        obtain ⟨f7, H⟩ := need_some.1 H
        replace f7 := inb_iff.1 f7
        refine draw_rule shT_ok ct79t1_ok 0 (by kernel_rfl) (by kernel_rfl) ?_
        intro an han
        simp only [d_nil, d_cons, nxtD, xrD, xoD, roEq, minL, List.append_nil, refsOp, refs, refsL, mask, maskF, place, placeF, okLog, pairOk, hit, inL, slotsF, ren, renL, rnN, nrH, nrB, nrL, nr, dead0, deadS, List.replicate_zero, List.replicate_succ, Nat.sub_self, Nat.add_zero, Nat.zero_add, Nat.reduceSub, Nat.not_lt_zero, Nat.zero_le, Nat.lt_add_one, go_sem, Nat.reduceLeDiff, Nat.reduceLT, Nat.reduceAdd, Nat.reduceMul, Nat.reduceSub, Nat.reduceEqDiff, Nat.reduceBEq, Int.reduceToNat, reduceCtorEq, ct79t1_83, body83_0, f4, e6, f7]
        repeat ((with_reducible refine And.intro ?_ ?_); focus exact an6)
        refine rg ctNo_ok ?_
        simp only [go_sem, Nat.reduceLeDiff, Nat.reduceLT, Nat.reduceAdd, Nat.reduceMul, Nat.reduceSub, Nat.reduceEqDiff, Nat.reduceBEq, Int.reduceToNat, reduceCtorEq]
        refine ⟨_, (Option.some.inj H).symm, ?_⟩
        refine SubF_of ⟨[some 0, some 1, some 2, some 3], ?_, ?_, by rfl, by rfl⟩
        · simp [CvL, Cv, getM, tp, tp, tpg, t8]
        · exact ⟨cv, cv, CvB_dead, CvB_row nr_TSleeper cl (upc_row (f := c_TSleeper) v1_2 v1_1.toNat 2 (TSleeper.mk ((gd v1_2 v1_1.toNat).Aid) ((gd v1_2 v1_1.toNat).Asleep) r5) (fun _ _ _ _ => rfl) (fun y hy => match y, hy with | 0, _ => rfl | 1, _ => rfl | 2, _ => rfl | (y+3), h => absurd h nlt)), trivial⟩
      · try dsimp only at H ⊢
        try simp only [tp]
        try simp only [m_normal, k_normal, b_normal, kL_normal, r_normal]
        refine seqM ?_
        obtain ⟨r8, e9, H⟩ := bsi H
        refine rg ct79t2_ok ?_
        simp only [go_sem, Nat.reduceLeDiff, Nat.reduceLT, Nat.reduceAdd, Nat.reduceMul, Nat.reduceSub, Nat.reduceEqDiff, Nat.reduceBEq, Int.reduceToNat, reduceCtorEq, ct79t2_83, body83, e9]
        repeat ((with_reducible refine And.intro ?_ ?_); focus exact an0)
        refine sq ctNo_ok ?_
        simp only [go_sem, Nat.reduceLeDiff, Nat.reduceLT, Nat.reduceAdd, Nat.reduceMul, Nat.reduceSub, Nat.reduceEqDiff, Nat.reduceBEq, Int.reduceToNat, reduceCtorEq]
        repeat ((with_reducible refine And.intro ?_ ?_); focus exact an5)
        refine rg ctNo_ok ?_
        simp only [go_sem, Nat.reduceLeDiff, Nat.reduceLT, Nat.reduceAdd, Nat.reduceMul, Nat.reduceSub, Nat.reduceEqDiff, Nat.reduceBEq, Int.reduceToNat, reduceCtorEq]
        obtain rfl := Option.some.inj H
        refine ⟨[], ?_, ?_, [some 3, some 4], ?_, ?_, by rfl⟩
        · simp only [go_sem, Nat.reduceEqDiff, Nat.reduceBEq, Nat.reduceAdd]
        · simp only [go_sem, Nat.reduceEqDiff, Nat.reduceBEq, Nat.reduceAdd]
        · simp [fzV, fzL, inL, Cv, CvL, getM]
          all_goals first | exact cl | exact cl
        · simp only [go_sem, Nat.reduceEqDiff, Nat.reduceBEq, Nat.reduceAdd, CvH]
          exact ⟨CvB_row nr_TSleeper cl (fun _ _ _ _ => rfl), CvB_row nr_TStored cl (fun _ _ _ _ => rfl)⟩
    · cases hb
/-! hotspot/buffer.frames -/
noncomputable def F66_L1 (p0 : List TStored) (v1_1 : List TFrame) (v1_2 : Int) : Option (Lp ((List TFrame) × Int) ((List TFrame) ⊕ (List TFrame))) :=
  bif (bLt v1_2 (p0.length : Nat)) then (need (inb v1_2 p0.length) <| need (capb 104 (v1_1.length + 1)) <| some (.next ((v1_1 ++ [(TFrame.mk (THeader.mk ((((gd p0 v1_2.toNat).Frame).Head).Kind) ((((gd p0 v1_2.toNat).Frame).Head).Sub) ((((gd p0 v1_2.toNat).Frame).Head).ToDs) ((((gd p0 v1_2.toNat).Frame).Head).FromDs) ((((gd p0 v1_2.toNat).Frame).Head).More) ((((gd p0 v1_2.toNat).Frame).Head).Retry) ((((gd p0 v1_2.toNat).Frame).Head).Sleep) ((((gd p0 v1_2.toNat).Frame).Head).MoreData) ((((gd p0 v1_2.toNat).Frame).Head).Protected) ((((gd p0 v1_2.toNat).Frame).Head).Duration) (A6u8.mk (((((gd p0 v1_2.toNat).Frame).Head).A1).x0) (((((gd p0 v1_2.toNat).Frame).Head).A1).x1) (((((gd p0 v1_2.toNat).Frame).Head).A1).x2) (((((gd p0 v1_2.toNat).Frame).Head).A1).x3) (((((gd p0 v1_2.toNat).Frame).Head).A1).x4) (((((gd p0 v1_2.toNat).Frame).Head).A1).x5)) (A6u8.mk (((((gd p0 v1_2.toNat).Frame).Head).A2).x0) (((((gd p0 v1_2.toNat).Frame).Head).A2).x1) (((((gd p0 v1_2.toNat).Frame).Head).A2).x2) (((((gd p0 v1_2.toNat).Frame).Head).A2).x3) (((((gd p0 v1_2.toNat).Frame).Head).A2).x4) (((((gd p0 v1_2.toNat).Frame).Head).A2).x5)) (A6u8.mk (((((gd p0 v1_2.toNat).Frame).Head).A3).x0) (((((gd p0 v1_2.toNat).Frame).Head).A3).x1) (((((gd p0 v1_2.toNat).Frame).Head).A3).x2) (((((gd p0 v1_2.toNat).Frame).Head).A3).x3) (((((gd p0 v1_2.toNat).Frame).Head).A3).x4) (((((gd p0 v1_2.toNat).Frame).Head).A3).x5)) (A6u8.mk (((((gd p0 v1_2.toNat).Frame).Head).A4).x0) (((((gd p0 v1_2.toNat).Frame).Head).A4).x1) (((((gd p0 v1_2.toNat).Frame).Head).A4).x2) (((((gd p0 v1_2.toNat).Frame).Head).A4).x3) (((((gd p0 v1_2.toNat).Frame).Head).A4).x4) (((((gd p0 v1_2.toNat).Frame).Head).A4).x5)) ((((gd p0 v1_2.toNat).Frame).Head).Seq) ((((gd p0 v1_2.toNat).Frame).Head).Frag) ((((gd p0 v1_2.toNat).Frame).Head).Tid) ((((gd p0 v1_2.toNat).Frame).Head).Ack) ((((gd p0 v1_2.toNat).Frame).Head).Amsdu) ((((gd p0 v1_2.toNat).Frame).Head).Eosp)) (((gd p0 v1_2.toNat).Frame).Body))]), wr .i64 (v1_2 + 1)))) else (some (.done (.inl v1_1)))
noncomputable def F66 (p0 : List TStored) : Option (List TFrame) :=
  lp (loopD (fun s => F66_L1 p0 s.1 s.2) ([], 0)) (fun w1_3 => some w1_3) some
noncomputable def body66 : List AV -> Nat -> AR
  | [v0], s => .heap (lK k_TStored 43 v0 /\ (F66 (lA g_TStored v0)).isSome = true) (.sl s 41 0 ((gt (F66 (lA g_TStored v0))).length) false) [.row 30 41 ((gt (F66 (lA g_TStored v0))).length) (enR c_TFrame (gt (F66 (lA g_TStored v0))))]
  | _, _ => .fail
set_option maxHeartbeats 4000000 in
set_option maxRecDepth 20000 in
theorem ok66 : FnOk Try.prog 66 (genC body66) := by
  refine gen_fn body66 (rs := [.tmp 2]) Try.func66 (by kernel_rfl) rfl rfl ?_
  intro l s ob v ns hb hob
  rcases hb with ⟨hb, rfl⟩ | hb
  · unfold body66 at hb
    split at hb <;> cases hb
  · unfold body66 at hb
    split at hb
    · rename_i v0
      injection hb with q1 q2 q3; subst q1 q2 q3
      obtain ⟨hk0_0, hob⟩ := hob
      obtain ⟨r, H⟩ := Option.isSome_iff_exists.1 hob
      rw [H, gt_some]
      have hw0 := lK_wk (fun r h => w_TStored h) hk0_0
      generalize lA g_TStored v0 = p0 at H hw0
      refine ⟨[.ro 43 p0.length false (enR c_TStored p0)], .sl 0 41 0 r.length false, [.row 30 41 r.length (enR c_TFrame r)], (fun E vs F => FR_wk1 hw0.1 F (fun vs F => F)), by simp only [ren, renL, rnN_0, rnN_s, Nat.zero_add, Nat.reduceAdd], ⟨RenB_row nr_TFrame, trivial⟩, ?_⟩
      rw [Try.ntmps66]
      simp only [List.length_cons, List.length_nil, Nat.reduceAdd, Nat.reduceSub, List.replicate_succ, List.replicate_zero, List.cons_append, List.nil_append]
      unfold F66 at H
      try dsimp only at H
      refine sq ctNo_ok ?_
      simp only [go_sem, Nat.reduceLeDiff, Nat.reduceLT, Nat.reduceAdd, Nat.reduceMul, Nat.reduceSub, Nat.reduceEqDiff, Nat.reduceBEq, Int.reduceToNat, reduceCtorEq]
      refine seqM ?_
      refine sq ctNo_ok ?_
      simp only [go_sem, Nat.reduceLeDiff, Nat.reduceLT, Nat.reduceAdd, Nat.reduceMul, Nat.reduceSub, Nat.reduceEqDiff, Nat.reduceBEq, Int.reduceToNat, reduceCtorEq]
      repeat ((with_reducible refine And.intro ?_ ?_); focus exact an0)
      refine blkM ?_
      refine loop_den (fun s : (List TFrame) × Int => (.top :: .top :: .sl 0 41 0 s.1.length false :: .top :: .top :: .ro 43 p0.length false (enR c_TStored p0) :: .int .i64 (p0.length : Nat) :: .int .i64 s.2 :: tp 10 [])) (fun s => [.row 30 41 s.1.length (enR c_TFrame s.1)]) (fun e : List TFrame => (.top :: .top :: .sl 0 41 0 e.length false :: tp 15 [])) (fun e => [.row 30 41 e.length (enR c_TFrame e)]) H ?_ (fun s o H hn1_1 hn2_1 => ?_) (fun w1_3 H => ?_)
      · refine SubF_of ⟨[none], ?_, ?_, by rfl, by rfl⟩
        · simp [CvL, Cv, getM, tp, tp, tpg, t8]
        · exact ⟨CvB_none, trivial⟩
      · obtain ⟨v1_1, v1_2⟩ := s
        unfold F66_L1 at H
        try dsimp only at H ⊢
        try simp only [tp]
        refine sq ctNo_ok ?_
        simp only [go_sem, Nat.reduceLeDiff, Nat.reduceLT, Nat.reduceAdd, Nat.reduceMul, Nat.reduceSub, Nat.reduceEqDiff, Nat.reduceBEq, Int.reduceToNat, reduceCtorEq]
        refine seqM ?_
        refine condM' rfl trivial (fun hc => ?_) (fun hc => ?_)
        · have hk1 : (bLt v1_2 (p0.length : Nat)) = false := by simpa using hc
          replace H := cond_f hc H
          refine rg ctNo_ok ?_
          simp only [go_sem, Nat.reduceLeDiff, Nat.reduceLT, Nat.reduceAdd, Nat.reduceMul, Nat.reduceSub, Nat.reduceEqDiff, Nat.reduceBEq, Int.reduceToNat, reduceCtorEq]
          refine ⟨_, (Option.some.inj H).symm, ?_⟩
          refine SubF_of ⟨[some 0], ?_, ?_, by rfl, by rfl⟩
          · simp [CvL, Cv, getM, tp, tp, tpg, t8]
          · exact ⟨CvB_row nr_TFrame cl (fun _ _ _ _ => rfl), trivial⟩
        have hk1 : (bLt v1_2 (p0.length : Nat)) = true := by simpa using hc
        replace H := cond_t hc H
        refine rg ctNo_ok ?_
        simp only [go_sem, Nat.reduceLeDiff, Nat.reduceLT, Nat.reduceAdd, Nat.reduceMul, Nat.reduceSub, Nat.reduceEqDiff, Nat.reduceBEq, Int.reduceToNat, reduceCtorEq]
        refine seqM ?_
        refine blkM ?_
        refine seqM ?_
        obtain ⟨f2, H⟩ := need_some.1 H
        replace f2 := inb_iff.1 f2
        refine rg ctNo_ok ?_
        simp only [go_sem, Nat.reduceLeDiff, Nat.reduceLT, Nat.reduceAdd, Nat.reduceMul, Nat.reduceSub, Nat.reduceEqDiff, Nat.reduceBEq, Int.reduceToNat, reduceCtorEq, f2]
        repeat ((with_reducible refine And.intro ?_ ?_); focus exact an5)
        obtain ⟨f3, H⟩ := need_some.1 H
        replace f3 := capb_iff.1 f3
        refine rg ctNo_ok ?_
        simp only [go_sem, Nat.reduceLeDiff, Nat.reduceLT, Nat.reduceAdd, Nat.reduceMul, Nat.reduceSub, Nat.reduceEqDiff, Nat.reduceBEq, Int.reduceToNat, reduceCtorEq, f3]
        repeat ((with_reducible refine And.intro ?_ ?_); focus exact an1)
        refine rg ctNo_ok ?_
        simp only [go_sem, Nat.reduceLeDiff, Nat.reduceLT, Nat.reduceAdd, Nat.reduceMul, Nat.reduceSub, Nat.reduceEqDiff, Nat.reduceBEq, Int.reduceToNat, reduceCtorEq]
        refine ⟨_, (Option.some.inj H).symm, ?_⟩
        refine SubF_of ⟨[some 3], ?_, ?_, by rfl, by rfl⟩
        · simp [CvL, Cv, getM, tp, tp, tpg, t8]
        · exact ⟨CvB_row nr_TFrame cl (app_row (f := c_TFrame) v1_1 [(TFrame.mk (THeader.mk ((((gd p0 v1_2.toNat).Frame).Head).Kind) ((((gd p0 v1_2.toNat).Frame).Head).Sub) ((((gd p0 v1_2.toNat).Frame).Head).ToDs) ((((gd p0 v1_2.toNat).Frame).Head).FromDs) ((((gd p0 v1_2.toNat).Frame).Head).More) ((((gd p0 v1_2.toNat).Frame).Head).Retry) ((((gd p0 v1_2.toNat).Frame).Head).Sleep) ((((gd p0 v1_2.toNat).Frame).Head).MoreData) ((((gd p0 v1_2.toNat).Frame).Head).Protected) ((((gd p0 v1_2.toNat).Frame).Head).Duration) (A6u8.mk (((((gd p0 v1_2.toNat).Frame).Head).A1).x0) (((((gd p0 v1_2.toNat).Frame).Head).A1).x1) (((((gd p0 v1_2.toNat).Frame).Head).A1).x2) (((((gd p0 v1_2.toNat).Frame).Head).A1).x3) (((((gd p0 v1_2.toNat).Frame).Head).A1).x4) (((((gd p0 v1_2.toNat).Frame).Head).A1).x5)) (A6u8.mk (((((gd p0 v1_2.toNat).Frame).Head).A2).x0) (((((gd p0 v1_2.toNat).Frame).Head).A2).x1) (((((gd p0 v1_2.toNat).Frame).Head).A2).x2) (((((gd p0 v1_2.toNat).Frame).Head).A2).x3) (((((gd p0 v1_2.toNat).Frame).Head).A2).x4) (((((gd p0 v1_2.toNat).Frame).Head).A2).x5)) (A6u8.mk (((((gd p0 v1_2.toNat).Frame).Head).A3).x0) (((((gd p0 v1_2.toNat).Frame).Head).A3).x1) (((((gd p0 v1_2.toNat).Frame).Head).A3).x2) (((((gd p0 v1_2.toNat).Frame).Head).A3).x3) (((((gd p0 v1_2.toNat).Frame).Head).A3).x4) (((((gd p0 v1_2.toNat).Frame).Head).A3).x5)) (A6u8.mk (((((gd p0 v1_2.toNat).Frame).Head).A4).x0) (((((gd p0 v1_2.toNat).Frame).Head).A4).x1) (((((gd p0 v1_2.toNat).Frame).Head).A4).x2) (((((gd p0 v1_2.toNat).Frame).Head).A4).x3) (((((gd p0 v1_2.toNat).Frame).Head).A4).x4) (((((gd p0 v1_2.toNat).Frame).Head).A4).x5)) ((((gd p0 v1_2.toNat).Frame).Head).Seq) ((((gd p0 v1_2.toNat).Frame).Head).Frag) ((((gd p0 v1_2.toNat).Frame).Head).Tid) ((((gd p0 v1_2.toNat).Frame).Head).Ack) ((((gd p0 v1_2.toNat).Frame).Head).Amsdu) ((((gd p0 v1_2.toNat).Frame).Head).Eosp)) (((gd p0 v1_2.toNat).Frame).Body))] (fun _ _ _ _ => rfl) (lit_row (f := c_TFrame) [(TFrame.mk (THeader.mk ((((gd p0 v1_2.toNat).Frame).Head).Kind) ((((gd p0 v1_2.toNat).Frame).Head).Sub) ((((gd p0 v1_2.toNat).Frame).Head).ToDs) ((((gd p0 v1_2.toNat).Frame).Head).FromDs) ((((gd p0 v1_2.toNat).Frame).Head).More) ((((gd p0 v1_2.toNat).Frame).Head).Retry) ((((gd p0 v1_2.toNat).Frame).Head).Sleep) ((((gd p0 v1_2.toNat).Frame).Head).MoreData) ((((gd p0 v1_2.toNat).Frame).Head).Protected) ((((gd p0 v1_2.toNat).Frame).Head).Duration) (A6u8.mk (((((gd p0 v1_2.toNat).Frame).Head).A1).x0) (((((gd p0 v1_2.toNat).Frame).Head).A1).x1) (((((gd p0 v1_2.toNat).Frame).Head).A1).x2) (((((gd p0 v1_2.toNat).Frame).Head).A1).x3) (((((gd p0 v1_2.toNat).Frame).Head).A1).x4) (((((gd p0 v1_2.toNat).Frame).Head).A1).x5)) (A6u8.mk (((((gd p0 v1_2.toNat).Frame).Head).A2).x0) (((((gd p0 v1_2.toNat).Frame).Head).A2).x1) (((((gd p0 v1_2.toNat).Frame).Head).A2).x2) (((((gd p0 v1_2.toNat).Frame).Head).A2).x3) (((((gd p0 v1_2.toNat).Frame).Head).A2).x4) (((((gd p0 v1_2.toNat).Frame).Head).A2).x5)) (A6u8.mk (((((gd p0 v1_2.toNat).Frame).Head).A3).x0) (((((gd p0 v1_2.toNat).Frame).Head).A3).x1) (((((gd p0 v1_2.toNat).Frame).Head).A3).x2) (((((gd p0 v1_2.toNat).Frame).Head).A3).x3) (((((gd p0 v1_2.toNat).Frame).Head).A3).x4) (((((gd p0 v1_2.toNat).Frame).Head).A3).x5)) (A6u8.mk (((((gd p0 v1_2.toNat).Frame).Head).A4).x0) (((((gd p0 v1_2.toNat).Frame).Head).A4).x1) (((((gd p0 v1_2.toNat).Frame).Head).A4).x2) (((((gd p0 v1_2.toNat).Frame).Head).A4).x3) (((((gd p0 v1_2.toNat).Frame).Head).A4).x4) (((((gd p0 v1_2.toNat).Frame).Head).A4).x5)) ((((gd p0 v1_2.toNat).Frame).Head).Seq) ((((gd p0 v1_2.toNat).Frame).Head).Frag) ((((gd p0 v1_2.toNat).Frame).Head).Tid) ((((gd p0 v1_2.toNat).Frame).Head).Ack) ((((gd p0 v1_2.toNat).Frame).Head).Amsdu) ((((gd p0 v1_2.toNat).Frame).Head).Eosp)) (((gd p0 v1_2.toNat).Frame).Body))] (fun _ _ => rfl) rfl)), trivial⟩
      · try dsimp only at H ⊢
        try simp only [tp]
        try simp only [m_normal, k_normal, b_normal, kL_normal, r_normal]
        refine sq ctNo_ok ?_
        simp only [go_sem, Nat.reduceLeDiff, Nat.reduceLT, Nat.reduceAdd, Nat.reduceMul, Nat.reduceSub, Nat.reduceEqDiff, Nat.reduceBEq, Int.reduceToNat, reduceCtorEq]
        refine rg ctNo_ok ?_
        simp only [go_sem, Nat.reduceLeDiff, Nat.reduceLT, Nat.reduceAdd, Nat.reduceMul, Nat.reduceSub, Nat.reduceEqDiff, Nat.reduceBEq, Int.reduceToNat, reduceCtorEq]
        obtain rfl := Option.some.inj H
        refine ⟨[], ?_, ?_, [some 0], ?_, ?_, by rfl⟩
        · simp only [go_sem, Nat.reduceEqDiff, Nat.reduceBEq, Nat.reduceAdd]
        · simp only [go_sem, Nat.reduceEqDiff, Nat.reduceBEq, Nat.reduceAdd]
        · simp [fzV, fzL, inL, Cv, CvL, getM]
          all_goals first | exact cl
        · simp only [go_sem, Nat.reduceEqDiff, Nat.reduceBEq, Nat.reduceAdd, CvH]
          exact CvB_row nr_TFrame cl (fun _ _ _ _ => rfl)
    · cases hb
/-! hotspot/buffer.hand -/
noncomputable def F65_0_L1 (p0 : List TFrame) (v1_1 : List TFrame) (v1_2 : Int) : Option (Lp ((List TFrame) × Int) ((List TFrame) ⊕ (List TFrame))) :=
  bif (bLt v1_2 (p0.length : Nat)) then (need (inb v1_2 v1_1.length) <| some (.next ((v1_1.set v1_2.toNat (TFrame.mk (THeader.mk (((gd v1_1 v1_2.toNat).Head).Kind) (((gd v1_1 v1_2.toNat).Head).Sub) (((gd v1_1 v1_2.toNat).Head).ToDs) (((gd v1_1 v1_2.toNat).Head).FromDs) (((gd v1_1 v1_2.toNat).Head).More) (((gd v1_1 v1_2.toNat).Head).Retry) (((gd v1_1 v1_2.toNat).Head).Sleep) (bLt (wr .i64 (v1_2 + 1)) (v1_1.length : Nat)) (((gd v1_1 v1_2.toNat).Head).Protected) (((gd v1_1 v1_2.toNat).Head).Duration) (A6u8.mk ((((gd v1_1 v1_2.toNat).Head).A1).x0) ((((gd v1_1 v1_2.toNat).Head).A1).x1) ((((gd v1_1 v1_2.toNat).Head).A1).x2) ((((gd v1_1 v1_2.toNat).Head).A1).x3) ((((gd v1_1 v1_2.toNat).Head).A1).x4) ((((gd v1_1 v1_2.toNat).Head).A1).x5)) (A6u8.mk ((((gd v1_1 v1_2.toNat).Head).A2).x0) ((((gd v1_1 v1_2.toNat).Head).A2).x1) ((((gd v1_1 v1_2.toNat).Head).A2).x2) ((((gd v1_1 v1_2.toNat).Head).A2).x3) ((((gd v1_1 v1_2.toNat).Head).A2).x4) ((((gd v1_1 v1_2.toNat).Head).A2).x5)) (A6u8.mk ((((gd v1_1 v1_2.toNat).Head).A3).x0) ((((gd v1_1 v1_2.toNat).Head).A3).x1) ((((gd v1_1 v1_2.toNat).Head).A3).x2) ((((gd v1_1 v1_2.toNat).Head).A3).x3) ((((gd v1_1 v1_2.toNat).Head).A3).x4) ((((gd v1_1 v1_2.toNat).Head).A3).x5)) (A6u8.mk ((((gd v1_1 v1_2.toNat).Head).A4).x0) ((((gd v1_1 v1_2.toNat).Head).A4).x1) ((((gd v1_1 v1_2.toNat).Head).A4).x2) ((((gd v1_1 v1_2.toNat).Head).A4).x3) ((((gd v1_1 v1_2.toNat).Head).A4).x4) ((((gd v1_1 v1_2.toNat).Head).A4).x5)) (((gd v1_1 v1_2.toNat).Head).Seq) (((gd v1_1 v1_2.toNat).Head).Frag) (((gd v1_1 v1_2.toNat).Head).Tid) (((gd v1_1 v1_2.toNat).Head).Ack) (((gd v1_1 v1_2.toNat).Head).Amsdu) (((gd v1_1 v1_2.toNat).Head).Eosp)) ((gd v1_1 v1_2.toNat).Body))), wr .i64 (v1_2 + 1)))) else (some (.done (.inl v1_1)))
noncomputable def F65_0 (p0 : List TFrame) : Option (List TFrame) :=
  lp (loopD (fun s => F65_0_L1 p0 s.1 s.2) (p0, 0)) (fun w1_3 => some w1_3) some
noncomputable def body65_0 : List AV -> List ABlk -> ED
  | [v0], h => .ed [slN v0] (oS 30 41 h v0 /\ lK k_TFrame 41 (roW h v0) /\ (F65_0 (lA g_TFrame (roW h v0))).isSome = true) (.sl 1 41 0 ((gt (F65_0 (lA g_TFrame (roW h v0)))).length) false) [.dead, .row 30 41 ((gt (F65_0 (lA g_TFrame (roW h v0)))).length) (enR c_TFrame (gt (F65_0 (lA g_TFrame (roW h v0)))))]
  | _, _ => .fail
set_option maxHeartbeats 4000000 in
set_option maxRecDepth 20000 in
theorem ok65_0 : FnOk Try.prog 65 (edC body65_0) := by
  refine edit_fnM body65_0 (rs := [.tmp 2]) Try.func65 (by kernel_rfl) rfl rfl ?_
  intro l h bs ob q0 g0 hb hob
  unfold body65_0 at hb
  split at hb
  · rename_i v0
    injection hb with q1 q2 q3 q4; subst q1 q2 q3 q4
    obtain ⟨hk0_0, hk0_1, hob⟩ := hob
    obtain ⟨r, H⟩ := Option.isSome_iff_exists.1 hob
    rw [H, gt_some]
    obtain ⟨p0, hp0⟩ : ∃ p0, p0 = lA g_TFrame (roW h v0) := ⟨_, rfl⟩
    rw [← hp0] at H
    obtain ⟨ev0, eb0⟩ := own_row2 (f := c_TFrame) (g := g_TFrame) (bs := [slN v0]) (i := 0) (fun hr => w_TFrame hr) hk0_0 hk0_1 (L := p0) (by rw [hp0]) rfl
    refine ⟨[.sl 0 41 0 p0.length false], [.row 30 41 p0.length (enR c_TFrame p0)], rfl, ⟨ev0, trivial⟩, ⟨eb0, trivial⟩, ⟨trivial, ⟨(nfB_en nr_TFrame), trivial⟩⟩, ?_⟩
    rw [Try.ntmps65]
    simp only [List.length_cons, List.length_nil, Nat.reduceAdd, Nat.reduceSub, List.replicate_succ, List.replicate_zero, List.cons_append, List.nil_append]
    unfold F65_0 at H
    try dsimp only at H
    refine sq ctNo_ok ?_
    simp only [go_sem, Nat.reduceLeDiff, Nat.reduceLT, Nat.reduceAdd, Nat.reduceMul, Nat.reduceSub, Nat.reduceEqDiff, Nat.reduceBEq, Int.reduceToNat, reduceCtorEq]
    refine seqM ?_
    refine sq ctNo_ok ?_
    simp only [go_sem, Nat.reduceLeDiff, Nat.reduceLT, Nat.reduceAdd, Nat.reduceMul, Nat.reduceSub, Nat.reduceEqDiff, Nat.reduceBEq, Int.reduceToNat, reduceCtorEq]
    repeat ((with_reducible refine And.intro ?_ ?_); focus exact an0)
    refine blkM ?_
    refine loop_den (fun s : (List TFrame) × Int => (.sl 1 41 0 s.1.length false :: tp 4 (.int .i64 (p0.length : Nat) :: .int .i64 s.2 :: tp 14 []))) (fun s => [.dead, .row 30 41 s.1.length (enR c_TFrame s.1)]) (fun e : List TFrame => (.sl 1 41 0 e.length false :: tp 20 [])) (fun e => [.dead, .row 30 41 e.length (enR c_TFrame e)]) H ?_ (fun s o H hn1_1 hn2_1 => ?_) (fun w1_3 H => ?_)
    · refine SubF_of ⟨[some 0, some 0], ?_, ?_, by rfl, by rfl⟩
      · simp [CvL, Cv, getM, tp, tp, tpg, t8]
      · exact ⟨CvB_dead, CvB_row nr_TFrame cl (fun _ _ _ _ => rfl), trivial⟩
    · obtain ⟨v1_1, v1_2⟩ := s
      unfold F65_0_L1 at H
      try dsimp only at H ⊢
      try simp only [tp]
      refine sq ctNo_ok ?_
      simp only [go_sem, Nat.reduceLeDiff, Nat.reduceLT, Nat.reduceAdd, Nat.reduceMul, Nat.reduceSub, Nat.reduceEqDiff, Nat.reduceBEq, Int.reduceToNat, reduceCtorEq]
      refine seqM ?_
      refine condM' rfl trivial (fun hc => ?_) (fun hc => ?_)
      · have hk1 : (bLt v1_2 (p0.length : Nat)) = false := by simpa using hc
        replace H := cond_f hc H
        refine rg ctNo_ok ?_
        simp only [go_sem, Nat.reduceLeDiff, Nat.reduceLT, Nat.reduceAdd, Nat.reduceMul, Nat.reduceSub, Nat.reduceEqDiff, Nat.reduceBEq, Int.reduceToNat, reduceCtorEq]
        refine ⟨_, (Option.some.inj H).symm, ?_⟩
        refine SubF_of ⟨[some 0, some 1], ?_, ?_, by rfl, by rfl⟩
        · simp [CvL, Cv, getM, tp, tp, tpg, t8]
        · exact ⟨CvB_dead, CvB_row nr_TFrame cl (fun _ _ _ _ => rfl), trivial⟩
      have hk1 : (bLt v1_2 (p0.length : Nat)) = true := by simpa using hc
      replace H := cond_t hc H
      refine rg ctNo_ok ?_
      simp only [go_sem, Nat.reduceLeDiff, Nat.reduceLT, Nat.reduceAdd, Nat.reduceMul, Nat.reduceSub, Nat.reduceEqDiff, Nat.reduceBEq, Int.reduceToNat, reduceCtorEq]
      refine seqM ?_
      refine blkM ?_
      refine sq ctNo_ok ?_
      simp only [go_sem, Nat.reduceLeDiff, Nat.reduceLT, Nat.reduceAdd, Nat.reduceMul, Nat.reduceSub, Nat.reduceEqDiff, Nat.reduceBEq, Int.reduceToNat, reduceCtorEq]
      obtain ⟨f2, H⟩ := need_some.1 H
      replace f2 := inb_iff.1 f2
      refine rg ctNo_ok ?_
      simp only [go_sem, Nat.reduceLeDiff, Nat.reduceLT, Nat.reduceAdd, Nat.reduceMul, Nat.reduceSub, Nat.reduceEqDiff, Nat.reduceBEq, Int.reduceToNat, reduceCtorEq, f2]
      repeat ((with_reducible refine And.intro ?_ ?_); focus exact an0)
      refine rg ctNo_ok ?_
      simp only [go_sem, Nat.reduceLeDiff, Nat.reduceLT, Nat.reduceAdd, Nat.reduceMul, Nat.reduceSub, Nat.reduceEqDiff, Nat.reduceBEq, Int.reduceToNat, reduceCtorEq]
      refine ⟨_, (Option.some.inj H).symm, ?_⟩
      refine SubF_of ⟨[some 0, some 1], ?_, ?_, by rfl, by rfl⟩
      · simp [CvL, Cv, getM, tp, tp, tpg, t8]
      · exact ⟨CvB_dead, CvB_row nr_TFrame cl (upc_row (f := c_TFrame) v1_1 v1_2.toNat 7 (TFrame.mk (THeader.mk (((gd v1_1 v1_2.toNat).Head).Kind) (((gd v1_1 v1_2.toNat).Head).Sub) (((gd v1_1 v1_2.toNat).Head).ToDs) (((gd v1_1 v1_2.toNat).Head).FromDs) (((gd v1_1 v1_2.toNat).Head).More) (((gd v1_1 v1_2.toNat).Head).Retry) (((gd v1_1 v1_2.toNat).Head).Sleep) (bLt (wr .i64 (v1_2 + 1)) (v1_1.length : Nat)) (((gd v1_1 v1_2.toNat).Head).Protected) (((gd v1_1 v1_2.toNat).Head).Duration) (A6u8.mk ((((gd v1_1 v1_2.toNat).Head).A1).x0) ((((gd v1_1 v1_2.toNat).Head).A1).x1) ((((gd v1_1 v1_2.toNat).Head).A1).x2) ((((gd v1_1 v1_2.toNat).Head).A1).x3) ((((gd v1_1 v1_2.toNat).Head).A1).x4) ((((gd v1_1 v1_2.toNat).Head).A1).x5)) (A6u8.mk ((((gd v1_1 v1_2.toNat).Head).A2).x0) ((((gd v1_1 v1_2.toNat).Head).A2).x1) ((((gd v1_1 v1_2.toNat).Head).A2).x2) ((((gd v1_1 v1_2.toNat).Head).A2).x3) ((((gd v1_1 v1_2.toNat).Head).A2).x4) ((((gd v1_1 v1_2.toNat).Head).A2).x5)) (A6u8.mk ((((gd v1_1 v1_2.toNat).Head).A3).x0) ((((gd v1_1 v1_2.toNat).Head).A3).x1) ((((gd v1_1 v1_2.toNat).Head).A3).x2) ((((gd v1_1 v1_2.toNat).Head).A3).x3) ((((gd v1_1 v1_2.toNat).Head).A3).x4) ((((gd v1_1 v1_2.toNat).Head).A3).x5)) (A6u8.mk ((((gd v1_1 v1_2.toNat).Head).A4).x0) ((((gd v1_1 v1_2.toNat).Head).A4).x1) ((((gd v1_1 v1_2.toNat).Head).A4).x2) ((((gd v1_1 v1_2.toNat).Head).A4).x3) ((((gd v1_1 v1_2.toNat).Head).A4).x4) ((((gd v1_1 v1_2.toNat).Head).A4).x5)) (((gd v1_1 v1_2.toNat).Head).Seq) (((gd v1_1 v1_2.toNat).Head).Frag) (((gd v1_1 v1_2.toNat).Head).Tid) (((gd v1_1 v1_2.toNat).Head).Ack) (((gd v1_1 v1_2.toNat).Head).Amsdu) (((gd v1_1 v1_2.toNat).Head).Eosp)) ((gd v1_1 v1_2.toNat).Body)) (fun _ _ _ _ => rfl) (fun y hy => match y, hy with | 0, _ => rfl | 1, _ => rfl | 2, _ => rfl | 3, _ => rfl | 4, _ => rfl | 5, _ => rfl | 6, _ => rfl | 7, _ => rfl | 8, _ => rfl | 9, _ => rfl | 10, _ => rfl | 11, _ => rfl | 12, _ => rfl | 13, _ => rfl | 14, _ => rfl | 15, _ => rfl | 16, _ => rfl | 17, _ => rfl | 18, _ => rfl | 19, _ => rfl | 20, _ => rfl | 21, _ => rfl | 22, _ => rfl | 23, _ => rfl | 24, _ => rfl | 25, _ => rfl | 26, _ => rfl | 27, _ => rfl | 28, _ => rfl | 29, _ => rfl | 30, _ => rfl | 31, _ => rfl | 32, _ => rfl | 33, _ => rfl | 34, _ => rfl | 35, _ => rfl | 36, _ => rfl | 37, _ => rfl | 38, _ => rfl | 39, _ => rfl | 40, _ => rfl | (y+41), h => absurd h nlt)), trivial⟩
    · try dsimp only at H ⊢
      try simp only [tp]
      try simp only [m_normal, k_normal, b_normal, kL_normal, r_normal]
      refine sq ctNo_ok ?_
      simp only [go_sem, Nat.reduceLeDiff, Nat.reduceLT, Nat.reduceAdd, Nat.reduceMul, Nat.reduceSub, Nat.reduceEqDiff, Nat.reduceBEq, Int.reduceToNat, reduceCtorEq]
      refine rg ctNo_ok ?_
      simp only [go_sem, Nat.reduceLeDiff, Nat.reduceLT, Nat.reduceAdd, Nat.reduceMul, Nat.reduceSub, Nat.reduceEqDiff, Nat.reduceBEq, Int.reduceToNat, reduceCtorEq]
      obtain rfl := Option.some.inj H
      refine RetE_mk [] [some 0, some 1] ?_ ?_ ?_ ?_ (by rfl) (by rfl)
      · simp only [go_sem, Nat.reduceEqDiff, Nat.reduceBEq, Nat.reduceAdd]
        try exact at0
      · simp only [go_sem, Nat.reduceEqDiff, Nat.reduceBEq, Nat.reduceAdd]
        try exact at0
      · simp only [go_sem, Nat.reduceEqDiff, Nat.reduceBEq, Nat.reduceAdd]
        exact (by first | (simp [Cv, CvL, getM, gt_some]; done) | (simp [Cv, CvL, getM, gt_some]; omega))
      · simp only [go_sem, Nat.reduceEqDiff, Nat.reduceBEq, Nat.reduceAdd, CvH, gt_some, Option.isSome_some, Option.isSome_none]
        first | exact ⟨CvB_dead, CvB_row nr_TFrame cl (fun _ _ _ _ => rfl)⟩ | trivial
  · cases hb
/-! hotspot/buffer.hand -/
noncomputable def F65_1 : Option (List TFrame) :=
  some []
noncomputable def body65_1 : List AV -> Nat -> AR
  | [.ro 0 0 true _], s => .heap ((F65_1).isSome = true) (.sl s 41 0 ((gt F65_1).length) false) [.row 30 41 ((gt F65_1).length) (enR c_TFrame (gt F65_1))]
  | _, _ => .fail
set_option maxHeartbeats 4000000 in
set_option maxRecDepth 20000 in
theorem ok65_1 : FnOk Try.prog 65 (genC body65_1) := by
  refine gen_fn body65_1 (rs := [.tmp 2]) Try.func65 (by kernel_rfl) rfl rfl ?_
  intro l s ob v ns hb hob
  rcases hb with ⟨hb, rfl⟩ | hb
  · unfold body65_1 at hb
    split at hb <;> cases hb
  · unfold body65_1 at hb
    split at hb
    · injection hb with q1 q2 q3; subst q1 q2 q3
      obtain ⟨r, H⟩ := Option.isSome_iff_exists.1 hob
      rw [H, gt_some]
      refine ⟨[.ro 0 0 true (fun _ _ => .top)], .sl 0 41 0 r.length false, [.row 30 41 r.length (enR c_TFrame r)], (fun E vs F => FR_wk1 (fun _ _ h => ro_nil h) F (fun vs F => F)), by simp only [ren, renL, rnN_0, rnN_s, Nat.zero_add, Nat.reduceAdd], ⟨RenB_row nr_TFrame, trivial⟩, ?_⟩
      rw [Try.ntmps65]
      simp only [List.length_cons, List.length_nil, Nat.reduceAdd, Nat.reduceSub, List.replicate_succ, List.replicate_zero, List.cons_append, List.nil_append]
      unfold F65_1 at H
      try dsimp only at H
      refine sq ctNo_ok ?_
      simp only [go_sem, Nat.reduceLeDiff, Nat.reduceLT, Nat.reduceAdd, Nat.reduceMul, Nat.reduceSub, Nat.reduceEqDiff, Nat.reduceBEq, Int.reduceToNat, reduceCtorEq]
      refine seqM ?_
      refine sq ctNo_ok ?_
      simp only [go_sem, Nat.reduceLeDiff, Nat.reduceLT, Nat.reduceAdd, Nat.reduceMul, Nat.reduceSub, Nat.reduceEqDiff, Nat.reduceBEq, Int.reduceToNat, reduceCtorEq]
      repeat ((with_reducible refine And.intro ?_ ?_); focus exact an0)
      refine blkM ?_
      refine loop_roundsM 1 ?_
      refine rndM ?_
      refine sq ctNo_ok ?_
      simp only [go_sem, Nat.reduceLeDiff, Nat.reduceLT, Nat.reduceAdd, Nat.reduceMul, Nat.reduceSub, Nat.reduceEqDiff, Nat.reduceBEq, Int.reduceToNat, reduceCtorEq, (by decide : bLt (0) (0) = false)]
      refine seqM ?_
      refine condM rfl trivial (fun hc => ?_) (fun hc => ?_)
      · cases hc
      refine rg ctNo_ok ?_
      simp only [go_sem, Nat.reduceLeDiff, Nat.reduceLT, Nat.reduceAdd, Nat.reduceMul, Nat.reduceSub, Nat.reduceEqDiff, Nat.reduceBEq, Int.reduceToNat, reduceCtorEq]
      refine sq ctNo_ok ?_
      simp only [go_sem, Nat.reduceLeDiff, Nat.reduceLT, Nat.reduceAdd, Nat.reduceMul, Nat.reduceSub, Nat.reduceEqDiff, Nat.reduceBEq, Int.reduceToNat, reduceCtorEq]
      refine rg ctNo_ok ?_
      simp only [go_sem, Nat.reduceLeDiff, Nat.reduceLT, Nat.reduceAdd, Nat.reduceMul, Nat.reduceSub, Nat.reduceEqDiff, Nat.reduceBEq, Int.reduceToNat, reduceCtorEq]
      obtain rfl := Option.some.inj H
      refine ⟨[], ?_, ?_, [none], ?_, ?_, by rfl⟩
      · simp only [go_sem, Nat.reduceEqDiff, Nat.reduceBEq, Nat.reduceAdd]
      · simp only [go_sem, Nat.reduceEqDiff, Nat.reduceBEq, Nat.reduceAdd]
      · simp [fzV, fzL, inL, Cv, CvL, getM]
      · simp only [go_sem, Nat.reduceEqDiff, Nat.reduceBEq, Nat.reduceAdd, CvH]
        exact CvB_none
    · cases hb
end Go.Proofs.Ytnclkplbeenmdaa
