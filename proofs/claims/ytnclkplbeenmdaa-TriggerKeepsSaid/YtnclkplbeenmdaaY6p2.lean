/-
  What TriggerKeeps reaches.
-/
import Derived.Test.YtnclkplbeenmdaaY6p1
namespace Go.Proofs.Ytnclkplbeenmdaa
open Go.Am
set_option maxHeartbeats 4000000
set_option maxRecDepth 20000
set_option linter.unusedVariables false
set_option linter.unusedSimpArgs false
noncomputable def ct29t0:Ct:=tab [(20,pureC body20),(34,pureC body34)]
theorem ct29t0_ok:CtOk Try.prog ct29t0:=tab_cons ok20 <| tab_cons ok34 <| tab_nil
theorem ct29t0_20 (l:List AV) (h:List ABlk):ct29t0 20 l h=pureC body20 l h:=rfl
theorem ct29t0_34 (l:List AV) (h:List ABlk):ct29t0 34 l h=pureC body34 l h:=rfl
noncomputable def ct29t1:Ct:=tab [(52,pureC body52_1)]
theorem ct29t1_ok:CtOk Try.prog ct29t1:=tab_cons ok52_1 <| tab_nil
theorem ct29t1_52 (l:List AV) (h:List ABlk):ct29t1 52 l h=pureC body52_1 l h:=rfl
noncomputable def ct29t2 (gi:Nat):Ct:=tab [(54,genC (body54f gi))]
theorem ct29t2_ok (gi:Nat):CtOk Try.prog (ct29t2 gi):=tab_cons (ok54f gi) <| tab_nil
theorem ct29t2_54 (gi:Nat) (l:List AV) (h:List ABlk):(ct29t2 gi) 54 l h=genC (body54f gi) l h:=rfl
noncomputable def ct29t3:Ct:=tab [(56,pureC body56_0)]
theorem ct29t3_ok:CtOk Try.prog ct29t3:=tab_cons ok56_0 <| tab_nil
theorem ct29t3_56 (l:List AV) (h:List ABlk):ct29t3 56 l h=pureC body56_0 l h:=rfl
noncomputable def ct29t4:Ct:=tab [(73,delN 73 43)]
theorem ct29t4_ok:CtOk Try.prog ct29t4:=tab_cons ok73 <| tab_nil
theorem ct29t4_73 (l:List AV) (h:List ABlk):ct29t4 73 l h=delN 73 43 l h:=rfl
noncomputable def ct29t5:Ct:=tab [(49,pureC body49_0)]
theorem ct29t5_ok:CtOk Try.prog ct29t5:=tab_cons ok49_0 <| tab_nil
theorem ct29t5_49 (l:List AV) (h:List ABlk):ct29t5 49 l h=pureC body49_0 l h:=rfl
noncomputable def ct29t6:Ct:=tab [(57,edC body57)]
theorem ct29t6_ok:CtOk Try.prog ct29t6:=tab_cons ok57 <| tab_nil
theorem ct29t6_57 (l:List AV) (h:List ABlk):ct29t6 57 l h=edC body57 l h:=rfl
noncomputable def F29_L2 (p1:TTriggerPlan) (v1_2:List TStored) (v2_1:Int) (v2_2:Int):Option (Lp (Int × Int) ((Int) ⊕ (TPeriod × TBuffer × Int))) :=
 bif (bLt v2_2 (v1_2.length:Nat)) then (need (inb v2_2 v1_2.length) <| (F56_0 p1.Deliver (TStored.mk ((gd v1_2 v2_2.toNat).Cat) ((gd v1_2 v2_2.toNat).At) (TFrame.mk (THeader.mk ((((gd v1_2 v2_2.toNat).Frame).Head).Kind) ((((gd v1_2 v2_2.toNat).Frame).Head).Sub) ((((gd v1_2 v2_2.toNat).Frame).Head).ToDs) ((((gd v1_2 v2_2.toNat).Frame).Head).FromDs) ((((gd v1_2 v2_2.toNat).Frame).Head).More) ((((gd v1_2 v2_2.toNat).Frame).Head).Retry) ((((gd v1_2 v2_2.toNat).Frame).Head).Sleep) ((((gd v1_2 v2_2.toNat).Frame).Head).MoreData) ((((gd v1_2 v2_2.toNat).Frame).Head).Protected) ((((gd v1_2 v2_2.toNat).Frame).Head).Duration) (A6u8.mk (((((gd v1_2 v2_2.toNat).Frame).Head).A1).x0) (((((gd v1_2 v2_2.toNat).Frame).Head).A1).x1) (((((gd v1_2 v2_2.toNat).Frame).Head).A1).x2) (((((gd v1_2 v2_2.toNat).Frame).Head).A1).x3) (((((gd v1_2 v2_2.toNat).Frame).Head).A1).x4) (((((gd v1_2 v2_2.toNat).Frame).Head).A1).x5)) (A6u8.mk (((((gd v1_2 v2_2.toNat).Frame).Head).A2).x0) (((((gd v1_2 v2_2.toNat).Frame).Head).A2).x1) (((((gd v1_2 v2_2.toNat).Frame).Head).A2).x2) (((((gd v1_2 v2_2.toNat).Frame).Head).A2).x3) (((((gd v1_2 v2_2.toNat).Frame).Head).A2).x4) (((((gd v1_2 v2_2.toNat).Frame).Head).A2).x5)) (A6u8.mk (((((gd v1_2 v2_2.toNat).Frame).Head).A3).x0) (((((gd v1_2 v2_2.toNat).Frame).Head).A3).x1) (((((gd v1_2 v2_2.toNat).Frame).Head).A3).x2) (((((gd v1_2 v2_2.toNat).Frame).Head).A3).x3) (((((gd v1_2 v2_2.toNat).Frame).Head).A3).x4) (((((gd v1_2 v2_2.toNat).Frame).Head).A3).x5)) (A6u8.mk (((((gd v1_2 v2_2.toNat).Frame).Head).A4).x0) (((((gd v1_2 v2_2.toNat).Frame).Head).A4).x1) (((((gd v1_2 v2_2.toNat).Frame).Head).A4).x2) (((((gd v1_2 v2_2.toNat).Frame).Head).A4).x3) (((((gd v1_2 v2_2.toNat).Frame).Head).A4).x4) (((((gd v1_2 v2_2.toNat).Frame).Head).A4).x5)) ((((gd v1_2 v2_2.toNat).Frame).Head).Seq) ((((gd v1_2 v2_2.toNat).Frame).Head).Frag) ((((gd v1_2 v2_2.toNat).Frame).Head).Tid) ((((gd v1_2 v2_2.toNat).Frame).Head).Ack) ((((gd v1_2 v2_2.toNat).Frame).Head).Amsdu) ((((gd v1_2 v2_2.toNat).Frame).Head).Eosp)) (((gd v1_2 v2_2.toNat).Frame).Body)))).bind fun r11=>need (bif (r11 && (!(bLt v2_1 0))) then inb v2_1 v1_2.length else true) <| bif (r11 && ((bLt v2_1 0) || (bLt ((gd v1_2 v2_1.toNat).Cat) ((gd v1_2 v2_2.toNat).Cat)))) then (some (.next (v2_2,wr .i64 (v2_2+1)))) else (some (.next (v2_1,wr .i64 (v2_2+1))))) else (some (.done (.inl v2_1)))
noncomputable def F29_L1 (p1:TTriggerPlan) (v1_1:List TFrame) (v1_2:List TStored):Option (Lp ((List TFrame) × (List TStored)) (((List TFrame) × (List TStored)) ⊕ (TPeriod × TBuffer × Int))) :=
 bif ((bEq p1.Most 0) || (bLt (v1_1.length:Nat) p1.Most)) then (lp (loopD (fun s=>F29_L2 p1 v1_2 s.1 s.2) ((-1),0)) (fun w2_3=>bif (bLt w2_3 0) then (some (.done (.inl (v1_1,v1_2)))) else (need (inb w2_3 v1_2.length) <| need (delb w2_3 (wr .i64 (w2_3+1)) v1_2.length) <| (some (delL v1_2 w2_3 (wr .i64 (w2_3+1)))).bind fun w16=>need (capb 104 (v1_1.length+1)) <| some (.next ((v1_1 ++ [(TFrame.mk (THeader.mk ((((gd v1_2 w2_3.toNat).Frame).Head).Kind) ((((gd v1_2 w2_3.toNat).Frame).Head).Sub) ((((gd v1_2 w2_3.toNat).Frame).Head).ToDs) ((((gd v1_2 w2_3.toNat).Frame).Head).FromDs) ((((gd v1_2 w2_3.toNat).Frame).Head).More) ((((gd v1_2 w2_3.toNat).Frame).Head).Retry) ((((gd v1_2 w2_3.toNat).Frame).Head).Sleep) true ((((gd v1_2 w2_3.toNat).Frame).Head).Protected) ((((gd v1_2 w2_3.toNat).Frame).Head).Duration) (A6u8.mk (((((gd v1_2 w2_3.toNat).Frame).Head).A1).x0) (((((gd v1_2 w2_3.toNat).Frame).Head).A1).x1) (((((gd v1_2 w2_3.toNat).Frame).Head).A1).x2) (((((gd v1_2 w2_3.toNat).Frame).Head).A1).x3) (((((gd v1_2 w2_3.toNat).Frame).Head).A1).x4) (((((gd v1_2 w2_3.toNat).Frame).Head).A1).x5)) (A6u8.mk (((((gd v1_2 w2_3.toNat).Frame).Head).A2).x0) (((((gd v1_2 w2_3.toNat).Frame).Head).A2).x1) (((((gd v1_2 w2_3.toNat).Frame).Head).A2).x2) (((((gd v1_2 w2_3.toNat).Frame).Head).A2).x3) (((((gd v1_2 w2_3.toNat).Frame).Head).A2).x4) (((((gd v1_2 w2_3.toNat).Frame).Head).A2).x5)) (A6u8.mk (((((gd v1_2 w2_3.toNat).Frame).Head).A3).x0) (((((gd v1_2 w2_3.toNat).Frame).Head).A3).x1) (((((gd v1_2 w2_3.toNat).Frame).Head).A3).x2) (((((gd v1_2 w2_3.toNat).Frame).Head).A3).x3) (((((gd v1_2 w2_3.toNat).Frame).Head).A3).x4) (((((gd v1_2 w2_3.toNat).Frame).Head).A3).x5)) (A6u8.mk (((((gd v1_2 w2_3.toNat).Frame).Head).A4).x0) (((((gd v1_2 w2_3.toNat).Frame).Head).A4).x1) (((((gd v1_2 w2_3.toNat).Frame).Head).A4).x2) (((((gd v1_2 w2_3.toNat).Frame).Head).A4).x3) (((((gd v1_2 w2_3.toNat).Frame).Head).A4).x4) (((((gd v1_2 w2_3.toNat).Frame).Head).A4).x5)) ((((gd v1_2 w2_3.toNat).Frame).Head).Seq) ((((gd v1_2 w2_3.toNat).Frame).Head).Frag) ((((gd v1_2 w2_3.toNat).Frame).Head).Tid) ((((gd v1_2 w2_3.toNat).Frame).Head).Ack) ((((gd v1_2 w2_3.toNat).Frame).Head).Amsdu) false) (((gd v1_2 w2_3.toNat).Frame).Body))]),w16)))) (fun r=>some (.done (.inr r)))) else (some (.done (.inl (v1_1,v1_2))))
noncomputable def F29 (p0:TBuffer) (p1:TTriggerPlan) (p2:Int) (p3:A6u8) (p4:A6u8):Option (TPeriod × TBuffer × Int) :=
 (F34 p0).bind fun r1=>need (bif (!(!bEq r1 0)) then ((F20 p1).isSome) else true) <| bif ((!bEq r1 0) || (!bEq (gt (F20 p1)) 0)) then (some ((TPeriod.mk 0 []),(TBuffer.mk 0 0 [] []),8)) else (bif ((bLt p2 1) || (bLt 255 p2)) then (some ((TPeriod.mk 0 []),(TBuffer.mk 0 0 [] []),2)) else ((F52_1 p0.List p2).bind fun r4=>bif (bLt r4 0) then (some ((TPeriod.mk 0 []),(TBuffer.mk 0 0 [] []),6)) else (need (inb r4 p0.List.length) <| bif (!((gd p0.List r4.toNat).Asleep)) then (some ((TPeriod.mk 0 []),(TBuffer.mk 0 0 [] []),20)) else ((F54f r4.toNat p0).bind fun r7=>need (inb r4 r7.List.length) <| lp (loopD (fun s=>F29_L1 p1 s.1 s.2) ([],(gd r7.List r4.toNat).Held)) (fun e1=>need (inb r4 r7.List.length) <| (F49_0 e1.2 p1.Deliver).bind fun r20=>bif (bEq (e1.1.length:Nat) 0) then ((F57 p3 p4).bind fun r22=>need (inb 0 1) <| (some (r7.List.set r4.toNat (TSleeper.mk ((gd r7.List r4.toNat).Aid) ((gd r7.List r4.toNat).Asleep) e1.2))).bind fun w25=>(some (([r22].set 0 (TFrame.mk (THeader.mk (((gd [r22] 0).Head).Kind) (((gd [r22] 0).Head).Sub) (((gd [r22] 0).Head).ToDs) (((gd [r22] 0).Head).FromDs) (((gd [r22] 0).Head).More) (((gd [r22] 0).Head).Retry) (((gd [r22] 0).Head).Sleep) (((gd [r22] 0).Head).MoreData) (((gd [r22] 0).Head).Protected) (((gd [r22] 0).Head).Duration) (A6u8.mk ((((gd [r22] 0).Head).A1).x0) ((((gd [r22] 0).Head).A1).x1) ((((gd [r22] 0).Head).A1).x2) ((((gd [r22] 0).Head).A1).x3) ((((gd [r22] 0).Head).A1).x4) ((((gd [r22] 0).Head).A1).x5)) (A6u8.mk ((((gd [r22] 0).Head).A2).x0) ((((gd [r22] 0).Head).A2).x1) ((((gd [r22] 0).Head).A2).x2) ((((gd [r22] 0).Head).A2).x3) ((((gd [r22] 0).Head).A2).x4) ((((gd [r22] 0).Head).A2).x5)) (A6u8.mk ((((gd [r22] 0).Head).A3).x0) ((((gd [r22] 0).Head).A3).x1) ((((gd [r22] 0).Head).A3).x2) ((((gd [r22] 0).Head).A3).x3) ((((gd [r22] 0).Head).A3).x4) ((((gd [r22] 0).Head).A3).x5)) (A6u8.mk ((((gd [r22] 0).Head).A4).x0) ((((gd [r22] 0).Head).A4).x1) ((((gd [r22] 0).Head).A4).x2) ((((gd [r22] 0).Head).A4).x3) ((((gd [r22] 0).Head).A4).x4) ((((gd [r22] 0).Head).A4).x5)) (((gd [r22] 0).Head).Seq) (((gd [r22] 0).Head).Frag) (((gd [r22] 0).Head).Tid) (((gd [r22] 0).Head).Ack) (((gd [r22] 0).Head).Amsdu) true) ((gd [r22] 0).Body))).set 0 ((fun qq24=>(TFrame.mk (THeader.mk qq24.Head.Kind qq24.Head.Sub qq24.Head.ToDs qq24.Head.FromDs qq24.Head.More qq24.Head.Retry qq24.Head.Sleep false qq24.Head.Protected qq24.Head.Duration (A6u8.mk qq24.Head.A1.x0 qq24.Head.A1.x1 qq24.Head.A1.x2 qq24.Head.A1.x3 qq24.Head.A1.x4 qq24.Head.A1.x5) (A6u8.mk qq24.Head.A2.x0 qq24.Head.A2.x1 qq24.Head.A2.x2 qq24.Head.A2.x3 qq24.Head.A2.x4 qq24.Head.A2.x5) (A6u8.mk qq24.Head.A3.x0 qq24.Head.A3.x1 qq24.Head.A3.x2 qq24.Head.A3.x3 qq24.Head.A3.x4 qq24.Head.A3.x5) (A6u8.mk qq24.Head.A4.x0 qq24.Head.A4.x1 qq24.Head.A4.x2 qq24.Head.A4.x3 qq24.Head.A4.x4 qq24.Head.A4.x5) qq24.Head.Seq qq24.Head.Frag qq24.Head.Tid qq24.Head.Ack qq24.Head.Amsdu qq24.Head.Eosp) qq24.Body)) (gd ([r22].set 0 (TFrame.mk (THeader.mk (((gd [r22] 0).Head).Kind) (((gd [r22] 0).Head).Sub) (((gd [r22] 0).Head).ToDs) (((gd [r22] 0).Head).FromDs) (((gd [r22] 0).Head).More) (((gd [r22] 0).Head).Retry) (((gd [r22] 0).Head).Sleep) (((gd [r22] 0).Head).MoreData) (((gd [r22] 0).Head).Protected) (((gd [r22] 0).Head).Duration) (A6u8.mk ((((gd [r22] 0).Head).A1).x0) ((((gd [r22] 0).Head).A1).x1) ((((gd [r22] 0).Head).A1).x2) ((((gd [r22] 0).Head).A1).x3) ((((gd [r22] 0).Head).A1).x4) ((((gd [r22] 0).Head).A1).x5)) (A6u8.mk ((((gd [r22] 0).Head).A2).x0) ((((gd [r22] 0).Head).A2).x1) ((((gd [r22] 0).Head).A2).x2) ((((gd [r22] 0).Head).A2).x3) ((((gd [r22] 0).Head).A2).x4) ((((gd [r22] 0).Head).A2).x5)) (A6u8.mk ((((gd [r22] 0).Head).A3).x0) ((((gd [r22] 0).Head).A3).x1) ((((gd [r22] 0).Head).A3).x2) ((((gd [r22] 0).Head).A3).x3) ((((gd [r22] 0).Head).A3).x4) ((((gd [r22] 0).Head).A3).x5)) (A6u8.mk ((((gd [r22] 0).Head).A4).x0) ((((gd [r22] 0).Head).A4).x1) ((((gd [r22] 0).Head).A4).x2) ((((gd [r22] 0).Head).A4).x3) ((((gd [r22] 0).Head).A4).x4) ((((gd [r22] 0).Head).A4).x5)) (((gd [r22] 0).Head).Seq) (((gd [r22] 0).Head).Frag) (((gd [r22] 0).Head).Tid) (((gd [r22] 0).Head).Ack) (((gd [r22] 0).Head).Amsdu) true) ((gd [r22] 0).Body))) 0)))).bind fun w27=>some ((TPeriod.mk p2 w27),(TBuffer.mk r7.Limit r7.Stay w25 r7.Group),0)) else (need (inb (wr .i64 ((e1.1.length:Nat) - 1)) e1.1.length) <| (some (r7.List.set r4.toNat (TSleeper.mk ((gd r7.List r4.toNat).Aid) ((gd r7.List r4.toNat).Asleep) e1.2))).bind fun w30=>(some ((e1.1.set ((wr .i64 ((e1.1.length:Nat) - 1)).toNat) (TFrame.mk (THeader.mk (((gd e1.1 ((wr .i64 ((e1.1.length:Nat) - 1)).toNat)).Head).Kind) (((gd e1.1 ((wr .i64 ((e1.1.length:Nat) - 1)).toNat)).Head).Sub) (((gd e1.1 ((wr .i64 ((e1.1.length:Nat) - 1)).toNat)).Head).ToDs) (((gd e1.1 ((wr .i64 ((e1.1.length:Nat) - 1)).toNat)).Head).FromDs) (((gd e1.1 ((wr .i64 ((e1.1.length:Nat) - 1)).toNat)).Head).More) (((gd e1.1 ((wr .i64 ((e1.1.length:Nat) - 1)).toNat)).Head).Retry) (((gd e1.1 ((wr .i64 ((e1.1.length:Nat) - 1)).toNat)).Head).Sleep) (((gd e1.1 ((wr .i64 ((e1.1.length:Nat) - 1)).toNat)).Head).MoreData) (((gd e1.1 ((wr .i64 ((e1.1.length:Nat) - 1)).toNat)).Head).Protected) (((gd e1.1 ((wr .i64 ((e1.1.length:Nat) - 1)).toNat)).Head).Duration) (A6u8.mk ((((gd e1.1 ((wr .i64 ((e1.1.length:Nat) - 1)).toNat)).Head).A1).x0) ((((gd e1.1 ((wr .i64 ((e1.1.length:Nat) - 1)).toNat)).Head).A1).x1) ((((gd e1.1 ((wr .i64 ((e1.1.length:Nat) - 1)).toNat)).Head).A1).x2) ((((gd e1.1 ((wr .i64 ((e1.1.length:Nat) - 1)).toNat)).Head).A1).x3) ((((gd e1.1 ((wr .i64 ((e1.1.length:Nat) - 1)).toNat)).Head).A1).x4) ((((gd e1.1 ((wr .i64 ((e1.1.length:Nat) - 1)).toNat)).Head).A1).x5)) (A6u8.mk ((((gd e1.1 ((wr .i64 ((e1.1.length:Nat) - 1)).toNat)).Head).A2).x0) ((((gd e1.1 ((wr .i64 ((e1.1.length:Nat) - 1)).toNat)).Head).A2).x1) ((((gd e1.1 ((wr .i64 ((e1.1.length:Nat) - 1)).toNat)).Head).A2).x2) ((((gd e1.1 ((wr .i64 ((e1.1.length:Nat) - 1)).toNat)).Head).A2).x3) ((((gd e1.1 ((wr .i64 ((e1.1.length:Nat) - 1)).toNat)).Head).A2).x4) ((((gd e1.1 ((wr .i64 ((e1.1.length:Nat) - 1)).toNat)).Head).A2).x5)) (A6u8.mk ((((gd e1.1 ((wr .i64 ((e1.1.length:Nat) - 1)).toNat)).Head).A3).x0) ((((gd e1.1 ((wr .i64 ((e1.1.length:Nat) - 1)).toNat)).Head).A3).x1) ((((gd e1.1 ((wr .i64 ((e1.1.length:Nat) - 1)).toNat)).Head).A3).x2) ((((gd e1.1 ((wr .i64 ((e1.1.length:Nat) - 1)).toNat)).Head).A3).x3) ((((gd e1.1 ((wr .i64 ((e1.1.length:Nat) - 1)).toNat)).Head).A3).x4) ((((gd e1.1 ((wr .i64 ((e1.1.length:Nat) - 1)).toNat)).Head).A3).x5)) (A6u8.mk ((((gd e1.1 ((wr .i64 ((e1.1.length:Nat) - 1)).toNat)).Head).A4).x0) ((((gd e1.1 ((wr .i64 ((e1.1.length:Nat) - 1)).toNat)).Head).A4).x1) ((((gd e1.1 ((wr .i64 ((e1.1.length:Nat) - 1)).toNat)).Head).A4).x2) ((((gd e1.1 ((wr .i64 ((e1.1.length:Nat) - 1)).toNat)).Head).A4).x3) ((((gd e1.1 ((wr .i64 ((e1.1.length:Nat) - 1)).toNat)).Head).A4).x4) ((((gd e1.1 ((wr .i64 ((e1.1.length:Nat) - 1)).toNat)).Head).A4).x5)) (((gd e1.1 ((wr .i64 ((e1.1.length:Nat) - 1)).toNat)).Head).Seq) (((gd e1.1 ((wr .i64 ((e1.1.length:Nat) - 1)).toNat)).Head).Frag) (((gd e1.1 ((wr .i64 ((e1.1.length:Nat) - 1)).toNat)).Head).Tid) (((gd e1.1 ((wr .i64 ((e1.1.length:Nat) - 1)).toNat)).Head).Ack) (((gd e1.1 ((wr .i64 ((e1.1.length:Nat) - 1)).toNat)).Head).Amsdu) true) ((gd e1.1 ((wr .i64 ((e1.1.length:Nat) - 1)).toNat)).Body))).set ((wr .i64 ((e1.1.length:Nat) - 1)).toNat) ((fun qq29=>(TFrame.mk (THeader.mk qq29.Head.Kind qq29.Head.Sub qq29.Head.ToDs qq29.Head.FromDs qq29.Head.More qq29.Head.Retry qq29.Head.Sleep r20 qq29.Head.Protected qq29.Head.Duration (A6u8.mk qq29.Head.A1.x0 qq29.Head.A1.x1 qq29.Head.A1.x2 qq29.Head.A1.x3 qq29.Head.A1.x4 qq29.Head.A1.x5) (A6u8.mk qq29.Head.A2.x0 qq29.Head.A2.x1 qq29.Head.A2.x2 qq29.Head.A2.x3 qq29.Head.A2.x4 qq29.Head.A2.x5) (A6u8.mk qq29.Head.A3.x0 qq29.Head.A3.x1 qq29.Head.A3.x2 qq29.Head.A3.x3 qq29.Head.A3.x4 qq29.Head.A3.x5) (A6u8.mk qq29.Head.A4.x0 qq29.Head.A4.x1 qq29.Head.A4.x2 qq29.Head.A4.x3 qq29.Head.A4.x4 qq29.Head.A4.x5) qq29.Head.Seq qq29.Head.Frag qq29.Head.Tid qq29.Head.Ack qq29.Head.Amsdu qq29.Head.Eosp) qq29.Body)) (gd (e1.1.set ((wr .i64 ((e1.1.length:Nat) - 1)).toNat) (TFrame.mk (THeader.mk (((gd e1.1 ((wr .i64 ((e1.1.length:Nat) - 1)).toNat)).Head).Kind) (((gd e1.1 ((wr .i64 ((e1.1.length:Nat) - 1)).toNat)).Head).Sub) (((gd e1.1 ((wr .i64 ((e1.1.length:Nat) - 1)).toNat)).Head).ToDs) (((gd e1.1 ((wr .i64 ((e1.1.length:Nat) - 1)).toNat)).Head).FromDs) (((gd e1.1 ((wr .i64 ((e1.1.length:Nat) - 1)).toNat)).Head).More) (((gd e1.1 ((wr .i64 ((e1.1.length:Nat) - 1)).toNat)).Head).Retry) (((gd e1.1 ((wr .i64 ((e1.1.length:Nat) - 1)).toNat)).Head).Sleep) (((gd e1.1 ((wr .i64 ((e1.1.length:Nat) - 1)).toNat)).Head).MoreData) (((gd e1.1 ((wr .i64 ((e1.1.length:Nat) - 1)).toNat)).Head).Protected) (((gd e1.1 ((wr .i64 ((e1.1.length:Nat) - 1)).toNat)).Head).Duration) (A6u8.mk ((((gd e1.1 ((wr .i64 ((e1.1.length:Nat) - 1)).toNat)).Head).A1).x0) ((((gd e1.1 ((wr .i64 ((e1.1.length:Nat) - 1)).toNat)).Head).A1).x1) ((((gd e1.1 ((wr .i64 ((e1.1.length:Nat) - 1)).toNat)).Head).A1).x2) ((((gd e1.1 ((wr .i64 ((e1.1.length:Nat) - 1)).toNat)).Head).A1).x3) ((((gd e1.1 ((wr .i64 ((e1.1.length:Nat) - 1)).toNat)).Head).A1).x4) ((((gd e1.1 ((wr .i64 ((e1.1.length:Nat) - 1)).toNat)).Head).A1).x5)) (A6u8.mk ((((gd e1.1 ((wr .i64 ((e1.1.length:Nat) - 1)).toNat)).Head).A2).x0) ((((gd e1.1 ((wr .i64 ((e1.1.length:Nat) - 1)).toNat)).Head).A2).x1) ((((gd e1.1 ((wr .i64 ((e1.1.length:Nat) - 1)).toNat)).Head).A2).x2) ((((gd e1.1 ((wr .i64 ((e1.1.length:Nat) - 1)).toNat)).Head).A2).x3) ((((gd e1.1 ((wr .i64 ((e1.1.length:Nat) - 1)).toNat)).Head).A2).x4) ((((gd e1.1 ((wr .i64 ((e1.1.length:Nat) - 1)).toNat)).Head).A2).x5)) (A6u8.mk ((((gd e1.1 ((wr .i64 ((e1.1.length:Nat) - 1)).toNat)).Head).A3).x0) ((((gd e1.1 ((wr .i64 ((e1.1.length:Nat) - 1)).toNat)).Head).A3).x1) ((((gd e1.1 ((wr .i64 ((e1.1.length:Nat) - 1)).toNat)).Head).A3).x2) ((((gd e1.1 ((wr .i64 ((e1.1.length:Nat) - 1)).toNat)).Head).A3).x3) ((((gd e1.1 ((wr .i64 ((e1.1.length:Nat) - 1)).toNat)).Head).A3).x4) ((((gd e1.1 ((wr .i64 ((e1.1.length:Nat) - 1)).toNat)).Head).A3).x5)) (A6u8.mk ((((gd e1.1 ((wr .i64 ((e1.1.length:Nat) - 1)).toNat)).Head).A4).x0) ((((gd e1.1 ((wr .i64 ((e1.1.length:Nat) - 1)).toNat)).Head).A4).x1) ((((gd e1.1 ((wr .i64 ((e1.1.length:Nat) - 1)).toNat)).Head).A4).x2) ((((gd e1.1 ((wr .i64 ((e1.1.length:Nat) - 1)).toNat)).Head).A4).x3) ((((gd e1.1 ((wr .i64 ((e1.1.length:Nat) - 1)).toNat)).Head).A4).x4) ((((gd e1.1 ((wr .i64 ((e1.1.length:Nat) - 1)).toNat)).Head).A4).x5)) (((gd e1.1 ((wr .i64 ((e1.1.length:Nat) - 1)).toNat)).Head).Seq) (((gd e1.1 ((wr .i64 ((e1.1.length:Nat) - 1)).toNat)).Head).Frag) (((gd e1.1 ((wr .i64 ((e1.1.length:Nat) - 1)).toNat)).Head).Tid) (((gd e1.1 ((wr .i64 ((e1.1.length:Nat) - 1)).toNat)).Head).Ack) (((gd e1.1 ((wr .i64 ((e1.1.length:Nat) - 1)).toNat)).Head).Amsdu) true) ((gd e1.1 ((wr .i64 ((e1.1.length:Nat) - 1)).toNat)).Body))) ((wr .i64 ((e1.1.length:Nat) - 1)).toNat))))).bind fun w32=>some ((TPeriod.mk p2 w32),(TBuffer.mk r7.Limit r7.Stay w30 r7.Group),0))) some))))
noncomputable def body29:List AV->Nat->AR
 | [v0,v1,v2,v3,v4],_=>.pure (aK 4 k_TBuffer v0/\aK 3 k_TTriggerPlan v1/\iK .i64 v2/\aK 6 k_A6u8 v3/\aK 6 k_A6u8 v4/\(F29 (g_TBuffer (aL v0)) (g_TTriggerPlan (aL v1)) (iA v2) (g_A6u8 (aL v3)) (g_A6u8 (aL v4))).isSome=true) (.tup [.agg [.int .i64 (((gt (F29 (g_TBuffer (aL v0)) (g_TTriggerPlan (aL v1)) (iA v2) (g_A6u8 (aL v3)) (g_A6u8 (aL v4)))).1).Aid),.ro 41 ((((gt (F29 (g_TBuffer (aL v0)) (g_TTriggerPlan (aL v1)) (iA v2) (g_A6u8 (aL v3)) (g_A6u8 (aL v4)))).1).Left).length) false (enR c_TFrame (((gt (F29 (g_TBuffer (aL v0)) (g_TTriggerPlan (aL v1)) (iA v2) (g_A6u8 (aL v3)) (g_A6u8 (aL v4)))).1).Left))],.agg [.int .i64 (((gt (F29 (g_TBuffer (aL v0)) (g_TTriggerPlan (aL v1)) (iA v2) (g_A6u8 (aL v3)) (g_A6u8 (aL v4)))).2.1).Limit),.int .i64 (((gt (F29 (g_TBuffer (aL v0)) (g_TTriggerPlan (aL v1)) (iA v2) (g_A6u8 (aL v3)) (g_A6u8 (aL v4)))).2.1).Stay),.ro 3 ((((gt (F29 (g_TBuffer (aL v0)) (g_TTriggerPlan (aL v1)) (iA v2) (g_A6u8 (aL v3)) (g_A6u8 (aL v4)))).2.1).List).length) false (enR c_TSleeper (((gt (F29 (g_TBuffer (aL v0)) (g_TTriggerPlan (aL v1)) (iA v2) (g_A6u8 (aL v3)) (g_A6u8 (aL v4)))).2.1).List)),.ro 43 ((((gt (F29 (g_TBuffer (aL v0)) (g_TTriggerPlan (aL v1)) (iA v2) (g_A6u8 (aL v3)) (g_A6u8 (aL v4)))).2.1).Group).length) false (enR c_TStored (((gt (F29 (g_TBuffer (aL v0)) (g_TTriggerPlan (aL v1)) (iA v2) (g_A6u8 (aL v3)) (g_A6u8 (aL v4)))).2.1).Group))],.int .i64 ((gt (F29 (g_TBuffer (aL v0)) (g_TTriggerPlan (aL v1)) (iA v2) (g_A6u8 (aL v3)) (g_A6u8 (aL v4)))).2.2)])
 | _,_=>.fail
theorem ok29:FnOk Try.prog 29 (genC body29):=by
 refine gen_fn body29 (rs:=[.cell 10 33,.cell 11 52,.tmp 12]) Try.func29 (by kernel_rfl) rfl rfl ?_
 intro l s ob v ns hb hob
 rcases hb with ⟨hb,rfl⟩|hb
 ·unfold body29 at hb
  split at hb
  ·rename_i v0 v1 v2 v3 v4
   injection hb with q1 q2;subst q1 q2
   obtain ⟨hk0_0,hk1_0,hk2_0,hk3_0,hk4_0,hob⟩:=hob
   obtain ⟨r,H⟩:=Option.isSome_iff_exists.1 hob
   rw [H,gt_some]
   have hw0:=wA_TBuffer hk0_0
   have hw1:=wA_TTriggerPlan hk1_0
   have hw2:=iK_wk hk2_0
   have hw3:=wA_A6u8 hk3_0
   have hw4:=wA_A6u8 hk4_0
   generalize g_TBuffer (aL v0)=p0 at H hw0
   generalize g_TTriggerPlan (aL v1)=p1 at H hw1
   generalize iA v2=p2 at H hw2
   generalize g_A6u8 (aL v3)=p3 at H hw3
   generalize g_A6u8 (aL v4)=p4 at H hw4
   refine ⟨[.agg [.int .i64 p0.Limit,.int .i64 p0.Stay,.ro 3 p0.List.length false (enR c_TSleeper p0.List),.ro 43 p0.Group.length false (enR c_TStored p0.Group)],.agg [.int .u8 p1.Start,.int .u8 p1.Deliver,.int .i64 p1.Most],.int .i64 p2,.agg [.int .u8 p3.x0,.int .u8 p3.x1,.int .u8 p3.x2,.int .u8 p3.x3,.int .u8 p3.x4,.int .u8 p3.x5],.agg [.int .u8 p4.x0,.int .u8 p4.x1,.int .u8 p4.x2,.int .u8 p4.x3,.int .u8 p4.x4,.int .u8 p4.x5]],.tup [.agg [.int .i64 r.1.Aid,.ro 41 r.1.Left.length false (enR c_TFrame r.1.Left)],.agg [.int .i64 r.2.1.Limit,.int .i64 r.2.1.Stay,.ro 3 r.2.1.List.length false (enR c_TSleeper r.2.1.List),.ro 43 r.2.1.Group.length false (enR c_TStored r.2.1.Group)],.int .i64 r.2.2],[],(fun E vs F=>FR_wk1 hw0.1 F (fun vs F=>FR_wk1 hw1.1 F (fun vs F=>FR_wk1 hw2.1 F (fun vs F=>FR_wk1 hw3.1 F (fun vs F=>FR_wk1 hw4.1 F (fun vs F=>F)))))),by simp only [ren,renL],trivial,?_⟩
   rw [Try.ntmps29]
   simp only [List.length_cons,List.length_nil,Nat.reduceAdd,Nat.reduceSub,List.replicate_succ,List.replicate_zero,List.cons_append,List.nil_append]
   unfold F29 at H
   try dsimp only at H
   refine sq ctNo_ok ?_
   simp only [go_sem,Nat.reduceAdd]
   refine seqM ?_
   refine seqM ?_
   obtain ⟨r1,e2,H⟩:=bsi H
   obtain ⟨f3,H⟩:=need_some.1 H
   replace f3:=g_iff.1 f3
   refine rg ct29t0_ok ?_
   simp only [go_sem,Nat.reduceLT,Nat.reduceAdd,ct29t0_20,body20,ct29t0_34,body34,e2]
   repeat ((with_reducible refine And.intro ?_ ?_);focus (first|(with_reducible trivial)|omega|exact f3|(intro g;have q:=f3 (by first|exact g|(rw [g];rfl)|simpa using g);first|exact q|exact ⟨q.1,q.2.1⟩|exact q.2.2|omega|exact ⟨g,q⟩|exact ⟨trivial,q⟩|exact ⟨g,q.1,q.2.1⟩|exact ⟨g,q.2.2⟩)|(intro g;(try have q0:=f3 (by first|exact g|(rw [g];rfl)|simpa using g));and_intros<;>first|(with_reducible trivial)|assumption|exact nfc|(intro g2;rw [g,g2];rfl)|(intro g2;assumption)|(simp only [g,Bool.true_and,Bool.and_true,Bool.not_false,Bool.not_true];assumption)|grind)|(and_intros<;>first|(with_reducible trivial)|omega|assumption|exact nfc|first|exact rfl|exact trivial|exact fitI|exact .inr rfl|exact .inl rfl|exact fun x hx=>absurd hx (by omega))|grind))
   refine condM rfl trivial (fun hc=>?_) (fun hc=>?_)
   ·replace H:=cond_t hc H
    refine sq ctNo_ok ?_
    simp only [go_sem,Nat.reduceAdd]
    repeat ((with_reducible refine And.intro ?_ ?_);focus exact an6)
    refine rg ctNo_ok ?_
    simp only [go_sem,Nat.reduceLT,Nat.reduceAdd]
    obtain rfl:=Option.some.inj H
    refine ⟨[0,1,2,3,4,5,6],?_,?_,[],?_,?_,rfl⟩
    ·simp only [go_sem]
     try exact at0
    ·simp only [go_sem]
     try exact at0
    ·simp only [go_sem]
     exact Cv_tup (CvL_cons (Cv_agg (CvL_cons Cv_int (CvL_cons (Cv_ronil (α:=TFrame)) CvL_nil))) (CvL_cons (Cv_agg (CvL_cons Cv_int (CvL_cons Cv_int (CvL_cons (Cv_ronil (α:=TSleeper)) (CvL_cons (Cv_ronil (α:=TStored)) CvL_nil))))) (CvL_cons Cv_int CvL_nil)))
    ·simp only [go_sem,CvH]
   replace H:=cond_f hc H
   refine rg ctNo_ok ?_
   simp only [go_sem]
   refine seqM ?_
   refine sq ctNo_ok ?_
   simp only [go_sem,Nat.reduceLT]
   repeat ((with_reducible refine And.intro ?_ ?_);focus exact an6)
   refine condM rfl trivial (fun hc=>?_) (fun hc=>?_)
   ·replace H:=cond_t hc H
    refine sq ctNo_ok ?_
    simp only [go_sem,Nat.reduceAdd]
    repeat ((with_reducible refine And.intro ?_ ?_);focus exact an6)
    refine rg ctNo_ok ?_
    simp only [go_sem,Nat.reduceLT,Nat.reduceAdd]
    obtain rfl:=Option.some.inj H
    refine ⟨[0,1,2,3,4,5,6],?_,?_,[],?_,?_,rfl⟩
    ·simp only [go_sem]
     try exact at0
    ·simp only [go_sem]
     try exact at0
    ·simp only [go_sem]
     exact Cv_tup (CvL_cons (Cv_agg (CvL_cons Cv_int (CvL_cons (Cv_ronil (α:=TFrame)) CvL_nil))) (CvL_cons (Cv_agg (CvL_cons Cv_int (CvL_cons Cv_int (CvL_cons (Cv_ronil (α:=TSleeper)) (CvL_cons (Cv_ronil (α:=TStored)) CvL_nil))))) (CvL_cons Cv_int CvL_nil)))
    ·simp only [go_sem,CvH]
   replace H:=cond_f hc H
   refine rg ctNo_ok ?_
   simp only [go_sem]
   refine seqM ?_
   obtain ⟨r4,e5,H⟩:=bsi H
   refine rg ct29t1_ok ?_
   simp only [go_sem,Nat.reduceLeDiff,Nat.reduceLT,Nat.reduceAdd,ct29t1_52,body52_1,e5]
   repeat ((with_reducible refine And.intro ?_ ?_);focus exact an0)
   refine seqM ?_
   refine blkM ?_
   refine sq ctNo_ok ?_
   simp only [go_sem]
   refine condM rfl trivial (fun hc=>?_) (fun hc=>?_)
   ·replace H:=cond_t hc H
    refine sq ctNo_ok ?_
    simp only [go_sem,Nat.reduceAdd]
    repeat ((with_reducible refine And.intro ?_ ?_);focus exact an6)
    refine rg ctNo_ok ?_
    simp only [go_sem,Nat.reduceLT,Nat.reduceAdd]
    obtain rfl:=Option.some.inj H
    refine ⟨[0,1,2,3,4,5,6],?_,?_,[],?_,?_,rfl⟩
    ·simp only [go_sem]
     try exact at0
    ·simp only [go_sem]
     try exact at0
    ·simp only [go_sem]
     exact Cv_tup (CvL_cons (Cv_agg (CvL_cons Cv_int (CvL_cons (Cv_ronil (α:=TFrame)) CvL_nil))) (CvL_cons (Cv_agg (CvL_cons Cv_int (CvL_cons Cv_int (CvL_cons (Cv_ronil (α:=TSleeper)) (CvL_cons (Cv_ronil (α:=TStored)) CvL_nil))))) (CvL_cons Cv_int CvL_nil)))
    ·simp only [go_sem,CvH]
   replace H:=cond_f hc H
   refine seqM ?_
   obtain ⟨f6,H⟩:=need_some.1 H
   replace f6:=inb_iff.1 f6
   refine rg ctNo_ok ?_
   simp only [go_sem,Nat.reduceLeDiff,Nat.reduceLT,Nat.reduceAdd,f6]
   repeat ((with_reducible refine And.intro ?_ ?_);focus exact an6)
   refine condM rfl trivial (fun hc=>?_) (fun hc=>?_)
   ·replace H:=cond_t hc H
    refine sq ctNo_ok ?_
    simp only [go_sem,Nat.reduceAdd]
    repeat ((with_reducible refine And.intro ?_ ?_);focus exact an6)
    refine rg ctNo_ok ?_
    simp only [go_sem,Nat.reduceLT,Nat.reduceAdd]
    obtain rfl:=Option.some.inj H
    refine ⟨[0,1,2,3,4,5,6],?_,?_,[],?_,?_,rfl⟩
    ·simp only [go_sem]
     try exact at0
    ·simp only [go_sem]
     try exact at0
    ·simp only [go_sem]
     exact Cv_tup (CvL_cons (Cv_agg (CvL_cons Cv_int (CvL_cons (Cv_ronil (α:=TFrame)) CvL_nil))) (CvL_cons (Cv_agg (CvL_cons Cv_int (CvL_cons Cv_int (CvL_cons (Cv_ronil (α:=TSleeper)) (CvL_cons (Cv_ronil (α:=TStored)) CvL_nil))))) (CvL_cons Cv_int CvL_nil)))
    ·simp only [go_sem,CvH]
   replace H:=cond_f hc H
   refine rg ctNo_ok ?_
   simp only [go_sem]
   refine seqM ?_
   obtain ⟨r7,e8,H⟩:=bsi H
   refine rg (ct29t2_ok r4.toNat) ?_
   simp only [go_sem,Nat.reduceLT,Nat.reduceAdd,ct29t2_54,body54f,e8]
   repeat ((with_reducible refine And.intro ?_ ?_);focus exact an0)
   refine seqM ?_
   obtain ⟨f9,H⟩:=need_some.1 H
   replace f9:=inb_iff.1 f9
   refine draw_rule shT_ok ctNo_ok 1 (by kernel_rfl) (by kernel_rfl) ?_
   intro an han
   simp only [d_nil,d_cons,nxtD,xrD,xoD,roEq,minL,List.append_nil,refsOp,refs,mask,maskF,place,placeF,okLog,pairOk,hit,inL,slotsF,ren,rnN,nrH,nrB,nrL,nr,List.replicate_zero,List.replicate_succ,Nat.sub_self,Nat.add_zero,Nat.zero_add,Nat.reduceSub,Nat.lt_add_one,go_sem,Nat.reduceLeDiff,Nat.reduceLT,Nat.reduceAdd,Nat.reduceSub,Nat.reduceBEq,upc_ii,f9]
   repeat ((with_reducible refine And.intro ?_ ?_);focus exact an2)
   refine sq ctNo_ok ?_
   simp only [go_sem,Nat.reduceLeDiff,Nat.reduceLT,Nat.reduceAdd]
   repeat ((with_reducible refine And.intro ?_ ?_);focus exact an6)
   refine seqM ?_
   refine blkM ?_
   refine loop_den (fun s:(List TFrame) × (List TStored)=>(tp 5 (.ptr 0 0 0 0::.ptr 1 0 0 0::.top::.ptr 3 0 0 0::.ptr 4 0 0 0::.ptr 5 0 0 0::.ptr 6 0 0 0::.top::.int .i64 r4::.ptr 10 0 0 0::tp 125 []))) (fun s=>[.lit 52 [.int .i64 r7.Limit,.int .i64 r7.Stay,.sl 7 3 0 r7.List.length false,.sl 9 43 0 r7.Group.length false],.lit 23 [.int .u8 p1.Start,.int .u8 p1.Deliver,.int .i64 p1.Most],.dead,.lit 25 [.int .u8 p3.x0,.int .u8 p3.x1,.int .u8 p3.x2,.int .u8 p3.x3,.int .u8 p3.x4,.int .u8 p3.x5],.lit 25 [.int .u8 p4.x0,.int .u8 p4.x1,.int .u8 p4.x2,.int .u8 p4.x3,.int .u8 p4.x4,.int .u8 p4.x5],.lit 33 [.int .i64 p2,.sl 11 41 0 s.1.length false],.lit 52 [.int .i64 0,.int .i64 0,.ro 0 0 true (fun _ _=>.top),.ro 0 0 true (fun _ _=>.top)],.row 71 3 r7.List.length (upc (enR c_TSleeper r7.List) r4.toNat 2 [.sl 8 43 0 (((gd r7.List r4.toNat).Held).length) false]),.dead,.row 73 43 r7.Group.length (enR c_TStored r7.Group),.lit 103 [.sl 12 43 0 s.2.length false,.int .u8 p1.Deliver],.row 30 41 s.1.length (enR c_TFrame s.1),.row 73 43 s.2.length (enR c_TStored s.2)]) (fun e:(List TFrame) × (List TStored)=>(tp 5 (.ptr 0 0 0 0::.top::.top::.ptr 3 0 0 0::.ptr 4 0 0 0::.ptr 5 0 0 0::.ptr 6 0 0 0::.top::.int .i64 r4::.ptr 10 0 0 0::tp 125 []))) (fun e=>[.lit 52 [.int .i64 r7.Limit,.int .i64 r7.Stay,.sl 7 3 0 r7.List.length false,.sl 9 43 0 r7.Group.length false],.dead,.dead,.lit 25 [.int .u8 p3.x0,.int .u8 p3.x1,.int .u8 p3.x2,.int .u8 p3.x3,.int .u8 p3.x4,.int .u8 p3.x5],.lit 25 [.int .u8 p4.x0,.int .u8 p4.x1,.int .u8 p4.x2,.int .u8 p4.x3,.int .u8 p4.x4,.int .u8 p4.x5],.lit 33 [.int .i64 p2,.sl 11 41 0 e.1.length false],.lit 52 [.int .i64 0,.int .i64 0,.ro 0 0 true (fun _ _=>.top),.ro 0 0 true (fun _ _=>.top)],.row 71 3 r7.List.length (upc (enR c_TSleeper r7.List) r4.toNat 2 [.sl 8 43 0 (((gd r7.List r4.toNat).Held).length) false]),.dead,.row 73 43 r7.Group.length (enR c_TStored r7.Group),.lit 103 [.sl 12 43 0 e.2.length false,.int .u8 p1.Deliver],.row 30 41 e.1.length (enR c_TFrame e.1),.row 73 43 e.2.length (enR c_TStored e.2)]) H ?_ (fun s o H hn1_1 hn2_1=>?_) (fun e H=>?_)
   ·refine SubF_of ⟨[some 0,some 1,some 2,some 3,some 4,some 5,some 6,some 7,some 8,some 9,some 10,none,some 8],?_,?_,by rfl,by rfl⟩
    ·simp [CvL,Cv,getM,tp]
    ·exact ⟨cv,cv,CvB_dead,cv,cv,cv,cv,(CvB_focG (i:=r4.toNat) (L:=r7.List) nr_TSleeper (fun x y hx=>by simp only [upc_ne hx]) (fun y hy=>match y,hy with|0,_=>by simp [upc_ii,getL,Cv,enR,c_TSleeper]|1,_=>by simp [upc_ii,getL,Cv,enR,c_TSleeper]|2,_=>by simp [upc_ii,getL,Cv,getM,enR,c_TSleeper]|(y+3),h=>absurd h nlt)),CvB_dead,(CvB_same nfA),cv,CvB_none,CvB_row nr_TStored cl (fun _ _ _ _=>rfl),trivial⟩
   ·obtain ⟨v1_1,v1_2⟩:=s
    unfold F29_L1 at H
    try dsimp only at H ⊢
    try simp only [tp]
    refine seqM ?_
    refine sq ctNo_ok ?_
    simp only [go_sem,Nat.reduceLT,Nat.reduceAdd]
    repeat ((with_reducible refine And.intro ?_ ?_);focus exact an7)
    refine condM' rfl trivial (fun hc=>?_) (fun hc=>?_)
    ·replace H:=cond_f hc H
     refine rg ctNo_ok ?_
     simp only [go_sem]
     refine ⟨_,(Option.some.inj H).symm,?_⟩
     refine SubF_of ⟨[some 0,some 1,some 2,some 3,some 4,some 5,some 6,some 7,some 8,some 9,some 10,some 11,some 12],?_,?_,by rfl,by rfl⟩
     ·simp [CvL,Cv,getM]
     ·exact ⟨cv,CvB_dead,CvB_dead,cv,cv,cv,cv,(CvB_focG (i:=r4.toNat) (L:=r7.List) nr_TSleeper (fun x y hx=>by simp only [upc_ne hx]) (fun y hy=>match y,hy with|0,_=>by simp [upc_ii,getL,Cv,enR,c_TSleeper]|1,_=>by simp [upc_ii,getL,Cv,enR,c_TSleeper]|2,_=>by simp [upc_ii,getL,Cv,getM,enR,c_TSleeper]|(y+3),h=>absurd h nlt)),CvB_dead,(CvB_same nfA),cv,CvB_row nr_TFrame cl (fun _ _ _ _=>rfl),CvB_row nr_TStored cl (fun _ _ _ _=>rfl),trivial⟩
    replace H:=cond_t hc H
    refine rg ctNo_ok ?_
    simp only [go_sem]
    refine blkM ?_
    refine seqM ?_
    refine regO ?_
    refine cutO shT_ok ctNo_ok 1 ?_
    simp only [kO_normal,List.take_succ_cons,List.take_zero,List.drop_succ_cons,List.drop_zero,go_sem]
    repeat ((with_reducible refine And.intro ?_ ?_);focus exact an0)
    refine inlO (rs:=[.cell 2 30,.tmp 3]) Try.func55 (by kernel_rfl) rfl rfl Try.ntmps55 (caps:=[]) (tc:=[.ptr 10 0 0 0]) rfl (by simp only [go_sem]) rfl ?_
    simp only [List.length_cons,List.length_nil,Nat.reduceAdd,Nat.reduceSub,List.replicate_succ,List.replicate_zero,List.cons_append,List.nil_append]
    refine sq ctNo_ok ?_
    simp only [go_sem,Nat.reduceAdd]
    refine sq ctNo_ok ?_
    simp only [go_sem]
    refine seqM ?_
    refine sq ctNo_ok ?_
    simp only [go_sem,Nat.reduceLeDiff,Nat.reduceLT,Nat.reduceAdd]
    repeat ((with_reducible refine And.intro ?_ ?_);focus exact an0)
    refine blkM ?_
    refine loop_den (fun s:Int × Int=>(.ptr 10 0 0 0::.top::.ptr 13 0 0 0::.top::.int .i64 s.1::tp 6 (.sl 12 43 0 v1_2.length false::.int .i64 (v1_2.length:Nat)::.int .i64 s.2::tp 49 []))) (fun s=>[.lit 52 [.int .i64 r7.Limit,.int .i64 r7.Stay,.sl 7 3 0 r7.List.length false,.sl 9 43 0 r7.Group.length false],.lit 23 [.int .u8 p1.Start,.int .u8 p1.Deliver,.int .i64 p1.Most],.dead,.lit 25 [.int .u8 p3.x0,.int .u8 p3.x1,.int .u8 p3.x2,.int .u8 p3.x3,.int .u8 p3.x4,.int .u8 p3.x5],.lit 25 [.int .u8 p4.x0,.int .u8 p4.x1,.int .u8 p4.x2,.int .u8 p4.x3,.int .u8 p4.x4,.int .u8 p4.x5],.lit 33 [.int .i64 p2,.sl 11 41 0 v1_1.length false],.lit 52 [.int .i64 0,.int .i64 0,.ro 0 0 true (fun _ _=>.top),.ro 0 0 true (fun _ _=>.top)],.row 71 3 r7.List.length (upc (enR c_TSleeper r7.List) r4.toNat 2 [.sl 8 43 0 (((gd r7.List r4.toNat).Held).length) false]),.dead,.row 73 43 r7.Group.length (enR c_TStored r7.Group),.lit 103 [.sl 12 43 0 v1_2.length false,.int .u8 p1.Deliver],.row 30 41 v1_1.length (enR c_TFrame v1_1),.row 73 43 v1_2.length (enR c_TStored v1_2),.lit 30 (.int .u8 0::.int .u8 0::.bool false::.bool false::.bool false::.bool false::.bool false::.bool false::.bool false::.int .i64 0::.int .u8 0::.int .u8 0::.int .u8 0::.int .u8 0::.int .u8 0::.int .u8 0::.int .u8 0::.int .u8 0::.int .u8 0::.int .u8 0::.int .u8 0::.int .u8 0::.int .u8 0::.int .u8 0::.int .u8 0::.int .u8 0::.int .u8 0::.int .u8 0::.int .u8 0::.int .u8 0::.int .u8 0::.int .u8 0::.int .u8 0::.int .u8 0::.int .i64 0::.int .i64 0::.int .i64 0::.int .u8 0::.bool false::.bool false::.ro 0 0 true (fun _ _=>.top)::[])]) (fun e:Int=>(.ptr 10 0 0 0::.top::.ptr 13 0 0 0::.top::.int .i64 e::tp 58 [])) (fun e=>[.lit 52 [.int .i64 r7.Limit,.int .i64 r7.Stay,.sl 7 3 0 r7.List.length false,.sl 9 43 0 r7.Group.length false],.lit 23 [.int .u8 p1.Start,.int .u8 p1.Deliver,.int .i64 p1.Most],.dead,.lit 25 [.int .u8 p3.x0,.int .u8 p3.x1,.int .u8 p3.x2,.int .u8 p3.x3,.int .u8 p3.x4,.int .u8 p3.x5],.lit 25 [.int .u8 p4.x0,.int .u8 p4.x1,.int .u8 p4.x2,.int .u8 p4.x3,.int .u8 p4.x4,.int .u8 p4.x5],.lit 33 [.int .i64 p2,.sl 11 41 0 v1_1.length false],.lit 52 [.int .i64 0,.int .i64 0,.ro 0 0 true (fun _ _=>.top),.ro 0 0 true (fun _ _=>.top)],.row 71 3 r7.List.length (upc (enR c_TSleeper r7.List) r4.toNat 2 [.sl 8 43 0 (((gd r7.List r4.toNat).Held).length) false]),.dead,.row 73 43 r7.Group.length (enR c_TStored r7.Group),.lit 103 [.sl 12 43 0 v1_2.length false,.int .u8 p1.Deliver],.row 30 41 v1_1.length (enR c_TFrame v1_1),.row 73 43 v1_2.length (enR c_TStored v1_2),.lit 30 (.int .u8 0::.int .u8 0::.bool false::.bool false::.bool false::.bool false::.bool false::.bool false::.bool false::.int .i64 0::.int .u8 0::.int .u8 0::.int .u8 0::.int .u8 0::.int .u8 0::.int .u8 0::.int .u8 0::.int .u8 0::.int .u8 0::.int .u8 0::.int .u8 0::.int .u8 0::.int .u8 0::.int .u8 0::.int .u8 0::.int .u8 0::.int .u8 0::.int .u8 0::.int .u8 0::.int .u8 0::.int .u8 0::.int .u8 0::.int .u8 0::.int .u8 0::.int .i64 0::.int .i64 0::.int .i64 0::.int .u8 0::.bool false::.bool false::.ro 0 0 true (fun _ _=>.top)::[])]) H ?_ (fun s o H hn1_2 hn2_2=>?_) (fun w2_3 H=>?_)
    ·refine SubF_of ⟨[some 0,some 1,some 2,some 3,some 4,some 5,some 6,some 7,some 8,some 9,some 10,some 11,some 12,some 13],?_,?_,by rfl,by rfl⟩
     ·simp [CvL,Cv,getM,tp]
     ·exact ⟨cv,cv,CvB_dead,cv,cv,cv,cv,(CvB_focG (i:=r4.toNat) (L:=r7.List) nr_TSleeper (fun x y hx=>by simp only [upc_ne hx]) (fun y hy=>match y,hy with|0,_=>by simp [upc_ii,getL,Cv,enR,c_TSleeper]|1,_=>by simp [upc_ii,getL,Cv,enR,c_TSleeper]|2,_=>by simp [upc_ii,getL,Cv,getM,enR,c_TSleeper]|(y+3),h=>absurd h nlt)),CvB_dead,(CvB_same nfA),cv,(CvB_same nfA),(CvB_same nfA),cv,trivial⟩
    ·obtain ⟨v2_1,v2_2⟩:=s
     unfold F29_L2 at H
     try dsimp only at H ⊢
     try simp only [tp]
     refine sq ctNo_ok ?_
     simp only [go_sem,Nat.reduceAdd]
     refine seqM ?_
     refine condM' rfl trivial (fun hc=>?_) (fun hc=>?_)
     ·replace H:=cond_f hc H
      refine rg ctNo_ok ?_
      simp only [go_sem]
      refine ⟨_,(Option.some.inj H).symm,?_⟩
      refine SubF_of ⟨[some 0,some 1,some 2,some 3,some 4,some 5,some 6,some 7,some 8,some 9,some 10,some 11,some 12,some 13],?_,?_,by rfl,by rfl⟩
      ·simp [CvL,Cv,getM]
      ·exact ⟨cv,cv,CvB_dead,cv,cv,cv,cv,(CvB_focG (i:=r4.toNat) (L:=r7.List) nr_TSleeper (fun x y hx=>by simp only [upc_ne hx]) (fun y hy=>match y,hy with|0,_=>by simp [upc_ii,getL,Cv,enR,c_TSleeper]|1,_=>by simp [upc_ii,getL,Cv,enR,c_TSleeper]|2,_=>by simp [upc_ii,getL,Cv,getM,enR,c_TSleeper]|(y+3),h=>absurd h nlt)),CvB_dead,(CvB_same nfA),cv,(CvB_same nfA),(CvB_same nfA),cv,trivial⟩
     replace H:=cond_t hc H
     refine rg ctNo_ok ?_
     simp only [go_sem]
     refine seqM ?_
     refine blkM ?_
     refine seqM ?_
     obtain ⟨f10,H⟩:=need_some.1 H
     replace f10:=inb_iff.1 f10
     refine rg ctNo_ok ?_
     simp only [go_sem,Nat.reduceLT,Nat.reduceAdd,f10]
     repeat ((with_reducible refine And.intro ?_ ?_);focus exact an6)
     refine seqM ?_
     obtain ⟨r11,e12,H⟩:=bsi H
     obtain ⟨f13,H⟩:=need_some.1 H
     replace f13:=g_iff.1 f13
     replace f13:=fun g=>inb_iff.1 (f13 g)
     refine draw_quiet shT_ok ct29t3_ok (by kernel_rfl) (by kernel_rfl) ?_
     simp only [go_sem,Nat.reduceLeDiff,Nat.reduceLT,Nat.reduceAdd,ct29t3_56,body56_0,e12]
     repeat ((with_reducible refine And.intro ?_ ?_);focus (first|(with_reducible trivial)|omega|exact f13|(intro g;have q:=f13 (by first|exact g|(rw [g];rfl)|simpa using g);first|exact q|exact ⟨q.1,q.2.1⟩|exact q.2.2|omega|exact ⟨g,q⟩|exact ⟨trivial,q⟩|exact ⟨g,q.1,q.2.1⟩|exact ⟨g,q.2.2⟩)|(intro g;(try have q0:=f13 (by first|exact g|(rw [g];rfl)|simpa using g));and_intros<;>first|(with_reducible trivial)|assumption|exact nfc|(intro g2;rw [g,g2];rfl)|(intro g2;assumption)|(simp only [g,Bool.true_and,Bool.and_true,Bool.not_false,Bool.not_true];assumption)|grind)|(and_intros<;>first|(with_reducible trivial)|omega|assumption|exact nfc|first|exact rfl|exact trivial|exact fitI|exact .inr rfl|exact .inl rfl|exact fun x hx=>absurd hx (by omega))|grind))
     refine condM rfl trivial (fun hc=>?_) (fun hc=>?_)
     ·replace H:=cond_t hc H
      refine rg ctNo_ok ?_
      simp only [go_sem]
      refine rg ctNo_ok ?_
      simp only [go_sem]
      refine ⟨_,(Option.some.inj H).symm,?_⟩
      refine SubF_of ⟨[some 0,some 1,some 2,some 3,some 4,some 5,some 6,some 7,some 8,some 9,some 10,some 11,some 12,some 13],?_,?_,by rfl,by rfl⟩
      ·simp [CvL,Cv,getM]
      ·exact ⟨cv,cv,CvB_dead,cv,cv,cv,cv,(CvB_focG (i:=r4.toNat) (L:=r7.List) nr_TSleeper (fun x y hx=>by simp only [upc_ne hx]) (fun y hy=>match y,hy with|0,_=>by simp [upc_ii,getL,Cv,enR,c_TSleeper]|1,_=>by simp [upc_ii,getL,Cv,enR,c_TSleeper]|2,_=>by simp [upc_ii,getL,Cv,getM,enR,c_TSleeper]|(y+3),h=>absurd h nlt)),CvB_dead,(CvB_same nfA),cv,(CvB_same nfA),(CvB_same nfA),cv,trivial⟩
     replace H:=cond_f hc H
     refine rg ctNo_ok ?_
     simp only [go_sem]
     refine rg ctNo_ok ?_
     simp only [go_sem]
     refine ⟨_,(Option.some.inj H).symm,?_⟩
     refine SubF_of ⟨[some 0,some 1,some 2,some 3,some 4,some 5,some 6,some 7,some 8,some 9,some 10,some 11,some 12,some 13],?_,?_,by rfl,by rfl⟩
     ·simp [CvL,Cv,getM]
     ·exact ⟨cv,cv,CvB_dead,cv,cv,cv,cv,(CvB_focG (i:=r4.toNat) (L:=r7.List) nr_TSleeper (fun x y hx=>by simp only [upc_ne hx]) (fun y hy=>match y,hy with|0,_=>by simp [upc_ii,getL,Cv,enR,c_TSleeper]|1,_=>by simp [upc_ii,getL,Cv,enR,c_TSleeper]|2,_=>by simp [upc_ii,getL,Cv,getM,enR,c_TSleeper]|(y+3),h=>absurd h nlt)),CvB_dead,(CvB_same nfA),cv,(CvB_same nfA),(CvB_same nfA),cv,trivial⟩
    ·try dsimp only at H ⊢
     try simp only [tp]
     try simp only [m_normal]
     refine seqM ?_
     refine sq ctNo_ok ?_
     simp only [go_sem]
     refine condM rfl trivial (fun hc=>?_) (fun hc=>?_)
     ·replace H:=cond_t hc H
      refine sq ctNo_ok ?_
      simp only [go_sem,Nat.reduceAdd]
      repeat ((with_reducible refine And.intro ?_ ?_);focus exact an6)
      refine rg ctNo_ok ?_
      simp only [go_sem,Nat.reduceLT,Nat.reduceAdd]
      refine cutO shT_ok ctNo_ok 6 ?_
      simp only [kO_normal,List.take_succ_cons,List.take_zero,List.drop_succ_cons,List.drop_zero,go_sem,Nat.reduceLT,Nat.reduceAdd]
      repeat ((with_reducible refine And.intro ?_ ?_);focus exact an0)
      refine endO ?_
      refine seqM ?_
      refine sq ctNo_ok ?_
      simp only [go_sem]
      refine condM rfl trivial (fun hc=>?_) (fun hc=>?_)
      rotate_left
      ·cases hc
      refine rg ctNo_ok ?_
      simp only [go_sem,Nat.reduceBEq]
      refine ⟨_,(Option.some.inj H).symm,?_⟩
      refine SubF_of ⟨[some 0,some 1,some 2,some 3,some 4,some 5,some 6,some 7,some 8,some 9,some 10,some 11,some 12],?_,?_,by rfl,by rfl⟩
      ·simp [CvL,Cv,getM]
      ·exact ⟨cv,CvB_dead,CvB_dead,cv,cv,cv,cv,(CvB_focG (i:=r4.toNat) (L:=r7.List) nr_TSleeper (fun x y hx=>by simp only [upc_ne hx]) (fun y hy=>match y,hy with|0,_=>by simp [upc_ii,getL,Cv,enR,c_TSleeper]|1,_=>by simp [upc_ii,getL,Cv,enR,c_TSleeper]|2,_=>by simp [upc_ii,getL,Cv,getM,enR,c_TSleeper]|(y+3),h=>absurd h nlt)),CvB_dead,(CvB_same nfA),cv,CvB_row nr_TFrame cl (fun _ _ _ _=>rfl),CvB_row nr_TStored cl (fun _ _ _ _=>rfl),trivial⟩
     replace H:=cond_f hc H
     refine rg ctNo_ok ?_
     simp only [go_sem]
     refine seqM ?_
     obtain ⟨f14,H⟩:=need_some.1 H
     replace f14:=inb_iff.1 f14
     refine rg ctNo_ok ?_
     simp only [go_sem,Nat.reduceLeDiff,Nat.reduceLT,Nat.reduceAdd,reduceCtorEq,f14]
     repeat ((with_reducible refine And.intro ?_ ?_);focus exact an6)
     refine seqM ?_
     obtain ⟨f15,H⟩:=need_some.1 H
     replace f15:=delb_iff.1 f15
     refine rg ct29t4_ok ?_
     simp only [go_sem,Nat.reduceLeDiff,Nat.reduceLT,Nat.reduceAdd,ct29t4_73,delN,f15]
     repeat ((with_reducible refine And.intro ?_ ?_);focus exact an0)
     refine seqM ?_
     obtain ⟨w16,hw17,H⟩:=bsi H
     replace hw17:=Option.some.inj hw17
     have lhw17:w16.length=v1_2.length - ((wr .i64 (w2_3+1)).toNat - w2_3.toNat):=by rw [← hw17];exact (del_len f15 cl)
     refine subF_mean (t2:=(.top::.top::.ptr 13 0 0 0::tp 4 (.ptr 14 0 0 0::tp 55 []))) (h2:=[.lit 52 [.int .i64 r7.Limit,.int .i64 r7.Stay,.sl 7 3 0 r7.List.length false,.sl 9 43 0 r7.Group.length false],.lit 23 [.int .u8 p1.Start,.int .u8 p1.Deliver,.int .i64 p1.Most],.dead,.lit 25 [.int .u8 p3.x0,.int .u8 p3.x1,.int .u8 p3.x2,.int .u8 p3.x3,.int .u8 p3.x4,.int .u8 p3.x5],.lit 25 [.int .u8 p4.x0,.int .u8 p4.x1,.int .u8 p4.x2,.int .u8 p4.x3,.int .u8 p4.x4,.int .u8 p4.x5],.lit 33 [.int .i64 p2,.sl 11 41 0 v1_1.length false],.lit 52 [.int .i64 0,.int .i64 0,.ro 0 0 true (fun _ _=>.top),.ro 0 0 true (fun _ _=>.top)],.row 71 3 r7.List.length (upc (enR c_TSleeper r7.List) r4.toNat 2 [.sl 8 43 0 (((gd r7.List r4.toNat).Held).length) false]),.dead,.row 73 43 r7.Group.length (enR c_TStored r7.Group),.lit 103 [.sl 15 43 0 w16.length false,.int .u8 p1.Deliver],.row 30 41 v1_1.length (enR c_TFrame v1_1),.dead,.lit 30 (.int .u8 0::.int .u8 0::.bool false::.bool false::.bool false::.bool false::.bool false::.bool false::.bool false::.int .i64 0::.int .u8 0::.int .u8 0::.int .u8 0::.int .u8 0::.int .u8 0::.int .u8 0::.int .u8 0::.int .u8 0::.int .u8 0::.int .u8 0::.int .u8 0::.int .u8 0::.int .u8 0::.int .u8 0::.int .u8 0::.int .u8 0::.int .u8 0::.int .u8 0::.int .u8 0::.int .u8 0::.int .u8 0::.int .u8 0::.int .u8 0::.int .u8 0::.int .i64 0::.int .i64 0::.int .i64 0::.int .u8 0::.bool false::.bool false::.ro 0 0 true (fun _ _=>.top)::[]),.lit 30 (.int .u8 ((((gd v1_2 w2_3.toNat).Frame).Head).Kind)::.int .u8 ((((gd v1_2 w2_3.toNat).Frame).Head).Sub)::.bool ((((gd v1_2 w2_3.toNat).Frame).Head).ToDs)::.bool ((((gd v1_2 w2_3.toNat).Frame).Head).FromDs)::.bool ((((gd v1_2 w2_3.toNat).Frame).Head).More)::.bool ((((gd v1_2 w2_3.toNat).Frame).Head).Retry)::.bool ((((gd v1_2 w2_3.toNat).Frame).Head).Sleep)::.bool ((((gd v1_2 w2_3.toNat).Frame).Head).MoreData)::.bool ((((gd v1_2 w2_3.toNat).Frame).Head).Protected)::.int .i64 ((((gd v1_2 w2_3.toNat).Frame).Head).Duration)::.int .u8 (((((gd v1_2 w2_3.toNat).Frame).Head).A1).x0)::.int .u8 (((((gd v1_2 w2_3.toNat).Frame).Head).A1).x1)::.int .u8 (((((gd v1_2 w2_3.toNat).Frame).Head).A1).x2)::.int .u8 (((((gd v1_2 w2_3.toNat).Frame).Head).A1).x3)::.int .u8 (((((gd v1_2 w2_3.toNat).Frame).Head).A1).x4)::.int .u8 (((((gd v1_2 w2_3.toNat).Frame).Head).A1).x5)::.int .u8 (((((gd v1_2 w2_3.toNat).Frame).Head).A2).x0)::.int .u8 (((((gd v1_2 w2_3.toNat).Frame).Head).A2).x1)::.int .u8 (((((gd v1_2 w2_3.toNat).Frame).Head).A2).x2)::.int .u8 (((((gd v1_2 w2_3.toNat).Frame).Head).A2).x3)::.int .u8 (((((gd v1_2 w2_3.toNat).Frame).Head).A2).x4)::.int .u8 (((((gd v1_2 w2_3.toNat).Frame).Head).A2).x5)::.int .u8 (((((gd v1_2 w2_3.toNat).Frame).Head).A3).x0)::.int .u8 (((((gd v1_2 w2_3.toNat).Frame).Head).A3).x1)::.int .u8 (((((gd v1_2 w2_3.toNat).Frame).Head).A3).x2)::.int .u8 (((((gd v1_2 w2_3.toNat).Frame).Head).A3).x3)::.int .u8 (((((gd v1_2 w2_3.toNat).Frame).Head).A3).x4)::.int .u8 (((((gd v1_2 w2_3.toNat).Frame).Head).A3).x5)::.int .u8 (((((gd v1_2 w2_3.toNat).Frame).Head).A4).x0)::.int .u8 (((((gd v1_2 w2_3.toNat).Frame).Head).A4).x1)::.int .u8 (((((gd v1_2 w2_3.toNat).Frame).Head).A4).x2)::.int .u8 (((((gd v1_2 w2_3.toNat).Frame).Head).A4).x3)::.int .u8 (((((gd v1_2 w2_3.toNat).Frame).Head).A4).x4)::.int .u8 (((((gd v1_2 w2_3.toNat).Frame).Head).A4).x5)::.int .i64 ((((gd v1_2 w2_3.toNat).Frame).Head).Seq)::.int .i64 ((((gd v1_2 w2_3.toNat).Frame).Head).Frag)::.int .i64 ((((gd v1_2 w2_3.toNat).Frame).Head).Tid)::.int .u8 ((((gd v1_2 w2_3.toNat).Frame).Head).Ack)::.bool ((((gd v1_2 w2_3.toNat).Frame).Head).Amsdu)::.bool ((((gd v1_2 w2_3.toNat).Frame).Head).Eosp)::.ro 1 ((((gd v1_2 w2_3.toNat).Frame).Body).length) false (enR c_u8 (((gd v1_2 w2_3.toNat).Frame).Body))::[]),.row 73 43 w16.length (enR c_TStored w16)]) ?_ ?_
     ·refine SubF_of ⟨[some 0,some 1,some 2,some 3,some 4,some 5,some 6,some 7,some 8,some 9,some 10,some 11,some 12,some 13,some 14,some 15],?_,?_,by rfl,by rfl⟩
      ·simp [CvL,Cv,getM,tp]
      ·exact ⟨(by simp [CvB,CvL,Cv,blkAt,geth,getM]),(by simp [CvB,CvL,Cv,blkAt,geth]),CvB_dead,(by simp [CvB,CvL,Cv,blkAt,geth]),(by simp [CvB,CvL,Cv,blkAt,geth]),(by simp [CvB,CvL,Cv,blkAt,geth,getM]),(by simp [CvB,CvL,Cv,blkAt,geth]),(CvB_focG (i:=r4.toNat) (L:=r7.List) nr_TSleeper (fun x y hx=>by simp only [upc_ne hx]) (fun y hy=>match y,hy with|0,_=>by simp [upc_ii,getL,Cv,enR,c_TSleeper]|1,_=>by simp [upc_ii,getL,Cv,enR,c_TSleeper]|2,_=>by simp [upc_ii,getL,Cv,getM,enR,c_TSleeper]|(y+3),h=>absurd h nlt)),CvB_dead,CvB_row nr_TStored rfl (fun _ _ _ _=>rfl),(by simp [CvB,CvL,Cv,blkAt,geth,getM,lhw17]),CvB_row nr_TFrame rfl (fun _ _ _ _=>rfl),CvB_dead,(by simp [CvB,CvL,Cv,blkAt,geth]),(by simp [CvB,CvL,Cv,blkAt,geth]),CvB_row nr_TStored lhw17 (hw17 ▸ (del_row f15 cl (fun _ _ _ _=>rfl))),trivial⟩
     simp only [tp]
     refine rg ctNo_ok ?_
     simp only [go_sem,Nat.reduceLT,Nat.reduceAdd]
     repeat ((with_reducible refine And.intro ?_ ?_);focus exact an6)
     refine rg ctNo_ok ?_
     simp only [go_sem,Nat.reduceLT,Nat.reduceAdd]
     refine cutO shT_ok ctNo_ok 6 ?_
     simp only [kO_normal,List.take_succ_cons,List.take_zero,List.drop_succ_cons,List.drop_zero,go_sem,Nat.reduceLT,Nat.reduceAdd]
     repeat ((with_reducible refine And.intro ?_ ?_);focus exact an0)
     refine endO ?_
     refine seqM ?_
     refine sq ctNo_ok ?_
     simp only [go_sem]
     refine condM rfl trivial (fun hc=>?_) (fun hc=>?_)
     ·cases hc
     refine rg ctNo_ok ?_
     simp only [go_sem]
     refine sq ctNo_ok ?_
     simp only [go_sem,Nat.reduceLeDiff,Nat.reduceAdd,reduceCtorEq]
     repeat ((with_reducible refine And.intro ?_ ?_);focus exact an6)
     obtain ⟨f18,H⟩:=need_some.1 H
     replace f18:=capb_iff.1 f18
     refine rg ctNo_ok ?_
     simp only [go_sem,Nat.reduceLeDiff,Nat.reduceLT,Nat.reduceAdd,Nat.reduceBEq,f18]
     repeat ((with_reducible refine And.intro ?_ ?_);focus exact an3)
     refine ⟨_,(Option.some.inj H).symm,?_⟩
     refine SubF_of ⟨[some 0,some 1,some 2,some 3,some 4,some 5,some 6,some 7,some 8,some 9,some 10,some 18,some 15],?_,?_,by rfl,by rfl⟩
     ·simp [CvL,Cv,getM]
     ·exact ⟨cv,cv,CvB_dead,cv,cv,cv,cv,(CvB_focG (i:=r4.toNat) (L:=r7.List) nr_TSleeper (fun x y hx=>by simp only [upc_ne hx]) (fun y hy=>match y,hy with|0,_=>by simp [upc_ii,getL,Cv,enR,c_TSleeper]|1,_=>by simp [upc_ii,getL,Cv,enR,c_TSleeper]|2,_=>by simp [upc_ii,getL,Cv,getM,enR,c_TSleeper]|(y+3),h=>absurd h nlt)),CvB_dead,(CvB_same nfA),cv,CvB_row nr_TFrame cl (app_row (f:=c_TFrame) v1_1 [(TFrame.mk (THeader.mk ((((gd v1_2 w2_3.toNat).Frame).Head).Kind) ((((gd v1_2 w2_3.toNat).Frame).Head).Sub) ((((gd v1_2 w2_3.toNat).Frame).Head).ToDs) ((((gd v1_2 w2_3.toNat).Frame).Head).FromDs) ((((gd v1_2 w2_3.toNat).Frame).Head).More) ((((gd v1_2 w2_3.toNat).Frame).Head).Retry) ((((gd v1_2 w2_3.toNat).Frame).Head).Sleep) true ((((gd v1_2 w2_3.toNat).Frame).Head).Protected) ((((gd v1_2 w2_3.toNat).Frame).Head).Duration) (A6u8.mk (((((gd v1_2 w2_3.toNat).Frame).Head).A1).x0) (((((gd v1_2 w2_3.toNat).Frame).Head).A1).x1) (((((gd v1_2 w2_3.toNat).Frame).Head).A1).x2) (((((gd v1_2 w2_3.toNat).Frame).Head).A1).x3) (((((gd v1_2 w2_3.toNat).Frame).Head).A1).x4) (((((gd v1_2 w2_3.toNat).Frame).Head).A1).x5)) (A6u8.mk (((((gd v1_2 w2_3.toNat).Frame).Head).A2).x0) (((((gd v1_2 w2_3.toNat).Frame).Head).A2).x1) (((((gd v1_2 w2_3.toNat).Frame).Head).A2).x2) (((((gd v1_2 w2_3.toNat).Frame).Head).A2).x3) (((((gd v1_2 w2_3.toNat).Frame).Head).A2).x4) (((((gd v1_2 w2_3.toNat).Frame).Head).A2).x5)) (A6u8.mk (((((gd v1_2 w2_3.toNat).Frame).Head).A3).x0) (((((gd v1_2 w2_3.toNat).Frame).Head).A3).x1) (((((gd v1_2 w2_3.toNat).Frame).Head).A3).x2) (((((gd v1_2 w2_3.toNat).Frame).Head).A3).x3) (((((gd v1_2 w2_3.toNat).Frame).Head).A3).x4) (((((gd v1_2 w2_3.toNat).Frame).Head).A3).x5)) (A6u8.mk (((((gd v1_2 w2_3.toNat).Frame).Head).A4).x0) (((((gd v1_2 w2_3.toNat).Frame).Head).A4).x1) (((((gd v1_2 w2_3.toNat).Frame).Head).A4).x2) (((((gd v1_2 w2_3.toNat).Frame).Head).A4).x3) (((((gd v1_2 w2_3.toNat).Frame).Head).A4).x4) (((((gd v1_2 w2_3.toNat).Frame).Head).A4).x5)) ((((gd v1_2 w2_3.toNat).Frame).Head).Seq) ((((gd v1_2 w2_3.toNat).Frame).Head).Frag) ((((gd v1_2 w2_3.toNat).Frame).Head).Tid) ((((gd v1_2 w2_3.toNat).Frame).Head).Ack) ((((gd v1_2 w2_3.toNat).Frame).Head).Amsdu) false) (((gd v1_2 w2_3.toNat).Frame).Body))] (fun _ _ _ _=>rfl) (lit_row (f:=c_TFrame) [(TFrame.mk (THeader.mk ((((gd v1_2 w2_3.toNat).Frame).Head).Kind) ((((gd v1_2 w2_3.toNat).Frame).Head).Sub) ((((gd v1_2 w2_3.toNat).Frame).Head).ToDs) ((((gd v1_2 w2_3.toNat).Frame).Head).FromDs) ((((gd v1_2 w2_3.toNat).Frame).Head).More) ((((gd v1_2 w2_3.toNat).Frame).Head).Retry) ((((gd v1_2 w2_3.toNat).Frame).Head).Sleep) true ((((gd v1_2 w2_3.toNat).Frame).Head).Protected) ((((gd v1_2 w2_3.toNat).Frame).Head).Duration) (A6u8.mk (((((gd v1_2 w2_3.toNat).Frame).Head).A1).x0) (((((gd v1_2 w2_3.toNat).Frame).Head).A1).x1) (((((gd v1_2 w2_3.toNat).Frame).Head).A1).x2) (((((gd v1_2 w2_3.toNat).Frame).Head).A1).x3) (((((gd v1_2 w2_3.toNat).Frame).Head).A1).x4) (((((gd v1_2 w2_3.toNat).Frame).Head).A1).x5)) (A6u8.mk (((((gd v1_2 w2_3.toNat).Frame).Head).A2).x0) (((((gd v1_2 w2_3.toNat).Frame).Head).A2).x1) (((((gd v1_2 w2_3.toNat).Frame).Head).A2).x2) (((((gd v1_2 w2_3.toNat).Frame).Head).A2).x3) (((((gd v1_2 w2_3.toNat).Frame).Head).A2).x4) (((((gd v1_2 w2_3.toNat).Frame).Head).A2).x5)) (A6u8.mk (((((gd v1_2 w2_3.toNat).Frame).Head).A3).x0) (((((gd v1_2 w2_3.toNat).Frame).Head).A3).x1) (((((gd v1_2 w2_3.toNat).Frame).Head).A3).x2) (((((gd v1_2 w2_3.toNat).Frame).Head).A3).x3) (((((gd v1_2 w2_3.toNat).Frame).Head).A3).x4) (((((gd v1_2 w2_3.toNat).Frame).Head).A3).x5)) (A6u8.mk (((((gd v1_2 w2_3.toNat).Frame).Head).A4).x0) (((((gd v1_2 w2_3.toNat).Frame).Head).A4).x1) (((((gd v1_2 w2_3.toNat).Frame).Head).A4).x2) (((((gd v1_2 w2_3.toNat).Frame).Head).A4).x3) (((((gd v1_2 w2_3.toNat).Frame).Head).A4).x4) (((((gd v1_2 w2_3.toNat).Frame).Head).A4).x5)) ((((gd v1_2 w2_3.toNat).Frame).Head).Seq) ((((gd v1_2 w2_3.toNat).Frame).Head).Frag) ((((gd v1_2 w2_3.toNat).Frame).Head).Tid) ((((gd v1_2 w2_3.toNat).Frame).Head).Ack) ((((gd v1_2 w2_3.toNat).Frame).Head).Amsdu) false) (((gd v1_2 w2_3.toNat).Frame).Body))] (fun _ _=>rfl) rfl)),CvB_row nr_TStored cl (fun _ _ _ _=>rfl),trivial⟩
   ·obtain ⟨w1_5,w1_6⟩:=e
    try dsimp only at H ⊢
    try simp only [tp]
    try simp only [m_normal]
    refine seqM ?_
    obtain ⟨f19,H⟩:=need_some.1 H
    replace f19:=inb_iff.1 f19
    refine draw_rule shT_ok ctNo_ok 0 (by kernel_rfl) (by kernel_rfl) ?_
    intro an han
    simp only [d_nil,d_cons,nxtD,xrD,xoD,roEq,minL,List.append_nil,refsOp,refs,mask,maskF,place,placeF,okLog,pairOk,hit,inL,slotsF,nrH,nrB,List.replicate_zero,Nat.sub_self,Nat.add_zero,Nat.zero_add,Nat.reduceSub,Nat.lt_add_one,go_sem,Nat.reduceLeDiff,Nat.reduceLT,Nat.reduceAdd,Nat.reduceSub,Nat.reduceBEq,f19]
    repeat ((with_reducible refine And.intro ?_ ?_);focus exact an2)
    refine seqM ?_
    obtain ⟨r20,e21,H⟩:=bsi H
    refine rg ct29t5_ok ?_
    simp only [go_sem,Nat.reduceLeDiff,Nat.reduceLT,Nat.reduceAdd,ct29t5_49,body49_0,e21]
    repeat ((with_reducible refine And.intro ?_ ?_);focus exact an0)
    refine seqM ?_
    refine sq ctNo_ok ?_
    simp only [go_sem,Nat.reduceLT,Nat.reduceAdd]
    repeat ((with_reducible refine And.intro ?_ ?_);focus exact an0)
    refine condM' rfl trivial (fun hc=>?_) (fun hc=>?_)
    ·replace H:=cond_f hc H
     refine rg ctNo_ok ?_
     simp only [go_sem]
     refine seqM ?_
     obtain ⟨f29,H⟩:=need_some.1 H
     replace f29:=inb_iff.1 f29
     refine rg ctNo_ok ?_
     simp only [go_sem,Nat.reduceLT,Nat.reduceAdd,reduceCtorEq,f29]
     repeat ((with_reducible refine And.intro ?_ ?_);focus exact an0)
     refine sq ctNo_ok ?_
     simp only [go_sem,Nat.reduceLeDiff,Nat.reduceAdd]
     repeat ((with_reducible refine And.intro ?_ ?_);focus exact an6)
     refine seqM ?_
     refine draw_rule shT_ok ctNo_ok 0 (by kernel_rfl) (by kernel_rfl) ?_
     intro an han
     simp only [d_nil,d_cons,nxtD,xrD,xoD,roEq,minL,List.append_nil,refsOp,refs,mask,maskF,place,placeF,okLog,pairOk,hit,inL,slotsF,nrH,nrB,nrL,nr,List.replicate_zero,Nat.sub_self,Nat.add_zero,Nat.zero_add,Nat.reduceSub,Nat.lt_add_one,go_sem,Nat.reduceLeDiff,Nat.reduceLT,Nat.reduceAdd,Nat.reduceSub,Nat.reduceBEq]
     repeat ((with_reducible refine And.intro ?_ ?_);focus exact an2)
     refine fz2_mean [12] [7] ?_ ?_
     ·simp only [go_sem,Nat.reduceBEq,Nat.reduceAdd,fzObHF2,fzObB2]
      first|exact (foc_ob (L:=r7.List) (i:=r4.toNat) (fun a y=>nrefL_getL (nr_TSleeper a) y) (fun x y hx=>by simp only [upc_ne hx]) (fun y hy=>match y,hy with|0,_=>(by (simp [upc_ii,getL,fzOb,inL,geth,rowOb,enR,c_TSleeper];all_goals (first|(with_reducible trivial)|(intros;exact nrefL_getL (NRf.h _) _)|(intros;exact nfc))))|1,_=>(by (simp [upc_ii,getL,fzOb,inL,geth,rowOb,enR,c_TSleeper];all_goals (first|(with_reducible trivial)|(intros;exact nrefL_getL (NRf.h _) _)|(intros;exact nfc))))|2,_=>(by (simp [upc_ii,getL,fzOb,inL,geth,rowOb,enR,c_TSleeper];all_goals (first|(with_reducible trivial)|(intros;exact nrefL_getL (NRf.h _) _)|(intros;exact nfc))))|(y+3),h=>absurd h nlt))|(and_intros<;>first|exact (foc_ob (L:=r7.List) (i:=r4.toNat) (fun a y=>nrefL_getL (nr_TSleeper a) y) (fun x y hx=>by simp only [upc_ne hx]) (fun y hy=>match y,hy with|0,_=>(by (simp [upc_ii,getL,fzOb,enR,c_TSleeper];all_goals (first|(with_reducible trivial)|(intros;exact nrefL_getL (NRf.h _) _)|(intros;exact nfc))))|1,_=>(by (simp [upc_ii,getL,fzOb,enR,c_TSleeper];all_goals (first|(with_reducible trivial)|(intros;exact nrefL_getL (NRf.h _) _)|(intros;exact nfc))))|2,_=>(by (simp [upc_ii,getL,fzOb,inL,geth,rowOb,enR,c_TSleeper];all_goals (first|(with_reducible trivial)|(intros;exact nrefL_getL (NRf.h _) _)|(intros;exact nfc))))|(y+3),h=>absurd h nlt))|(with_reducible trivial)|omega|exact nfc|trivial)
     simp only [go_sem,Nat.reduceBEq,Nat.reduceAdd,fzH2,fzHF2,fzB2]
     obtain ⟨w30,hw31,H⟩:=bsi H
     replace hw31:=Option.some.inj hw31
     have lhw31:w30.length=r7.List.length:=by rw [← hw31];exact (by simp only [List.length_set])
     obtain ⟨w32,hw33,H⟩:=bsi H
     replace hw33:=Option.some.inj hw33
     have lhw33:w32.length=w1_5.length:=by rw [← hw33];exact cl
     refine subF_mean (t2:=(tp 10 (.ptr 5 0 0 0::.ptr 6 0 0 0::.int .i64 0::tp 127 []))) (h2:=[.lit 52 [.int .i64 r7.Limit,.int .i64 r7.Stay,.sl 7 3 0 w30.length false,.sl 9 43 0 r7.Group.length false],.dead,.dead,.lit 25 [.int .u8 p3.x0,.int .u8 p3.x1,.int .u8 p3.x2,.int .u8 p3.x3,.int .u8 p3.x4,.int .u8 p3.x5],.lit 25 [.int .u8 p4.x0,.int .u8 p4.x1,.int .u8 p4.x2,.int .u8 p4.x3,.int .u8 p4.x4,.int .u8 p4.x5],.lit 33 [.int .i64 p2,.sl 11 41 0 w32.length false],.lit 52 [.int .i64 r7.Limit,.int .i64 r7.Stay,.sl 7 3 0 w30.length false,.sl 9 43 0 r7.Group.length false],.row 71 3 w30.length (enR c_TSleeper w30),.dead,.row 73 43 r7.Group.length (enR c_TStored r7.Group),.lit 103 [.ro 43 w1_6.length false (enR c_TStored w1_6),.int .u8 p1.Deliver],.row 30 41 w32.length (enR c_TFrame w32),.dead]) ?_ ?_
     ·refine SubF_of ⟨[some 0,some 1,some 2,some 3,some 4,some 5,some 6,some 7,some 8,some 9,some 10,some 11,some 12],?_,?_,by rfl,by rfl⟩
      ·simp [CvL,Cv,getM,tp]
      ·exact ⟨(by simp [CvB,CvL,Cv,blkAt,geth,getM,lhw31]),CvB_dead,CvB_dead,(by simp [CvB,CvL,Cv,blkAt,geth]),(by simp [CvB,CvL,Cv,blkAt,geth]),(by simp [CvB,CvL,Cv,blkAt,geth,getM,lhw33]),(by simp [CvB,CvL,Cv,blkAt,geth,getM,lhw31]),CvB_row nr_TSleeper lhw31 (hw31 ▸ (foc_row (L:=r7.List) (i:=r4.toNat) (fun a y=>nrefL_getL (nr_TSleeper a) y) (fun x y hx=>by simp only [upc_ne hx]) (fun y hy=>match y,hy with|0,_=>by simp [upc_ii,getL,fzV,enR,c_TSleeper]|1,_=>by simp [upc_ii,getL,fzV,enR,c_TSleeper]|2,_=>by simp [upc_ii,getL,fzV,inL,geth,enR,c_TSleeper,sub_enR0]|(y+3),h=>absurd h nlt))),CvB_dead,CvB_row nr_TStored rfl (fun _ _ _ _=>rfl),(by simp [CvB,CvL,Cv,blkAt,geth]),CvB_row nr_TFrame lhw33 (hw33 ▸ (upc_row (f:=c_TFrame) (w1_5.set ((wr .i64 ((w1_5.length:Nat) - 1)).toNat) (TFrame.mk (THeader.mk (((gd w1_5 ((wr .i64 ((w1_5.length:Nat) - 1)).toNat)).Head).Kind) (((gd w1_5 ((wr .i64 ((w1_5.length:Nat) - 1)).toNat)).Head).Sub) (((gd w1_5 ((wr .i64 ((w1_5.length:Nat) - 1)).toNat)).Head).ToDs) (((gd w1_5 ((wr .i64 ((w1_5.length:Nat) - 1)).toNat)).Head).FromDs) (((gd w1_5 ((wr .i64 ((w1_5.length:Nat) - 1)).toNat)).Head).More) (((gd w1_5 ((wr .i64 ((w1_5.length:Nat) - 1)).toNat)).Head).Retry) (((gd w1_5 ((wr .i64 ((w1_5.length:Nat) - 1)).toNat)).Head).Sleep) (((gd w1_5 ((wr .i64 ((w1_5.length:Nat) - 1)).toNat)).Head).MoreData) (((gd w1_5 ((wr .i64 ((w1_5.length:Nat) - 1)).toNat)).Head).Protected) (((gd w1_5 ((wr .i64 ((w1_5.length:Nat) - 1)).toNat)).Head).Duration) (A6u8.mk ((((gd w1_5 ((wr .i64 ((w1_5.length:Nat) - 1)).toNat)).Head).A1).x0) ((((gd w1_5 ((wr .i64 ((w1_5.length:Nat) - 1)).toNat)).Head).A1).x1) ((((gd w1_5 ((wr .i64 ((w1_5.length:Nat) - 1)).toNat)).Head).A1).x2) ((((gd w1_5 ((wr .i64 ((w1_5.length:Nat) - 1)).toNat)).Head).A1).x3) ((((gd w1_5 ((wr .i64 ((w1_5.length:Nat) - 1)).toNat)).Head).A1).x4) ((((gd w1_5 ((wr .i64 ((w1_5.length:Nat) - 1)).toNat)).Head).A1).x5)) (A6u8.mk ((((gd w1_5 ((wr .i64 ((w1_5.length:Nat) - 1)).toNat)).Head).A2).x0) ((((gd w1_5 ((wr .i64 ((w1_5.length:Nat) - 1)).toNat)).Head).A2).x1) ((((gd w1_5 ((wr .i64 ((w1_5.length:Nat) - 1)).toNat)).Head).A2).x2) ((((gd w1_5 ((wr .i64 ((w1_5.length:Nat) - 1)).toNat)).Head).A2).x3) ((((gd w1_5 ((wr .i64 ((w1_5.length:Nat) - 1)).toNat)).Head).A2).x4) ((((gd w1_5 ((wr .i64 ((w1_5.length:Nat) - 1)).toNat)).Head).A2).x5)) (A6u8.mk ((((gd w1_5 ((wr .i64 ((w1_5.length:Nat) - 1)).toNat)).Head).A3).x0) ((((gd w1_5 ((wr .i64 ((w1_5.length:Nat) - 1)).toNat)).Head).A3).x1) ((((gd w1_5 ((wr .i64 ((w1_5.length:Nat) - 1)).toNat)).Head).A3).x2) ((((gd w1_5 ((wr .i64 ((w1_5.length:Nat) - 1)).toNat)).Head).A3).x3) ((((gd w1_5 ((wr .i64 ((w1_5.length:Nat) - 1)).toNat)).Head).A3).x4) ((((gd w1_5 ((wr .i64 ((w1_5.length:Nat) - 1)).toNat)).Head).A3).x5)) (A6u8.mk ((((gd w1_5 ((wr .i64 ((w1_5.length:Nat) - 1)).toNat)).Head).A4).x0) ((((gd w1_5 ((wr .i64 ((w1_5.length:Nat) - 1)).toNat)).Head).A4).x1) ((((gd w1_5 ((wr .i64 ((w1_5.length:Nat) - 1)).toNat)).Head).A4).x2) ((((gd w1_5 ((wr .i64 ((w1_5.length:Nat) - 1)).toNat)).Head).A4).x3) ((((gd w1_5 ((wr .i64 ((w1_5.length:Nat) - 1)).toNat)).Head).A4).x4) ((((gd w1_5 ((wr .i64 ((w1_5.length:Nat) - 1)).toNat)).Head).A4).x5)) (((gd w1_5 ((wr .i64 ((w1_5.length:Nat) - 1)).toNat)).Head).Seq) (((gd w1_5 ((wr .i64 ((w1_5.length:Nat) - 1)).toNat)).Head).Frag) (((gd w1_5 ((wr .i64 ((w1_5.length:Nat) - 1)).toNat)).Head).Tid) (((gd w1_5 ((wr .i64 ((w1_5.length:Nat) - 1)).toNat)).Head).Ack) (((gd w1_5 ((wr .i64 ((w1_5.length:Nat) - 1)).toNat)).Head).Amsdu) true) ((gd w1_5 ((wr .i64 ((w1_5.length:Nat) - 1)).toNat)).Body))) ((wr .i64 ((w1_5.length:Nat) - 1)).toNat) 7 ((fun qq29=>(TFrame.mk (THeader.mk qq29.Head.Kind qq29.Head.Sub qq29.Head.ToDs qq29.Head.FromDs qq29.Head.More qq29.Head.Retry qq29.Head.Sleep r20 qq29.Head.Protected qq29.Head.Duration (A6u8.mk qq29.Head.A1.x0 qq29.Head.A1.x1 qq29.Head.A1.x2 qq29.Head.A1.x3 qq29.Head.A1.x4 qq29.Head.A1.x5) (A6u8.mk qq29.Head.A2.x0 qq29.Head.A2.x1 qq29.Head.A2.x2 qq29.Head.A2.x3 qq29.Head.A2.x4 qq29.Head.A2.x5) (A6u8.mk qq29.Head.A3.x0 qq29.Head.A3.x1 qq29.Head.A3.x2 qq29.Head.A3.x3 qq29.Head.A3.x4 qq29.Head.A3.x5) (A6u8.mk qq29.Head.A4.x0 qq29.Head.A4.x1 qq29.Head.A4.x2 qq29.Head.A4.x3 qq29.Head.A4.x4 qq29.Head.A4.x5) qq29.Head.Seq qq29.Head.Frag qq29.Head.Tid qq29.Head.Ack qq29.Head.Amsdu qq29.Head.Eosp) qq29.Body)) (gd (w1_5.set ((wr .i64 ((w1_5.length:Nat) - 1)).toNat) (TFrame.mk (THeader.mk (((gd w1_5 ((wr .i64 ((w1_5.length:Nat) - 1)).toNat)).Head).Kind) (((gd w1_5 ((wr .i64 ((w1_5.length:Nat) - 1)).toNat)).Head).Sub) (((gd w1_5 ((wr .i64 ((w1_5.length:Nat) - 1)).toNat)).Head).ToDs) (((gd w1_5 ((wr .i64 ((w1_5.length:Nat) - 1)).toNat)).Head).FromDs) (((gd w1_5 ((wr .i64 ((w1_5.length:Nat) - 1)).toNat)).Head).More) (((gd w1_5 ((wr .i64 ((w1_5.length:Nat) - 1)).toNat)).Head).Retry) (((gd w1_5 ((wr .i64 ((w1_5.length:Nat) - 1)).toNat)).Head).Sleep) (((gd w1_5 ((wr .i64 ((w1_5.length:Nat) - 1)).toNat)).Head).MoreData) (((gd w1_5 ((wr .i64 ((w1_5.length:Nat) - 1)).toNat)).Head).Protected) (((gd w1_5 ((wr .i64 ((w1_5.length:Nat) - 1)).toNat)).Head).Duration) (A6u8.mk ((((gd w1_5 ((wr .i64 ((w1_5.length:Nat) - 1)).toNat)).Head).A1).x0) ((((gd w1_5 ((wr .i64 ((w1_5.length:Nat) - 1)).toNat)).Head).A1).x1) ((((gd w1_5 ((wr .i64 ((w1_5.length:Nat) - 1)).toNat)).Head).A1).x2) ((((gd w1_5 ((wr .i64 ((w1_5.length:Nat) - 1)).toNat)).Head).A1).x3) ((((gd w1_5 ((wr .i64 ((w1_5.length:Nat) - 1)).toNat)).Head).A1).x4) ((((gd w1_5 ((wr .i64 ((w1_5.length:Nat) - 1)).toNat)).Head).A1).x5)) (A6u8.mk ((((gd w1_5 ((wr .i64 ((w1_5.length:Nat) - 1)).toNat)).Head).A2).x0) ((((gd w1_5 ((wr .i64 ((w1_5.length:Nat) - 1)).toNat)).Head).A2).x1) ((((gd w1_5 ((wr .i64 ((w1_5.length:Nat) - 1)).toNat)).Head).A2).x2) ((((gd w1_5 ((wr .i64 ((w1_5.length:Nat) - 1)).toNat)).Head).A2).x3) ((((gd w1_5 ((wr .i64 ((w1_5.length:Nat) - 1)).toNat)).Head).A2).x4) ((((gd w1_5 ((wr .i64 ((w1_5.length:Nat) - 1)).toNat)).Head).A2).x5)) (A6u8.mk ((((gd w1_5 ((wr .i64 ((w1_5.length:Nat) - 1)).toNat)).Head).A3).x0) ((((gd w1_5 ((wr .i64 ((w1_5.length:Nat) - 1)).toNat)).Head).A3).x1) ((((gd w1_5 ((wr .i64 ((w1_5.length:Nat) - 1)).toNat)).Head).A3).x2) ((((gd w1_5 ((wr .i64 ((w1_5.length:Nat) - 1)).toNat)).Head).A3).x3) ((((gd w1_5 ((wr .i64 ((w1_5.length:Nat) - 1)).toNat)).Head).A3).x4) ((((gd w1_5 ((wr .i64 ((w1_5.length:Nat) - 1)).toNat)).Head).A3).x5)) (A6u8.mk ((((gd w1_5 ((wr .i64 ((w1_5.length:Nat) - 1)).toNat)).Head).A4).x0) ((((gd w1_5 ((wr .i64 ((w1_5.length:Nat) - 1)).toNat)).Head).A4).x1) ((((gd w1_5 ((wr .i64 ((w1_5.length:Nat) - 1)).toNat)).Head).A4).x2) ((((gd w1_5 ((wr .i64 ((w1_5.length:Nat) - 1)).toNat)).Head).A4).x3) ((((gd w1_5 ((wr .i64 ((w1_5.length:Nat) - 1)).toNat)).Head).A4).x4) ((((gd w1_5 ((wr .i64 ((w1_5.length:Nat) - 1)).toNat)).Head).A4).x5)) (((gd w1_5 ((wr .i64 ((w1_5.length:Nat) - 1)).toNat)).Head).Seq) (((gd w1_5 ((wr .i64 ((w1_5.length:Nat) - 1)).toNat)).Head).Frag) (((gd w1_5 ((wr .i64 ((w1_5.length:Nat) - 1)).toNat)).Head).Tid) (((gd w1_5 ((wr .i64 ((w1_5.length:Nat) - 1)).toNat)).Head).Ack) (((gd w1_5 ((wr .i64 ((w1_5.length:Nat) - 1)).toNat)).Head).Amsdu) true) ((gd w1_5 ((wr .i64 ((w1_5.length:Nat) - 1)).toNat)).Body))) ((wr .i64 ((w1_5.length:Nat) - 1)).toNat))) (upc_row (f:=c_TFrame) w1_5 ((wr .i64 ((w1_5.length:Nat) - 1)).toNat) 39 (TFrame.mk (THeader.mk (((gd w1_5 ((wr .i64 ((w1_5.length:Nat) - 1)).toNat)).Head).Kind) (((gd w1_5 ((wr .i64 ((w1_5.length:Nat) - 1)).toNat)).Head).Sub) (((gd w1_5 ((wr .i64 ((w1_5.length:Nat) - 1)).toNat)).Head).ToDs) (((gd w1_5 ((wr .i64 ((w1_5.length:Nat) - 1)).toNat)).Head).FromDs) (((gd w1_5 ((wr .i64 ((w1_5.length:Nat) - 1)).toNat)).Head).More) (((gd w1_5 ((wr .i64 ((w1_5.length:Nat) - 1)).toNat)).Head).Retry) (((gd w1_5 ((wr .i64 ((w1_5.length:Nat) - 1)).toNat)).Head).Sleep) (((gd w1_5 ((wr .i64 ((w1_5.length:Nat) - 1)).toNat)).Head).MoreData) (((gd w1_5 ((wr .i64 ((w1_5.length:Nat) - 1)).toNat)).Head).Protected) (((gd w1_5 ((wr .i64 ((w1_5.length:Nat) - 1)).toNat)).Head).Duration) (A6u8.mk ((((gd w1_5 ((wr .i64 ((w1_5.length:Nat) - 1)).toNat)).Head).A1).x0) ((((gd w1_5 ((wr .i64 ((w1_5.length:Nat) - 1)).toNat)).Head).A1).x1) ((((gd w1_5 ((wr .i64 ((w1_5.length:Nat) - 1)).toNat)).Head).A1).x2) ((((gd w1_5 ((wr .i64 ((w1_5.length:Nat) - 1)).toNat)).Head).A1).x3) ((((gd w1_5 ((wr .i64 ((w1_5.length:Nat) - 1)).toNat)).Head).A1).x4) ((((gd w1_5 ((wr .i64 ((w1_5.length:Nat) - 1)).toNat)).Head).A1).x5)) (A6u8.mk ((((gd w1_5 ((wr .i64 ((w1_5.length:Nat) - 1)).toNat)).Head).A2).x0) ((((gd w1_5 ((wr .i64 ((w1_5.length:Nat) - 1)).toNat)).Head).A2).x1) ((((gd w1_5 ((wr .i64 ((w1_5.length:Nat) - 1)).toNat)).Head).A2).x2) ((((gd w1_5 ((wr .i64 ((w1_5.length:Nat) - 1)).toNat)).Head).A2).x3) ((((gd w1_5 ((wr .i64 ((w1_5.length:Nat) - 1)).toNat)).Head).A2).x4) ((((gd w1_5 ((wr .i64 ((w1_5.length:Nat) - 1)).toNat)).Head).A2).x5)) (A6u8.mk ((((gd w1_5 ((wr .i64 ((w1_5.length:Nat) - 1)).toNat)).Head).A3).x0) ((((gd w1_5 ((wr .i64 ((w1_5.length:Nat) - 1)).toNat)).Head).A3).x1) ((((gd w1_5 ((wr .i64 ((w1_5.length:Nat) - 1)).toNat)).Head).A3).x2) ((((gd w1_5 ((wr .i64 ((w1_5.length:Nat) - 1)).toNat)).Head).A3).x3) ((((gd w1_5 ((wr .i64 ((w1_5.length:Nat) - 1)).toNat)).Head).A3).x4) ((((gd w1_5 ((wr .i64 ((w1_5.length:Nat) - 1)).toNat)).Head).A3).x5)) (A6u8.mk ((((gd w1_5 ((wr .i64 ((w1_5.length:Nat) - 1)).toNat)).Head).A4).x0) ((((gd w1_5 ((wr .i64 ((w1_5.length:Nat) - 1)).toNat)).Head).A4).x1) ((((gd w1_5 ((wr .i64 ((w1_5.length:Nat) - 1)).toNat)).Head).A4).x2) ((((gd w1_5 ((wr .i64 ((w1_5.length:Nat) - 1)).toNat)).Head).A4).x3) ((((gd w1_5 ((wr .i64 ((w1_5.length:Nat) - 1)).toNat)).Head).A4).x4) ((((gd w1_5 ((wr .i64 ((w1_5.length:Nat) - 1)).toNat)).Head).A4).x5)) (((gd w1_5 ((wr .i64 ((w1_5.length:Nat) - 1)).toNat)).Head).Seq) (((gd w1_5 ((wr .i64 ((w1_5.length:Nat) - 1)).toNat)).Head).Frag) (((gd w1_5 ((wr .i64 ((w1_5.length:Nat) - 1)).toNat)).Head).Tid) (((gd w1_5 ((wr .i64 ((w1_5.length:Nat) - 1)).toNat)).Head).Ack) (((gd w1_5 ((wr .i64 ((w1_5.length:Nat) - 1)).toNat)).Head).Amsdu) true) ((gd w1_5 ((wr .i64 ((w1_5.length:Nat) - 1)).toNat)).Body)) (fun _ _ _ _=>rfl) (fun y hy=>match y,hy with|0,_=>rfl|1,_=>rfl|2,_=>rfl|3,_=>rfl|4,_=>rfl|5,_=>rfl|6,_=>rfl|7,_=>rfl|8,_=>rfl|9,_=>rfl|10,_=>rfl|11,_=>rfl|12,_=>rfl|13,_=>rfl|14,_=>rfl|15,_=>rfl|16,_=>rfl|17,_=>rfl|18,_=>rfl|19,_=>rfl|20,_=>rfl|21,_=>rfl|22,_=>rfl|23,_=>rfl|24,_=>rfl|25,_=>rfl|26,_=>rfl|27,_=>rfl|28,_=>rfl|29,_=>rfl|30,_=>rfl|31,_=>rfl|32,_=>rfl|33,_=>rfl|34,_=>rfl|35,_=>rfl|36,_=>rfl|37,_=>rfl|38,_=>rfl|39,_=>rfl|40,_=>rfl|(y+41),h=>absurd h nlt)) (fun y hy=>match y,hy with|0,_=>rfl|1,_=>rfl|2,_=>rfl|3,_=>rfl|4,_=>rfl|5,_=>rfl|6,_=>rfl|7,_=>rfl|8,_=>rfl|9,_=>rfl|10,_=>rfl|11,_=>rfl|12,_=>rfl|13,_=>rfl|14,_=>rfl|15,_=>rfl|16,_=>rfl|17,_=>rfl|18,_=>rfl|19,_=>rfl|20,_=>rfl|21,_=>rfl|22,_=>rfl|23,_=>rfl|24,_=>rfl|25,_=>rfl|26,_=>rfl|27,_=>rfl|28,_=>rfl|29,_=>rfl|30,_=>rfl|31,_=>rfl|32,_=>rfl|33,_=>rfl|34,_=>rfl|35,_=>rfl|36,_=>rfl|37,_=>rfl|38,_=>rfl|39,_=>rfl|40,_=>rfl|(y+41),h=>absurd h nlt))),CvB_dead,trivial⟩
     simp only [tp]
     refine rg ctNo_ok ?_
     simp only [go_sem,Nat.reduceLT,Nat.reduceAdd]
     obtain rfl:=Option.some.inj H
     refine ⟨[11,7,9,0,3,4,5,6,10],?_,?_,[],?_,?_,rfl⟩
     ·simp only [go_sem,Nat.reduceBEq]
      try exact at0
     ·simp only [go_sem,Nat.reduceBEq]
      try exact at0
     ·simp only [go_sem,Nat.reduceBEq]
      exact Cv_tup (CvL_cons (Cv_agg (CvL_cons Cv_int (CvL_cons (ro_row (by first|rfl|simp) (fun _ _ _ _=>rfl)) CvL_nil))) (CvL_cons (Cv_agg (CvL_cons Cv_int (CvL_cons Cv_int (CvL_cons (ro_row (by first|rfl|simp) (fun _ _ _ _=>rfl)) (CvL_cons (ro_row (by first|rfl|simp) (fun _ _ _ _=>rfl)) CvL_nil))))) (CvL_cons Cv_int CvL_nil)))
     ·simp only [go_sem,CvH]
    replace H:=cond_t hc H
    refine regO ?_
    obtain ⟨r22,e23,H⟩:=bsi H
    refine cutO shT_ok ct29t6_ok 3 ?_
    simp only [kO_normal,List.take_succ_cons,List.take_zero,List.drop_succ_cons,List.drop_zero,go_sem,Nat.reduceLT,Nat.reduceAdd,ct29t6_57,body57,e23]
    repeat ((with_reducible refine And.intro ?_ ?_);focus exact an4)
    refine fzO [13] ?_ ?_
    ·simp only [go_sem,Nat.reduceBEq]
     try exact at0
    simp only [go_sem,Nat.reduceBEq,Nat.reduceAdd]
    refine cutO shT_ok ctNo_ok 4 ?_
    simp only [kO_normal,List.take_succ_cons,List.take_zero,List.drop_succ_cons,List.drop_zero,go_sem,Nat.reduceLeDiff,Nat.reduceAdd]
    repeat ((with_reducible refine And.intro ?_ ?_);focus exact an4)
    refine endO ?_
    refine seqM ?_
    obtain ⟨f24,H⟩:=need_some.1 H
    replace f24:=inb_iff.1 f24
    refine rg ctNo_ok ?_
    simp only [go_sem,Nat.reduceLT,Nat.reduceAdd,reduceCtorEq,(by decide:wr IntKind.i64 ((1:Int) - 1)=0),f24]
    repeat ((with_reducible refine And.intro ?_ ?_);focus exact an4)
    refine sq ctNo_ok ?_
    simp only [go_sem,Nat.reduceLeDiff,Nat.reduceLT,Nat.reduceAdd]
    repeat ((with_reducible refine And.intro ?_ ?_);focus exact an6)
    refine seqM ?_
    refine draw_rule shT_ok ctNo_ok 0 (by kernel_rfl) (by kernel_rfl) ?_
    intro an han
    simp only [d_nil,d_cons,nxtD,xrD,xoD,roEq,minL,List.append_nil,refsOp,refs,mask,maskF,place,placeF,okLog,pairOk,hit,inL,slotsF,nrH,nrB,nrL,nr,List.replicate_zero,Nat.sub_self,Nat.add_zero,Nat.zero_add,Nat.reduceSub,Nat.lt_add_one,go_sem,Nat.reduceLeDiff,Nat.reduceLT,Nat.reduceAdd,Nat.reduceSub,Nat.reduceBEq]
    repeat ((with_reducible refine And.intro ?_ ?_);focus exact an8)
    refine fz2_mean [12] [7] ?_ ?_
    ·simp only [go_sem,Nat.reduceBEq,Nat.reduceAdd,fzObHF2,fzObB2]
     first|exact (foc_ob (L:=r7.List) (i:=r4.toNat) (fun a y=>nrefL_getL (nr_TSleeper a) y) (fun x y hx=>by simp only [upc_ne hx]) (fun y hy=>match y,hy with|0,_=>(by (simp [upc_ii,getL,fzOb,inL,geth,rowOb,enR,c_TSleeper];all_goals (first|(with_reducible trivial)|(intros;exact nrefL_getL (NRf.h _) _)|(intros;exact nfc))))|1,_=>(by (simp [upc_ii,getL,fzOb,inL,geth,rowOb,enR,c_TSleeper];all_goals (first|(with_reducible trivial)|(intros;exact nrefL_getL (NRf.h _) _)|(intros;exact nfc))))|2,_=>(by (simp [upc_ii,getL,fzOb,inL,geth,rowOb,enR,c_TSleeper];all_goals (first|(with_reducible trivial)|(intros;exact nrefL_getL (NRf.h _) _)|(intros;exact nfc))))|(y+3),h=>absurd h nlt))|(and_intros<;>first|exact (foc_ob (L:=r7.List) (i:=r4.toNat) (fun a y=>nrefL_getL (nr_TSleeper a) y) (fun x y hx=>by simp only [upc_ne hx]) (fun y hy=>match y,hy with|0,_=>(by (simp [upc_ii,getL,fzOb,enR,c_TSleeper];all_goals (first|(with_reducible trivial)|(intros;exact nrefL_getL (NRf.h _) _)|(intros;exact nfc))))|1,_=>(by (simp [upc_ii,getL,fzOb,enR,c_TSleeper];all_goals (first|(with_reducible trivial)|(intros;exact nrefL_getL (NRf.h _) _)|(intros;exact nfc))))|2,_=>(by (simp [upc_ii,getL,fzOb,inL,geth,rowOb,enR,c_TSleeper];all_goals (first|(with_reducible trivial)|(intros;exact nrefL_getL (NRf.h _) _)|(intros;exact nfc))))|(y+3),h=>absurd h nlt))|(with_reducible trivial)|omega|exact nfc|trivial)
    simp only [go_sem,Nat.reduceBEq,Nat.reduceAdd,fzH2,fzHF2,fzB2]
    obtain ⟨w25,hw26,H⟩:=bsi H
    replace hw26:=Option.some.inj hw26
    have lhw26:w25.length=r7.List.length:=by rw [← hw26];exact (by simp only [List.length_set])
    obtain ⟨w27,hw28,H⟩:=bsi H
    replace hw28:=Option.some.inj hw28
    have lhw28:w27.length=1:=by rw [← hw28];exact cl
    refine subF_mean (t2:=(tp 10 (.ptr 5 0 0 0::.ptr 6 0 0 0::.int .i64 0::tp 127 []))) (h2:=[.lit 52 [.int .i64 r7.Limit,.int .i64 r7.Stay,.sl 7 3 0 w25.length false,.sl 9 43 0 r7.Group.length false],.dead,.dead,.lit 25 [.int .u8 p3.x0,.int .u8 p3.x1,.int .u8 p3.x2,.int .u8 p3.x3,.int .u8 p3.x4,.int .u8 p3.x5],.lit 25 [.int .u8 p4.x0,.int .u8 p4.x1,.int .u8 p4.x2,.int .u8 p4.x3,.int .u8 p4.x4,.int .u8 p4.x5],.lit 33 [.int .i64 p2,.sl 14 41 0 w27.length false],.lit 52 [.int .i64 r7.Limit,.int .i64 r7.Stay,.sl 7 3 0 w25.length false,.sl 9 43 0 r7.Group.length false],.row 71 3 w25.length (enR c_TSleeper w25),.dead,.row 73 43 r7.Group.length (enR c_TStored r7.Group),.lit 103 [.ro 43 w1_6.length false (enR c_TStored w1_6),.int .u8 p1.Deliver],.row 30 41 w1_5.length (enR c_TFrame w1_5),.dead,.dead,.row 30 41 w27.length (enR c_TFrame w27)]) ?_ ?_
    ·refine SubF_of ⟨[some 0,some 1,some 2,some 3,some 4,some 5,some 6,some 7,some 8,some 9,some 10,some 11,some 12,some 13,some 14],?_,?_,by rfl,by rfl⟩
     ·simp [CvL,Cv,getM,tp]
     ·exact ⟨(by simp [CvB,CvL,Cv,blkAt,geth,getM,lhw26]),CvB_dead,CvB_dead,(by simp [CvB,CvL,Cv,blkAt,geth]),(by simp [CvB,CvL,Cv,blkAt,geth]),(by simp [CvB,CvL,Cv,blkAt,geth,getM,lhw28]),(by simp [CvB,CvL,Cv,blkAt,geth,getM,lhw26]),CvB_row nr_TSleeper lhw26 (hw26 ▸ (foc_row (L:=r7.List) (i:=r4.toNat) (fun a y=>nrefL_getL (nr_TSleeper a) y) (fun x y hx=>by simp only [upc_ne hx]) (fun y hy=>match y,hy with|0,_=>by simp [upc_ii,getL,fzV,enR,c_TSleeper]|1,_=>by simp [upc_ii,getL,fzV,enR,c_TSleeper]|2,_=>by simp [upc_ii,getL,fzV,inL,geth,enR,c_TSleeper,sub_enR0]|(y+3),h=>absurd h nlt))),CvB_dead,CvB_row nr_TStored rfl (fun _ _ _ _=>rfl),(by simp [CvB,CvL,Cv,blkAt,geth]),CvB_row nr_TFrame rfl (fun _ _ _ _=>rfl),CvB_dead,CvB_dead,CvB_row nr_TFrame lhw28 (hw28 ▸ (upc_row (f:=c_TFrame) ([r22].set 0 (TFrame.mk (THeader.mk (((gd [r22] 0).Head).Kind) (((gd [r22] 0).Head).Sub) (((gd [r22] 0).Head).ToDs) (((gd [r22] 0).Head).FromDs) (((gd [r22] 0).Head).More) (((gd [r22] 0).Head).Retry) (((gd [r22] 0).Head).Sleep) (((gd [r22] 0).Head).MoreData) (((gd [r22] 0).Head).Protected) (((gd [r22] 0).Head).Duration) (A6u8.mk ((((gd [r22] 0).Head).A1).x0) ((((gd [r22] 0).Head).A1).x1) ((((gd [r22] 0).Head).A1).x2) ((((gd [r22] 0).Head).A1).x3) ((((gd [r22] 0).Head).A1).x4) ((((gd [r22] 0).Head).A1).x5)) (A6u8.mk ((((gd [r22] 0).Head).A2).x0) ((((gd [r22] 0).Head).A2).x1) ((((gd [r22] 0).Head).A2).x2) ((((gd [r22] 0).Head).A2).x3) ((((gd [r22] 0).Head).A2).x4) ((((gd [r22] 0).Head).A2).x5)) (A6u8.mk ((((gd [r22] 0).Head).A3).x0) ((((gd [r22] 0).Head).A3).x1) ((((gd [r22] 0).Head).A3).x2) ((((gd [r22] 0).Head).A3).x3) ((((gd [r22] 0).Head).A3).x4) ((((gd [r22] 0).Head).A3).x5)) (A6u8.mk ((((gd [r22] 0).Head).A4).x0) ((((gd [r22] 0).Head).A4).x1) ((((gd [r22] 0).Head).A4).x2) ((((gd [r22] 0).Head).A4).x3) ((((gd [r22] 0).Head).A4).x4) ((((gd [r22] 0).Head).A4).x5)) (((gd [r22] 0).Head).Seq) (((gd [r22] 0).Head).Frag) (((gd [r22] 0).Head).Tid) (((gd [r22] 0).Head).Ack) (((gd [r22] 0).Head).Amsdu) true) ((gd [r22] 0).Body))) 0 7 ((fun qq24=>(TFrame.mk (THeader.mk qq24.Head.Kind qq24.Head.Sub qq24.Head.ToDs qq24.Head.FromDs qq24.Head.More qq24.Head.Retry qq24.Head.Sleep false qq24.Head.Protected qq24.Head.Duration (A6u8.mk qq24.Head.A1.x0 qq24.Head.A1.x1 qq24.Head.A1.x2 qq24.Head.A1.x3 qq24.Head.A1.x4 qq24.Head.A1.x5) (A6u8.mk qq24.Head.A2.x0 qq24.Head.A2.x1 qq24.Head.A2.x2 qq24.Head.A2.x3 qq24.Head.A2.x4 qq24.Head.A2.x5) (A6u8.mk qq24.Head.A3.x0 qq24.Head.A3.x1 qq24.Head.A3.x2 qq24.Head.A3.x3 qq24.Head.A3.x4 qq24.Head.A3.x5) (A6u8.mk qq24.Head.A4.x0 qq24.Head.A4.x1 qq24.Head.A4.x2 qq24.Head.A4.x3 qq24.Head.A4.x4 qq24.Head.A4.x5) qq24.Head.Seq qq24.Head.Frag qq24.Head.Tid qq24.Head.Ack qq24.Head.Amsdu qq24.Head.Eosp) qq24.Body)) (gd ([r22].set 0 (TFrame.mk (THeader.mk (((gd [r22] 0).Head).Kind) (((gd [r22] 0).Head).Sub) (((gd [r22] 0).Head).ToDs) (((gd [r22] 0).Head).FromDs) (((gd [r22] 0).Head).More) (((gd [r22] 0).Head).Retry) (((gd [r22] 0).Head).Sleep) (((gd [r22] 0).Head).MoreData) (((gd [r22] 0).Head).Protected) (((gd [r22] 0).Head).Duration) (A6u8.mk ((((gd [r22] 0).Head).A1).x0) ((((gd [r22] 0).Head).A1).x1) ((((gd [r22] 0).Head).A1).x2) ((((gd [r22] 0).Head).A1).x3) ((((gd [r22] 0).Head).A1).x4) ((((gd [r22] 0).Head).A1).x5)) (A6u8.mk ((((gd [r22] 0).Head).A2).x0) ((((gd [r22] 0).Head).A2).x1) ((((gd [r22] 0).Head).A2).x2) ((((gd [r22] 0).Head).A2).x3) ((((gd [r22] 0).Head).A2).x4) ((((gd [r22] 0).Head).A2).x5)) (A6u8.mk ((((gd [r22] 0).Head).A3).x0) ((((gd [r22] 0).Head).A3).x1) ((((gd [r22] 0).Head).A3).x2) ((((gd [r22] 0).Head).A3).x3) ((((gd [r22] 0).Head).A3).x4) ((((gd [r22] 0).Head).A3).x5)) (A6u8.mk ((((gd [r22] 0).Head).A4).x0) ((((gd [r22] 0).Head).A4).x1) ((((gd [r22] 0).Head).A4).x2) ((((gd [r22] 0).Head).A4).x3) ((((gd [r22] 0).Head).A4).x4) ((((gd [r22] 0).Head).A4).x5)) (((gd [r22] 0).Head).Seq) (((gd [r22] 0).Head).Frag) (((gd [r22] 0).Head).Tid) (((gd [r22] 0).Head).Ack) (((gd [r22] 0).Head).Amsdu) true) ((gd [r22] 0).Body))) 0)) (upc_row (f:=c_TFrame) [r22] 0 39 (TFrame.mk (THeader.mk (((gd [r22] 0).Head).Kind) (((gd [r22] 0).Head).Sub) (((gd [r22] 0).Head).ToDs) (((gd [r22] 0).Head).FromDs) (((gd [r22] 0).Head).More) (((gd [r22] 0).Head).Retry) (((gd [r22] 0).Head).Sleep) (((gd [r22] 0).Head).MoreData) (((gd [r22] 0).Head).Protected) (((gd [r22] 0).Head).Duration) (A6u8.mk ((((gd [r22] 0).Head).A1).x0) ((((gd [r22] 0).Head).A1).x1) ((((gd [r22] 0).Head).A1).x2) ((((gd [r22] 0).Head).A1).x3) ((((gd [r22] 0).Head).A1).x4) ((((gd [r22] 0).Head).A1).x5)) (A6u8.mk ((((gd [r22] 0).Head).A2).x0) ((((gd [r22] 0).Head).A2).x1) ((((gd [r22] 0).Head).A2).x2) ((((gd [r22] 0).Head).A2).x3) ((((gd [r22] 0).Head).A2).x4) ((((gd [r22] 0).Head).A2).x5)) (A6u8.mk ((((gd [r22] 0).Head).A3).x0) ((((gd [r22] 0).Head).A3).x1) ((((gd [r22] 0).Head).A3).x2) ((((gd [r22] 0).Head).A3).x3) ((((gd [r22] 0).Head).A3).x4) ((((gd [r22] 0).Head).A3).x5)) (A6u8.mk ((((gd [r22] 0).Head).A4).x0) ((((gd [r22] 0).Head).A4).x1) ((((gd [r22] 0).Head).A4).x2) ((((gd [r22] 0).Head).A4).x3) ((((gd [r22] 0).Head).A4).x4) ((((gd [r22] 0).Head).A4).x5)) (((gd [r22] 0).Head).Seq) (((gd [r22] 0).Head).Frag) (((gd [r22] 0).Head).Tid) (((gd [r22] 0).Head).Ack) (((gd [r22] 0).Head).Amsdu) true) ((gd [r22] 0).Body)) (lit_row (f:=c_TFrame) [r22] (fun _ _=>rfl) rfl) (fun y hy=>match y,hy with|0,_=>rfl|1,_=>rfl|2,_=>rfl|3,_=>rfl|4,_=>rfl|5,_=>rfl|6,_=>rfl|7,_=>rfl|8,_=>rfl|9,_=>rfl|10,_=>rfl|11,_=>rfl|12,_=>rfl|13,_=>rfl|14,_=>rfl|15,_=>rfl|16,_=>rfl|17,_=>rfl|18,_=>rfl|19,_=>rfl|20,_=>rfl|21,_=>rfl|22,_=>rfl|23,_=>rfl|24,_=>rfl|25,_=>rfl|26,_=>rfl|27,_=>rfl|28,_=>rfl|29,_=>rfl|30,_=>rfl|31,_=>rfl|32,_=>rfl|33,_=>rfl|34,_=>rfl|35,_=>rfl|36,_=>rfl|37,_=>rfl|38,_=>rfl|39,_=>rfl|40,_=>rfl|(y+41),h=>absurd h nlt)) (fun y hy=>match y,hy with|0,_=>rfl|1,_=>rfl|2,_=>rfl|3,_=>rfl|4,_=>rfl|5,_=>rfl|6,_=>rfl|7,_=>rfl|8,_=>rfl|9,_=>rfl|10,_=>rfl|11,_=>rfl|12,_=>rfl|13,_=>rfl|14,_=>rfl|15,_=>rfl|16,_=>rfl|17,_=>rfl|18,_=>rfl|19,_=>rfl|20,_=>rfl|21,_=>rfl|22,_=>rfl|23,_=>rfl|24,_=>rfl|25,_=>rfl|26,_=>rfl|27,_=>rfl|28,_=>rfl|29,_=>rfl|30,_=>rfl|31,_=>rfl|32,_=>rfl|33,_=>rfl|34,_=>rfl|35,_=>rfl|36,_=>rfl|37,_=>rfl|38,_=>rfl|39,_=>rfl|40,_=>rfl|(y+41),h=>absurd h nlt))),trivial⟩
    simp only [tp]
    refine rg ctNo_ok ?_
    simp only [go_sem,Nat.reduceLT,Nat.reduceAdd]
    obtain rfl:=Option.some.inj H
    refine ⟨[14,7,9,0,3,4,5,6,10],?_,?_,[],?_,?_,rfl⟩
    ·simp only [go_sem,Nat.reduceBEq]
     try exact at0
    ·simp only [go_sem,Nat.reduceBEq]
     try exact at0
    ·simp only [go_sem,Nat.reduceBEq]
     exact Cv_tup (CvL_cons (Cv_agg (CvL_cons Cv_int (CvL_cons (ro_row (by first|rfl|simp) (fun _ _ _ _=>rfl)) CvL_nil))) (CvL_cons (Cv_agg (CvL_cons Cv_int (CvL_cons Cv_int (CvL_cons (ro_row (by first|rfl|simp) (fun _ _ _ _=>rfl)) (CvL_cons (ro_row (by first|rfl|simp) (fun _ _ _ _=>rfl)) CvL_nil))))) (CvL_cons Cv_int CvL_nil)))
    ·simp only [go_sem,CvH]
  ·cases hb
 ·unfold body29 at hb
  split at hb<;>cases hb
noncomputable def ct32t0:Ct:=tab [(29,genC body29),(40,genC body40)]
theorem ct32t0_ok:CtOk Try.prog ct32t0:=tab_cons ok29 <| tab_cons ok40 <| tab_nil
theorem ct32t0_29 (l:List AV) (h:List ABlk):ct32t0 29 l h=genC body29 l h:=rfl
theorem ct32t0_40 (l:List AV) (h:List ABlk):ct32t0 40 l h=genC body40 l h:=rfl
noncomputable def F32:Option (Bool) :=
 (F40).bind fun r1=>(F29 r1 (TTriggerPlan.mk 0 12 2) 3 (A6u8.mk 1 0 0 0 0 0) (A6u8.mk 2 0 0 0 0 0)).bind fun r3=>need (bif (!(((!bEq r3.2.2 0) || (!bEq (r3.1.Left.length:Nat) 2)) || (!bEq (r3.2.1.List.length:Nat) 1))) then inb 0 r3.2.1.List.length else true) <| bif ((((!bEq r3.2.2 0) || (!bEq (r3.1.Left.length:Nat) 2)) || (!bEq (r3.2.1.List.length:Nat) 1)) || (!bEq (((gd r3.2.1.List 0).Held).length:Nat) 2)) then (some false) else (need (inb 0 r3.1.Left.length) <| need (inb 1 r3.1.Left.length) <| some ((((((bEq (((gd r3.1.Left 0).Head).Seq) 2) && (bEq (((gd r3.1.Left 1).Head).Seq) 1)) && ((gd r3.1.Left 0).Head).MoreData) && ((gd r3.1.Left 1).Head).MoreData) && (!(((gd r3.1.Left 0).Head).Eosp))) && ((gd r3.1.Left 1).Head).Eosp))
noncomputable def body32:List AV->AR
 | []=>.pure ((F32).isSome=true) (.bool (gt F32))
 | _=>.fail
theorem ok32:FnOk Try.prog 32 (pureC body32):=by
 refine pure_fnM body32 (rs:=[.tmp 0]) Try.func32 (by kernel_rfl) rfl rfl ?_
 intro l ob v hb hob
 unfold body32 at hb
 split at hb
 ·injection hb with q1 q2;subst q1 q2
  obtain ⟨r,H⟩:=Option.isSome_iff_exists.1 hob
  rw [H,gt_some]
  refine ⟨[],_,(fun E vs F=>F),rfl,rfl,?_⟩
  rw [Try.ntmps32]
  simp only [List.length_nil,Nat.reduceSub,List.replicate_succ,List.replicate_zero,List.nil_append]
  unfold F32 at H
  try dsimp only at H
  refine sq ctNo_ok ?_
  simp only [go_sem]
  refine seqM ?_
  obtain ⟨r1,e2,H⟩:=bsi H
  obtain ⟨r3,e4,H⟩:=bsi H
  refine rg ct32t0_ok ?_
  simp only [go_sem,Nat.reduceLeDiff,Nat.reduceLT,Nat.reduceAdd,ct32t0_29,body29,ct32t0_40,body40,e2,e4]
  repeat ((with_reducible refine And.intro ?_ ?_);focus exact an0)
  refine seqM ?_
  refine seqM ?_
  obtain ⟨f5,H⟩:=need_some.1 H
  replace f5:=g_iff.1 f5
  replace f5:=fun g=>inb_iff.1 (f5 g)
  refine rg ctNo_ok ?_
  simp only [go_sem,Nat.reduceLeDiff,Nat.reduceLT,Nat.reduceAdd]
  repeat ((with_reducible refine And.intro ?_ ?_);focus (first|(with_reducible trivial)|omega|exact f5|(intro g;have q:=f5 (by first|exact g|(rw [g];rfl)|simpa using g);first|exact q|exact ⟨q.1,q.2.1⟩|exact q.2.2|omega|exact ⟨g,q⟩|exact ⟨trivial,q⟩|exact ⟨g,q.1,q.2.1⟩|exact ⟨g,q.2.2⟩)|(intro g;(try have q0:=f5 (by first|exact g|(rw [g];rfl)|simpa using g));and_intros<;>first|(with_reducible trivial)|assumption|exact nfc|(intro g2;rw [g,g2];rfl)|(intro g2;assumption)|(simp only [g,Bool.true_and,Bool.and_true,Bool.not_false,Bool.not_true];assumption)|grind)|(and_intros<;>first|(with_reducible trivial)|omega|assumption|exact nfc|first|exact rfl|exact trivial|exact fitI|exact .inr rfl|exact .inl rfl|exact fun x hx=>absurd hx (by omega))|grind))
  refine condM rfl trivial (fun hc=>?_) (fun hc=>?_)
  ·replace H:=cond_t hc H
   refine sq ctNo_ok ?_
   simp only [go_sem]
   refine rg ctNo_ok ?_
   simp only [go_sem]
   obtain rfl:=Option.some.inj H
   first|rfl|simp only [Bool.and_false,Bool.false_and,Bool.and_true,Bool.true_and]
  replace H:=cond_f hc H
  refine rg ctNo_ok ?_
  simp only [go_sem]
  refine seqM ?_
  obtain ⟨f6,H⟩:=need_some.1 H
  replace f6:=inb_iff.1 f6
  obtain ⟨f7,H⟩:=need_some.1 H
  replace f7:=inb_iff.1 f7
  refine draw_rule shT_ok ctNo_ok 2 (by kernel_rfl) (by kernel_rfl) ?_
  intro an han
  simp only [d_nil,d_cons,nxtD,xrD,xoD,roEq,minL,List.append_nil,refsOp,refs,mask,maskF,place,placeF,okLog,pairOk,hit,inL,slotsF,ren,rnN,nrH,nrB,nrL,nr,List.replicate_zero,List.replicate_succ,Nat.sub_self,Nat.add_zero,Nat.zero_add,Nat.reduceSub,Nat.lt_add_one,go_sem,Nat.reduceLeDiff,Nat.reduceLT,Nat.reduceAdd,Nat.reduceSub,Nat.reduceBEq,Int.reduceToNat,reduceCtorEq,f6,f7]
  repeat ((with_reducible refine And.intro ?_ ?_);focus exact an2)
  refine sq ctNo_ok ?_
  simp only [go_sem,Nat.reduceLeDiff,Nat.reduceLT,Nat.reduceAdd]
  repeat ((with_reducible refine And.intro ?_ ?_);focus exact an6)
  refine rg ctNo_ok ?_
  simp only [go_sem]
  obtain rfl:=Option.some.inj H
  first|rfl|simp only [Bool.and_false,Bool.false_and,Bool.and_true,Bool.true_and]
 ·cases hb
noncomputable def F11 (p0:TFrame):Option (Bool) :=
 some (bLt 2400 (p0.Body.length:Nat))
noncomputable def body11:List AV->AR
 | [v0]=>.pure (aK 41 k_TFrame v0/\(F11 (g_TFrame (aL v0))).isSome=true) (.bool (gt (F11 (g_TFrame (aL v0)))))
 | _=>.fail
theorem ok11:FnOk Try.prog 11 (pureC body11):=by
 refine pure_fnM body11 (rs:=[.tmp 2]) Try.func11 (by kernel_rfl) rfl rfl ?_
 intro l ob v hb hob
 unfold body11 at hb
 split at hb
 ·rename_i v0
  injection hb with q1 q2;subst q1 q2
  obtain ⟨hk0_0,hob⟩:=hob
  obtain ⟨r,H⟩:=Option.isSome_iff_exists.1 hob
  rw [H,gt_some]
  have hw0:=wA_TFrame hk0_0
  generalize g_TFrame (aL v0)=p0 at H hw0
  refine ⟨[.agg (.int .u8 p0.Head.Kind::.int .u8 p0.Head.Sub::.bool p0.Head.ToDs::.bool p0.Head.FromDs::.bool p0.Head.More::.bool p0.Head.Retry::.bool p0.Head.Sleep::.bool p0.Head.MoreData::.bool p0.Head.Protected::.int .i64 p0.Head.Duration::.int .u8 p0.Head.A1.x0::.int .u8 p0.Head.A1.x1::.int .u8 p0.Head.A1.x2::.int .u8 p0.Head.A1.x3::.int .u8 p0.Head.A1.x4::.int .u8 p0.Head.A1.x5::.int .u8 p0.Head.A2.x0::.int .u8 p0.Head.A2.x1::.int .u8 p0.Head.A2.x2::.int .u8 p0.Head.A2.x3::.int .u8 p0.Head.A2.x4::.int .u8 p0.Head.A2.x5::.int .u8 p0.Head.A3.x0::.int .u8 p0.Head.A3.x1::.int .u8 p0.Head.A3.x2::.int .u8 p0.Head.A3.x3::.int .u8 p0.Head.A3.x4::.int .u8 p0.Head.A3.x5::.int .u8 p0.Head.A4.x0::.int .u8 p0.Head.A4.x1::.int .u8 p0.Head.A4.x2::.int .u8 p0.Head.A4.x3::.int .u8 p0.Head.A4.x4::.int .u8 p0.Head.A4.x5::.int .i64 p0.Head.Seq::.int .i64 p0.Head.Frag::.int .i64 p0.Head.Tid::.int .u8 p0.Head.Ack::.bool p0.Head.Amsdu::.bool p0.Head.Eosp::.ro 1 p0.Body.length false (enR c_u8 p0.Body)::[])],_,(fun E vs F=>FR_wk1 hw0.1 F (fun vs F=>F)),rfl,rfl,?_⟩
  rw [Try.ntmps11]
  simp only [List.length_cons,List.length_nil,Nat.reduceAdd,Nat.reduceSub,List.replicate_succ,List.replicate_zero,List.cons_append,List.nil_append]
  unfold F11 at H
  try dsimp only at H
  refine sq ctNo_ok ?_
  simp only [go_sem]
  refine sq ctNo_ok ?_
  simp only [go_sem,Nat.reduceLT,Nat.reduceAdd]
  repeat ((with_reducible refine And.intro ?_ ?_);focus exact an0)
  refine rg ctNo_ok ?_
  simp only [go_sem]
  obtain rfl:=Option.some.inj H
  first|rfl|simp only [Bool.and_false,Bool.false_and,Bool.and_true,Bool.true_and]
 ·cases hb
noncomputable def ct47t0:Ct:=tab [(11,pureC body11)]
theorem ct47t0_ok:CtOk Try.prog ct47t0:=tab_cons ok11 <| tab_nil
theorem ct47t0_11 (l:List AV) (h:List ABlk):ct47t0 11 l h=pureC body11 l h:=rfl
noncomputable def F47_L1 (p0:List TStored) (v1_1:Int):Option (Lp (Int) ((Unit) ⊕ (Bool))) :=
 bif (bLt v1_1 (p0.length:Nat)) then (need (inb v1_1 p0.length) <| (F11 (TFrame.mk (THeader.mk ((((gd p0 v1_1.toNat).Frame).Head).Kind) ((((gd p0 v1_1.toNat).Frame).Head).Sub) ((((gd p0 v1_1.toNat).Frame).Head).ToDs) ((((gd p0 v1_1.toNat).Frame).Head).FromDs) ((((gd p0 v1_1.toNat).Frame).Head).More) ((((gd p0 v1_1.toNat).Frame).Head).Retry) ((((gd p0 v1_1.toNat).Frame).Head).Sleep) ((((gd p0 v1_1.toNat).Frame).Head).MoreData) ((((gd p0 v1_1.toNat).Frame).Head).Protected) ((((gd p0 v1_1.toNat).Frame).Head).Duration) (A6u8.mk (((((gd p0 v1_1.toNat).Frame).Head).A1).x0) (((((gd p0 v1_1.toNat).Frame).Head).A1).x1) (((((gd p0 v1_1.toNat).Frame).Head).A1).x2) (((((gd p0 v1_1.toNat).Frame).Head).A1).x3) (((((gd p0 v1_1.toNat).Frame).Head).A1).x4) (((((gd p0 v1_1.toNat).Frame).Head).A1).x5)) (A6u8.mk (((((gd p0 v1_1.toNat).Frame).Head).A2).x0) (((((gd p0 v1_1.toNat).Frame).Head).A2).x1) (((((gd p0 v1_1.toNat).Frame).Head).A2).x2) (((((gd p0 v1_1.toNat).Frame).Head).A2).x3) (((((gd p0 v1_1.toNat).Frame).Head).A2).x4) (((((gd p0 v1_1.toNat).Frame).Head).A2).x5)) (A6u8.mk (((((gd p0 v1_1.toNat).Frame).Head).A3).x0) (((((gd p0 v1_1.toNat).Frame).Head).A3).x1) (((((gd p0 v1_1.toNat).Frame).Head).A3).x2) (((((gd p0 v1_1.toNat).Frame).Head).A3).x3) (((((gd p0 v1_1.toNat).Frame).Head).A3).x4) (((((gd p0 v1_1.toNat).Frame).Head).A3).x5)) (A6u8.mk (((((gd p0 v1_1.toNat).Frame).Head).A4).x0) (((((gd p0 v1_1.toNat).Frame).Head).A4).x1) (((((gd p0 v1_1.toNat).Frame).Head).A4).x2) (((((gd p0 v1_1.toNat).Frame).Head).A4).x3) (((((gd p0 v1_1.toNat).Frame).Head).A4).x4) (((((gd p0 v1_1.toNat).Frame).Head).A4).x5)) ((((gd p0 v1_1.toNat).Frame).Head).Seq) ((((gd p0 v1_1.toNat).Frame).Head).Frag) ((((gd p0 v1_1.toNat).Frame).Head).Tid) ((((gd p0 v1_1.toNat).Frame).Head).Ack) ((((gd p0 v1_1.toNat).Frame).Head).Amsdu) ((((gd p0 v1_1.toNat).Frame).Head).Eosp)) (((gd p0 v1_1.toNat).Frame).Body))).bind fun r2=>bif r2 then (some (.done (.inr true))) else (some (.next (wr .i64 (v1_1+1))))) else (some (.done (.inl ())))
noncomputable def F47 (p0:List TStored):Option (Bool) :=
 bif (bLt 70 (p0.length:Nat)) then (some true) else (lp (loopD (fun s=>F47_L1 p0 s) 0) (fun _=>some false) some)
noncomputable def body47:List AV->AR
 | [v0]=>.pure (lK k_TStored 43 v0/\(F47 (lA g_TStored v0)).isSome=true) (.bool (gt (F47 (lA g_TStored v0))))
 | _=>.fail
theorem ok47:FnOk Try.prog 47 (pureC body47):=by
 refine pure_fnM body47 (rs:=[.tmp 2]) Try.func47 (by kernel_rfl) rfl rfl ?_
 intro l ob v hb hob
 unfold body47 at hb
 split at hb
 ·rename_i v0
  injection hb with q1 q2;subst q1 q2
  obtain ⟨hk0_0,hob⟩:=hob
  obtain ⟨r,H⟩:=Option.isSome_iff_exists.1 hob
  rw [H,gt_some]
  have hw0:=lK_wk (fun r h=>w_TStored h) hk0_0
  generalize lA g_TStored v0=p0 at H hw0
  refine ⟨[.ro 43 p0.length false (enR c_TStored p0)],_,(fun E vs F=>FR_wk1 hw0.1 F (fun vs F=>F)),rfl,rfl,?_⟩
  rw [Try.ntmps47]
  simp only [List.length_cons,List.length_nil,Nat.reduceAdd,Nat.reduceSub,List.replicate_succ,List.replicate_zero,List.cons_append,List.nil_append]
  unfold F47 at H
  try dsimp only at H
  refine sq ctNo_ok ?_
  simp only [go_sem]
  refine seqM ?_
  refine sq ctNo_ok ?_
  simp only [go_sem]
  repeat ((with_reducible refine And.intro ?_ ?_);focus exact an0)
  refine condM rfl trivial (fun hc=>?_) (fun hc=>?_)
  ·replace H:=cond_t hc H
   refine sq ctNo_ok ?_
   simp only [go_sem]
   refine rg ctNo_ok ?_
   simp only [go_sem]
   obtain rfl:=Option.some.inj H
   first|rfl|simp only [Bool.and_false,Bool.false_and,Bool.and_true,Bool.true_and]
  replace H:=cond_f hc H
  refine rg ctNo_ok ?_
  simp only [go_sem]
  refine seqM ?_
  refine sq ctNo_ok ?_
  simp only [go_sem]
  refine blkM ?_
  refine loop_den (fun s:Int=>(.ro 43 p0.length false (enR c_TStored p0)::.top::.top::.int .i64 s::tp 15 [])) (fun s=>[]) (fun e:Unit=>(tp 19 [])) (fun e=>[]) H ?_ (fun v1_1 o H hn1_1 hn2_1=>?_) (fun e H=>?_)
  ·refine SubF_of ⟨[],?_,?_,by rfl,by rfl⟩
   ·simp [CvL,Cv,tp]
   ·trivial
  ·unfold F47_L1 at H
   try dsimp only at H ⊢
   try simp only [tp]
   refine seqM ?_
   refine sq ctNo_ok ?_
   simp only [go_sem]
   repeat ((with_reducible refine And.intro ?_ ?_);focus exact an0)
   refine condM' rfl trivial (fun hc=>?_) (fun hc=>?_)
   ·replace H:=cond_f hc H
    refine rg ctNo_ok ?_
    simp only [go_sem]
    refine ⟨_,(Option.some.inj H).symm,?_⟩
    refine SubF_of ⟨[],?_,?_,by rfl,by rfl⟩
    ·simp [CvL,Cv]
    ·trivial
   replace H:=cond_t hc H
   refine rg ctNo_ok ?_
   simp only [go_sem]
   refine seqM ?_
   refine blkM ?_
   refine seqM ?_
   obtain ⟨f1,H⟩:=need_some.1 H
   replace f1:=inb_iff.1 f1
   obtain ⟨r2,e3,H⟩:=bsi H
   refine rg ct47t0_ok ?_
   simp only [go_sem,Nat.reduceLT,Nat.reduceAdd,reduceCtorEq,ct47t0_11,body11,f1,e3]
   repeat ((with_reducible refine And.intro ?_ ?_);focus exact an0)
   refine condM rfl trivial (fun hc=>?_) (fun hc=>?_)
   ·replace H:=cond_t hc H
    refine sq ctNo_ok ?_
    simp only [go_sem]
    refine rg ctNo_ok ?_
    simp only [go_sem]
    have H:=hn2_1 _ (Option.some.inj H).symm
    obtain rfl:=Option.some.inj H
    first|rfl|simp only [Bool.and_false,Bool.false_and,Bool.and_true,Bool.true_and]
   replace H:=cond_f hc H
   refine rg ctNo_ok ?_
   simp only [go_sem]
   refine rg ctNo_ok ?_
   simp only [go_sem]
   refine ⟨_,(Option.some.inj H).symm,?_⟩
   refine SubF_of ⟨[],?_,?_,by rfl,by rfl⟩
   ·simp [CvL,Cv]
   ·trivial
  ·try dsimp only at H ⊢
   try simp only [tp]
   try simp only [m_normal]
   refine sq ctNo_ok ?_
   simp only [go_sem]
   refine rg ctNo_ok ?_
   simp only [go_sem]
   obtain rfl:=Option.some.inj H
   first|rfl|simp only [Bool.and_false,Bool.false_and,Bool.and_true,Bool.true_and]
 ·cases hb
noncomputable def ct24t0:Ct:=tab [(11,pureC body11),(47,pureC body47)]
theorem ct24t0_ok:CtOk Try.prog ct24t0:=tab_cons ok11 <| tab_cons ok47 <| tab_nil
theorem ct24t0_11 (l:List AV) (h:List ABlk):ct24t0 11 l h=pureC body11 l h:=rfl
theorem ct24t0_47 (l:List AV) (h:List ABlk):ct24t0 47 l h=pureC body47 l h:=rfl
noncomputable def ct24t1:Ct:=tab [(47,pureC body47)]
theorem ct24t1_ok:CtOk Try.prog ct24t1:=tab_cons ok47 <| tab_nil
theorem ct24t1_47 (l:List AV) (h:List ABlk):ct24t1 47 l h=pureC body47 l h:=rfl
noncomputable def F24_L1 (p0:TBuffer) (v1_1:Int):Option (Lp (Int) ((Unit) ⊕ (Bool))) :=
 bif (bLt v1_1 (p0.List.length:Nat)) then (need (inb v1_1 p0.List.length) <| (F47 ((gd p0.List v1_1.toNat).Held)).bind fun r4=>bif r4 then (some (.done (.inr true))) else (some (.next (wr .i64 (v1_1+1))))) else (some (.done (.inl ())))
noncomputable def F24 (p0:TBuffer) (p1:TFrame):Option (Bool) :=
 need (bif (!(bLt 40 (p0.List.length:Nat))) then ((F47 p0.Group).isSome) else true) <| need (bif (!((bLt 40 (p0.List.length:Nat)) || (gt (F47 p0.Group)))) then ((F11 p1).isSome) else true) <| bif (((bLt 40 (p0.List.length:Nat)) || (gt (F47 p0.Group))) || (gt (F11 p1))) then (some true) else (lp (loopD (fun s=>F24_L1 p0 s) 0) (fun _=>some false) some)
noncomputable def body24:List AV->AR
 | [v0,v1]=>.pure (aK 4 k_TBuffer v0/\aK 41 k_TFrame v1/\(F24 (g_TBuffer (aL v0)) (g_TFrame (aL v1))).isSome=true) (.bool (gt (F24 (g_TBuffer (aL v0)) (g_TFrame (aL v1)))))
 | _=>.fail
theorem ok24:FnOk Try.prog 24 (pureC body24):=by
 refine pure_fnM body24 (rs:=[.tmp 4]) Try.func24 (by kernel_rfl) rfl rfl ?_
 intro l ob v hb hob
 unfold body24 at hb
 split at hb
 ·rename_i v0 v1
  injection hb with q1 q2;subst q1 q2
  obtain ⟨hk0_0,hk1_0,hob⟩:=hob
  obtain ⟨r,H⟩:=Option.isSome_iff_exists.1 hob
  rw [H,gt_some]
  have hw0:=wA_TBuffer hk0_0
  have hw1:=wA_TFrame hk1_0
  generalize g_TBuffer (aL v0)=p0 at H hw0
  generalize g_TFrame (aL v1)=p1 at H hw1
  refine ⟨[.agg [.int .i64 p0.Limit,.int .i64 p0.Stay,.ro 3 p0.List.length false (enR c_TSleeper p0.List),.ro 43 p0.Group.length false (enR c_TStored p0.Group)],.agg (.int .u8 p1.Head.Kind::.int .u8 p1.Head.Sub::.bool p1.Head.ToDs::.bool p1.Head.FromDs::.bool p1.Head.More::.bool p1.Head.Retry::.bool p1.Head.Sleep::.bool p1.Head.MoreData::.bool p1.Head.Protected::.int .i64 p1.Head.Duration::.int .u8 p1.Head.A1.x0::.int .u8 p1.Head.A1.x1::.int .u8 p1.Head.A1.x2::.int .u8 p1.Head.A1.x3::.int .u8 p1.Head.A1.x4::.int .u8 p1.Head.A1.x5::.int .u8 p1.Head.A2.x0::.int .u8 p1.Head.A2.x1::.int .u8 p1.Head.A2.x2::.int .u8 p1.Head.A2.x3::.int .u8 p1.Head.A2.x4::.int .u8 p1.Head.A2.x5::.int .u8 p1.Head.A3.x0::.int .u8 p1.Head.A3.x1::.int .u8 p1.Head.A3.x2::.int .u8 p1.Head.A3.x3::.int .u8 p1.Head.A3.x4::.int .u8 p1.Head.A3.x5::.int .u8 p1.Head.A4.x0::.int .u8 p1.Head.A4.x1::.int .u8 p1.Head.A4.x2::.int .u8 p1.Head.A4.x3::.int .u8 p1.Head.A4.x4::.int .u8 p1.Head.A4.x5::.int .i64 p1.Head.Seq::.int .i64 p1.Head.Frag::.int .i64 p1.Head.Tid::.int .u8 p1.Head.Ack::.bool p1.Head.Amsdu::.bool p1.Head.Eosp::.ro 1 p1.Body.length false (enR c_u8 p1.Body)::[])],_,(fun E vs F=>FR_wk1 hw0.1 F (fun vs F=>FR_wk1 hw1.1 F (fun vs F=>F))),rfl,rfl,?_⟩
  rw [Try.ntmps24]
  simp only [List.length_cons,List.length_nil,Nat.reduceAdd,Nat.reduceSub,List.replicate_succ,List.replicate_zero,List.cons_append,List.nil_append]
  unfold F24 at H
  try dsimp only at H
  refine sq ctNo_ok ?_
  simp only [go_sem]
  refine seqM ?_
  refine seqM ?_
  obtain ⟨f1,H⟩:=need_some.1 H
  replace f1:=g_iff.1 f1
  obtain ⟨f2,H⟩:=need_some.1 H
  replace f2:=g_iff.1 f2
  refine rg ct24t0_ok ?_
  simp only [go_sem,Nat.reduceLeDiff,Nat.reduceLT,Nat.reduceAdd,ct24t0_11,body11,ct24t0_47,body47]
  repeat ((with_reducible refine And.intro ?_ ?_);focus (first|(with_reducible trivial)|omega|exact f1|exact f2|(intro g;have q:=f1 (by first|exact g|(rw [g];rfl)|simpa using g);first|exact q|exact ⟨q.1,q.2.1⟩|exact q.2.2|omega|exact ⟨g,q⟩|exact ⟨trivial,q⟩|exact ⟨g,q.1,q.2.1⟩|exact ⟨g,q.2.2⟩)|(intro g;have q:=f2 (by first|exact g|(rw [g];rfl)|simpa using g);first|exact q|exact ⟨q.1,q.2.1⟩|exact q.2.2|omega|exact ⟨g,q⟩|exact ⟨trivial,q⟩|exact ⟨g,q.1,q.2.1⟩|exact ⟨g,q.2.2⟩)|(intro g;(try have q0:=f1 (by first|exact g|(rw [g];rfl)|simpa using g));(try have q1:=f2 (by first|exact g|(rw [g];rfl)|simpa using g));and_intros<;>first|(with_reducible trivial)|assumption|exact nfc|(intro g2;rw [g,g2];rfl)|(intro g2;assumption)|(simp only [g,Bool.true_and,Bool.and_true,Bool.not_false,Bool.not_true];assumption)|grind)|(and_intros<;>first|(with_reducible trivial)|omega|assumption|exact nfc|first|exact rfl|exact trivial|exact fitI|exact .inr rfl|exact .inl rfl|exact fun x hx=>absurd hx (by omega))|grind))
  refine condM rfl trivial (fun hc=>?_) (fun hc=>?_)
  ·replace H:=cond_t hc H
   refine sq ctNo_ok ?_
   simp only [go_sem]
   refine rg ctNo_ok ?_
   simp only [go_sem]
   obtain rfl:=Option.some.inj H
   first|rfl|simp only [Bool.and_false,Bool.false_and,Bool.and_true,Bool.true_and]
  replace H:=cond_f hc H
  refine rg ctNo_ok ?_
  simp only [go_sem]
  refine seqM ?_
  refine sq ctNo_ok ?_
  simp only [go_sem]
  refine blkM ?_
  refine loop_den (fun s:Int=>(.top::.top::.ptr 0 0 0 0::.top::.top::.int .i64 s::tp 27 [])) (fun s=>[.lit 52 [.int .i64 p0.Limit,.int .i64 p0.Stay,.ro 3 p0.List.length false (enR c_TSleeper p0.List),.ro 43 p0.Group.length false (enR c_TStored p0.Group)],.dead]) (fun e:Unit=>(tp 33 [])) (fun e=>[.dead,.dead]) H ?_ (fun v1_1 o H hn1_1 hn2_1=>?_) (fun e H=>?_)
  ·refine SubF_of ⟨[some 0,some 1],?_,?_,by rfl,by rfl⟩
   ·simp [CvL,Cv,getM,tp]
   ·exact ⟨cv,CvB_dead,trivial⟩
  ·unfold F24_L1 at H
   try dsimp only at H ⊢
   try simp only [tp]
   refine seqM ?_
   refine sq ctNo_ok ?_
   simp only [go_sem,Nat.reduceLeDiff,Nat.reduceLT,Nat.reduceAdd]
   repeat ((with_reducible refine And.intro ?_ ?_);focus exact an0)
   refine condM' rfl trivial (fun hc=>?_) (fun hc=>?_)
   ·replace H:=cond_f hc H
    refine rg ctNo_ok ?_
    simp only [go_sem]
    refine ⟨_,(Option.some.inj H).symm,?_⟩
    refine SubF_of ⟨[some 0,some 1],?_,?_,by rfl,by rfl⟩
    ·simp [CvL,Cv]
    ·exact ⟨CvB_dead,CvB_dead,trivial⟩
   replace H:=cond_t hc H
   refine rg ctNo_ok ?_
   simp only [go_sem]
   refine seqM ?_
   refine blkM ?_
   refine seqM ?_
   obtain ⟨f3,H⟩:=need_some.1 H
   replace f3:=inb_iff.1 f3
   obtain ⟨r4,e5,H⟩:=bsi H
   refine rg ct24t1_ok ?_
   simp only [go_sem,Nat.reduceLeDiff,Nat.reduceLT,Nat.reduceAdd,ct24t1_47,body47,f3,e5]
   repeat ((with_reducible refine And.intro ?_ ?_);focus exact an0)
   refine condM rfl trivial (fun hc=>?_) (fun hc=>?_)
   ·replace H:=cond_t hc H
    refine sq ctNo_ok ?_
    simp only [go_sem]
    refine rg ctNo_ok ?_
    simp only [go_sem]
    have H:=hn2_1 _ (Option.some.inj H).symm
    obtain rfl:=Option.some.inj H
    first|rfl|simp only [Bool.and_false,Bool.false_and,Bool.and_true,Bool.true_and]
   replace H:=cond_f hc H
   refine rg ctNo_ok ?_
   simp only [go_sem]
   refine rg ctNo_ok ?_
   simp only [go_sem]
   refine ⟨_,(Option.some.inj H).symm,?_⟩
   refine SubF_of ⟨[some 0,some 1],?_,?_,by rfl,by rfl⟩
   ·simp [CvL,Cv,getM]
   ·exact ⟨cv,CvB_dead,trivial⟩
  ·try dsimp only at H ⊢
   try simp only [tp]
   try simp only [m_normal]
   refine sq ctNo_ok ?_
   simp only [go_sem]
   refine rg ctNo_ok ?_
   simp only [go_sem]
   obtain rfl:=Option.some.inj H
   first|rfl|simp only [Bool.and_false,Bool.false_and,Bool.and_true,Bool.true_and]
 ·cases hb
noncomputable def F33_L1 (p0:TBuffer) (p1:Int) (v1_1:Int):Option (Lp (Int) ((Unit) ⊕ (Int))) :=
 bif (bLt v1_1 (p0.List.length:Nat)) then (need (inb v1_1 p0.List.length) <| bif (bEq ((gd p0.List v1_1.toNat).Aid) p1) then (some (.done (.inr v1_1))) else (some (.next (wr .i64 (v1_1+1))))) else (some (.done (.inl ())))
noncomputable def F33 (p0:TBuffer) (p1:Int):Option (Int) :=
 lp (loopD (fun s=>F33_L1 p0 p1 s) 0) (fun _=>some (-1)) some
noncomputable def body33:List AV->AR
 | [v0,v1]=>.pure (aK 4 k_TBuffer v0/\iK .i64 v1/\(F33 (g_TBuffer (aL v0)) (iA v1)).isSome=true) (.int .i64 (gt (F33 (g_TBuffer (aL v0)) (iA v1))))
 | _=>.fail
theorem ok33:FnOk Try.prog 33 (pureC body33):=by
 refine pure_fnM body33 (rs:=[.tmp 4]) Try.func33 (by kernel_rfl) rfl rfl ?_
 intro l ob v hb hob
 unfold body33 at hb
 split at hb
 ·rename_i v0 v1
  injection hb with q1 q2;subst q1 q2
  obtain ⟨hk0_0,hk1_0,hob⟩:=hob
  obtain ⟨r,H⟩:=Option.isSome_iff_exists.1 hob
  rw [H,gt_some]
  have hw0:=wA_TBuffer hk0_0
  have hw1:=iK_wk hk1_0
  generalize g_TBuffer (aL v0)=p0 at H hw0
  generalize iA v1=p1 at H hw1
  refine ⟨[.agg [.int .i64 p0.Limit,.int .i64 p0.Stay,.ro 3 p0.List.length false (enR c_TSleeper p0.List),.ro 43 p0.Group.length false (enR c_TStored p0.Group)],.int .i64 p1],_,(fun E vs F=>FR_wk1 hw0.1 F (fun vs F=>FR_wk1 hw1.1 F (fun vs F=>F))),rfl,rfl,?_⟩
  rw [Try.ntmps33]
  simp only [List.length_cons,List.length_nil,Nat.reduceAdd,Nat.reduceSub,List.replicate_succ,List.replicate_zero,List.cons_append,List.nil_append]
  unfold F33 at H
  try dsimp only at H
  refine sq ctNo_ok ?_
  simp only [go_sem]
  refine seqM ?_
  refine sq ctNo_ok ?_
  simp only [go_sem]
  refine blkM ?_
  refine loop_den (fun s:Int=>(.top::.int .i64 p1::.ptr 0 0 0 0::.top::.top::.int .i64 s::tp 16 [])) (fun s=>[.lit 52 [.int .i64 p0.Limit,.int .i64 p0.Stay,.ro 3 p0.List.length false (enR c_TSleeper p0.List),.ro 43 p0.Group.length false (enR c_TStored p0.Group)]]) (fun e:Unit=>(tp 22 [])) (fun e=>[.dead]) H ?_ (fun v1_1 o H hn1_1 hn2_1=>?_) (fun e H=>?_)
  ·refine SubF_of ⟨[some 0],?_,?_,by rfl,by rfl⟩
   ·simp [CvL,Cv,getM,tp]
   ·exact ⟨cv,trivial⟩
  ·unfold F33_L1 at H
   try dsimp only at H ⊢
   try simp only [tp]
   refine seqM ?_
   refine sq ctNo_ok ?_
   simp only [go_sem,Nat.reduceLeDiff,Nat.reduceLT,Nat.reduceAdd]
   repeat ((with_reducible refine And.intro ?_ ?_);focus exact an0)
   refine condM' rfl trivial (fun hc=>?_) (fun hc=>?_)
   ·replace H:=cond_f hc H
    refine rg ctNo_ok ?_
    simp only [go_sem]
    refine ⟨_,(Option.some.inj H).symm,?_⟩
    refine SubF_of ⟨[some 0],?_,?_,by rfl,by rfl⟩
    ·simp [CvL,Cv]
    ·exact ⟨CvB_dead,trivial⟩
   replace H:=cond_t hc H
   refine rg ctNo_ok ?_
   simp only [go_sem]
   refine seqM ?_
   refine blkM ?_
   refine seqM ?_
   obtain ⟨f1,H⟩:=need_some.1 H
   replace f1:=inb_iff.1 f1
   refine rg ctNo_ok ?_
   simp only [go_sem,Nat.reduceLeDiff,Nat.reduceLT,Nat.reduceAdd,f1]
   repeat ((with_reducible refine And.intro ?_ ?_);focus exact an6)
   refine condM rfl trivial (fun hc=>?_) (fun hc=>?_)
   ·replace H:=cond_t hc H
    refine sq ctNo_ok ?_
    simp only [go_sem]
    refine rg ctNo_ok ?_
    simp only [go_sem]
    have H:=hn2_1 _ (Option.some.inj H).symm
    obtain rfl:=Option.some.inj H
    first|rfl|simp only [Bool.and_false,Bool.false_and,Bool.and_true,Bool.true_and]
   replace H:=cond_f hc H
   refine rg ctNo_ok ?_
   simp only [go_sem]
   refine rg ctNo_ok ?_
   simp only [go_sem]
   refine ⟨_,(Option.some.inj H).symm,?_⟩
   refine SubF_of ⟨[some 0],?_,?_,by rfl,by rfl⟩
   ·simp [CvL,Cv,getM]
   ·exact ⟨cv,trivial⟩
  ·try dsimp only at H ⊢
   try simp only [tp]
   try simp only [m_normal]
   refine sq ctNo_ok ?_
   simp only [go_sem]
   refine rg ctNo_ok ?_
   simp only [go_sem]
   obtain rfl:=Option.some.inj H
   first|rfl|simp only [Bool.and_false,Bool.false_and,Bool.and_true,Bool.true_and]
 ·cases hb
noncomputable def F17 (p0:TFrame):Option (TFrame) :=
 need (capb 1 p0.Body.length) <| some (TFrame.mk (THeader.mk p0.Head.Kind p0.Head.Sub p0.Head.ToDs p0.Head.FromDs p0.Head.More p0.Head.Retry p0.Head.Sleep p0.Head.MoreData p0.Head.Protected p0.Head.Duration (A6u8.mk p0.Head.A1.x0 p0.Head.A1.x1 p0.Head.A1.x2 p0.Head.A1.x3 p0.Head.A1.x4 p0.Head.A1.x5) (A6u8.mk p0.Head.A2.x0 p0.Head.A2.x1 p0.Head.A2.x2 p0.Head.A2.x3 p0.Head.A2.x4 p0.Head.A2.x5) (A6u8.mk p0.Head.A3.x0 p0.Head.A3.x1 p0.Head.A3.x2 p0.Head.A3.x3 p0.Head.A3.x4 p0.Head.A3.x5) (A6u8.mk p0.Head.A4.x0 p0.Head.A4.x1 p0.Head.A4.x2 p0.Head.A4.x3 p0.Head.A4.x4 p0.Head.A4.x5) p0.Head.Seq p0.Head.Frag p0.Head.Tid p0.Head.Ack p0.Head.Amsdu p0.Head.Eosp) ([] ++ p0.Body))
noncomputable def body17:List AV->List ABlk->ED
 | [v0],h=>.ed [] (aK 41 k_TFrame (roD (deadL h []) v0)/\roDOb (deadL h []) v0/\(F17 (g_TFrame (aL (roD (deadL h []) v0)))).isSome=true) (.agg (.int .u8 (((gt (F17 (g_TFrame (aL (roD (deadL h []) v0))))).Head).Kind)::.int .u8 (((gt (F17 (g_TFrame (aL (roD (deadL h []) v0))))).Head).Sub)::.bool (((gt (F17 (g_TFrame (aL (roD (deadL h []) v0))))).Head).ToDs)::.bool (((gt (F17 (g_TFrame (aL (roD (deadL h []) v0))))).Head).FromDs)::.bool (((gt (F17 (g_TFrame (aL (roD (deadL h []) v0))))).Head).More)::.bool (((gt (F17 (g_TFrame (aL (roD (deadL h []) v0))))).Head).Retry)::.bool (((gt (F17 (g_TFrame (aL (roD (deadL h []) v0))))).Head).Sleep)::.bool (((gt (F17 (g_TFrame (aL (roD (deadL h []) v0))))).Head).MoreData)::.bool (((gt (F17 (g_TFrame (aL (roD (deadL h []) v0))))).Head).Protected)::.int .i64 (((gt (F17 (g_TFrame (aL (roD (deadL h []) v0))))).Head).Duration)::.int .u8 ((((gt (F17 (g_TFrame (aL (roD (deadL h []) v0))))).Head).A1).x0)::.int .u8 ((((gt (F17 (g_TFrame (aL (roD (deadL h []) v0))))).Head).A1).x1)::.int .u8 ((((gt (F17 (g_TFrame (aL (roD (deadL h []) v0))))).Head).A1).x2)::.int .u8 ((((gt (F17 (g_TFrame (aL (roD (deadL h []) v0))))).Head).A1).x3)::.int .u8 ((((gt (F17 (g_TFrame (aL (roD (deadL h []) v0))))).Head).A1).x4)::.int .u8 ((((gt (F17 (g_TFrame (aL (roD (deadL h []) v0))))).Head).A1).x5)::.int .u8 ((((gt (F17 (g_TFrame (aL (roD (deadL h []) v0))))).Head).A2).x0)::.int .u8 ((((gt (F17 (g_TFrame (aL (roD (deadL h []) v0))))).Head).A2).x1)::.int .u8 ((((gt (F17 (g_TFrame (aL (roD (deadL h []) v0))))).Head).A2).x2)::.int .u8 ((((gt (F17 (g_TFrame (aL (roD (deadL h []) v0))))).Head).A2).x3)::.int .u8 ((((gt (F17 (g_TFrame (aL (roD (deadL h []) v0))))).Head).A2).x4)::.int .u8 ((((gt (F17 (g_TFrame (aL (roD (deadL h []) v0))))).Head).A2).x5)::.int .u8 ((((gt (F17 (g_TFrame (aL (roD (deadL h []) v0))))).Head).A3).x0)::.int .u8 ((((gt (F17 (g_TFrame (aL (roD (deadL h []) v0))))).Head).A3).x1)::.int .u8 ((((gt (F17 (g_TFrame (aL (roD (deadL h []) v0))))).Head).A3).x2)::.int .u8 ((((gt (F17 (g_TFrame (aL (roD (deadL h []) v0))))).Head).A3).x3)::.int .u8 ((((gt (F17 (g_TFrame (aL (roD (deadL h []) v0))))).Head).A3).x4)::.int .u8 ((((gt (F17 (g_TFrame (aL (roD (deadL h []) v0))))).Head).A3).x5)::.int .u8 ((((gt (F17 (g_TFrame (aL (roD (deadL h []) v0))))).Head).A4).x0)::.int .u8 ((((gt (F17 (g_TFrame (aL (roD (deadL h []) v0))))).Head).A4).x1)::.int .u8 ((((gt (F17 (g_TFrame (aL (roD (deadL h []) v0))))).Head).A4).x2)::.int .u8 ((((gt (F17 (g_TFrame (aL (roD (deadL h []) v0))))).Head).A4).x3)::.int .u8 ((((gt (F17 (g_TFrame (aL (roD (deadL h []) v0))))).Head).A4).x4)::.int .u8 ((((gt (F17 (g_TFrame (aL (roD (deadL h []) v0))))).Head).A4).x5)::.int .i64 (((gt (F17 (g_TFrame (aL (roD (deadL h []) v0))))).Head).Seq)::.int .i64 (((gt (F17 (g_TFrame (aL (roD (deadL h []) v0))))).Head).Frag)::.int .i64 (((gt (F17 (g_TFrame (aL (roD (deadL h []) v0))))).Head).Tid)::.int .u8 (((gt (F17 (g_TFrame (aL (roD (deadL h []) v0))))).Head).Ack)::.bool (((gt (F17 (g_TFrame (aL (roD (deadL h []) v0))))).Head).Amsdu)::.bool (((gt (F17 (g_TFrame (aL (roD (deadL h []) v0))))).Head).Eosp)::.sl 0 1 0 (((gt (F17 (g_TFrame (aL (roD (deadL h []) v0))))).Body).length) false::[])) [.row 5 1 (((gt (F17 (g_TFrame (aL (roD (deadL h []) v0))))).Body).length) (enR c_u8 ((gt (F17 (g_TFrame (aL (roD (deadL h []) v0))))).Body))]
 | _,_=>.fail
theorem ok17:FnOk Try.prog 17 (edC body17):=by
 refine edit_fnV body17 (rs:=[.cell 2 30]) Try.func17 (by kernel_rfl) rfl rfl ?_
 intro l h bs ob q0 g0 hb hob
 unfold body17 at hb
 split at hb
 ·rename_i v0
  injection hb with q1 q2 q3 q4;subst q1 q2 q3 q4
  obtain ⟨hk0_0,hk0_1,hob⟩:=hob
  obtain ⟨r,H⟩:=Option.isSome_iff_exists.1 hob
  rw [H,gt_some]
  have hw0:=wA_TFrame hk0_0
  obtain ⟨p0,hp_p0⟩:∃ p0,p0=g_TFrame (aL (roD (deadL h []) v0)):=⟨_,rfl⟩
  rw [← hp_p0] at H hw0
  refine ⟨[.agg (.int .u8 p0.Head.Kind::.int .u8 p0.Head.Sub::.bool p0.Head.ToDs::.bool p0.Head.FromDs::.bool p0.Head.More::.bool p0.Head.Retry::.bool p0.Head.Sleep::.bool p0.Head.MoreData::.bool p0.Head.Protected::.int .i64 p0.Head.Duration::.int .u8 p0.Head.A1.x0::.int .u8 p0.Head.A1.x1::.int .u8 p0.Head.A1.x2::.int .u8 p0.Head.A1.x3::.int .u8 p0.Head.A1.x4::.int .u8 p0.Head.A1.x5::.int .u8 p0.Head.A2.x0::.int .u8 p0.Head.A2.x1::.int .u8 p0.Head.A2.x2::.int .u8 p0.Head.A2.x3::.int .u8 p0.Head.A2.x4::.int .u8 p0.Head.A2.x5::.int .u8 p0.Head.A3.x0::.int .u8 p0.Head.A3.x1::.int .u8 p0.Head.A3.x2::.int .u8 p0.Head.A3.x3::.int .u8 p0.Head.A3.x4::.int .u8 p0.Head.A3.x5::.int .u8 p0.Head.A4.x0::.int .u8 p0.Head.A4.x1::.int .u8 p0.Head.A4.x2::.int .u8 p0.Head.A4.x3::.int .u8 p0.Head.A4.x4::.int .u8 p0.Head.A4.x5::.int .i64 p0.Head.Seq::.int .i64 p0.Head.Frag::.int .i64 p0.Head.Tid::.int .u8 p0.Head.Ack::.bool p0.Head.Amsdu::.bool p0.Head.Eosp::.ro 1 p0.Body.length false (enR c_u8 p0.Body)::[])],[],rfl,⟨(EW_view hk0_1 hw0),trivial⟩,trivial,trivial,⟨(nfB_en nr_u8),trivial⟩,⟨noroB_en,trivial⟩,(by first|(simp only [noro,noroL,and_self];done)|(simp only [noro,noroL];and_intros<;>first|trivial|exact noro_bif (by simp only [noro]) (by simp only [noro])|(simp only [noro,noroL,and_self]))),?_⟩
  rw [Try.ntmps17]
  simp only [List.length_cons,List.length_nil,Nat.reduceAdd,Nat.reduceSub,List.replicate_succ,List.replicate_zero,List.cons_append,List.nil_append]
  unfold F17 at H
  try dsimp only at H
  refine sq ctNo_ok ?_
  simp only [go_sem]
  refine seqM ?_
  obtain ⟨f1,H⟩:=need_some.1 H
  replace f1:=capb_iff.1 f1
  refine draw_rule shT_ok ctNo_ok 2 (by kernel_rfl) (by kernel_rfl) ?_
  intro an han
  simp only [d_nil,d_cons,nxtD,xrD,xoD,roEq,minL,List.append_nil,refsOp,refs,refsL,mask,maskF,place,placeF,okLog,pairOk,hit,inL,slotsF,ren,rnN,nrH,nrB,nrL,nr,List.replicate_zero,List.replicate_succ,Nat.sub_self,Nat.add_zero,Nat.zero_add,Nat.reduceSub,Nat.not_lt_zero,Nat.zero_le,Nat.lt_add_one,go_sem,Nat.reduceLeDiff,Nat.reduceLT,Nat.reduceAdd,Nat.reduceSub,Nat.reduceBEq,reduceCtorEq,f1]
  repeat ((with_reducible refine And.intro ?_ ?_);focus exact an1)
  refine rg ctNo_ok ?_
  simp only [go_sem,Nat.reduceLT,Nat.reduceAdd]
  obtain rfl:=Option.some.inj H
  refine RetE_mk [] [some 3] ?_ ?_ ?_ ?_ (by rfl) (by rfl)
  ·simp only [go_sem]
   try exact at0
  ·simp only [go_sem]
   try exact at0
  ·simp only [go_sem]
   exact (by first|(simp [Cv,CvL,getM];done)|(simp [Cv,CvL,getM,gt_some];omega))
  ·simp only [go_sem,CvH]
   exact CvB_row nr_u8 cl (app_row (f:=c_u8) [] p0.Body (lit_row (f:=c_u8) [] (fun _ _=>rfl) rfl) (fun _ _ _ _=>rfl))
 ·cases hb
noncomputable def F17_0 (p0:TFrame):Option (TFrame) :=
 need (capb 1 p0.Body.length) <| some (TFrame.mk (THeader.mk p0.Head.Kind p0.Head.Sub p0.Head.ToDs p0.Head.FromDs p0.Head.More p0.Head.Retry p0.Head.Sleep p0.Head.MoreData p0.Head.Protected p0.Head.Duration (A6u8.mk p0.Head.A1.x0 p0.Head.A1.x1 p0.Head.A1.x2 p0.Head.A1.x3 p0.Head.A1.x4 p0.Head.A1.x5) (A6u8.mk p0.Head.A2.x0 p0.Head.A2.x1 p0.Head.A2.x2 p0.Head.A2.x3 p0.Head.A2.x4 p0.Head.A2.x5) (A6u8.mk p0.Head.A3.x0 p0.Head.A3.x1 p0.Head.A3.x2 p0.Head.A3.x3 p0.Head.A3.x4 p0.Head.A3.x5) (A6u8.mk p0.Head.A4.x0 p0.Head.A4.x1 p0.Head.A4.x2 p0.Head.A4.x3 p0.Head.A4.x4 p0.Head.A4.x5) p0.Head.Seq p0.Head.Frag p0.Head.Tid p0.Head.Ack p0.Head.Amsdu p0.Head.Eosp) ([] ++ p0.Body))
noncomputable def body17_0:List AV->Nat->AR
 | [v0],_=>.pure (aK 41 k_TFrame v0/\(F17_0 (g_TFrame (aL v0))).isSome=true) (.agg (.int .u8 (((gt (F17_0 (g_TFrame (aL v0)))).Head).Kind)::.int .u8 (((gt (F17_0 (g_TFrame (aL v0)))).Head).Sub)::.bool (((gt (F17_0 (g_TFrame (aL v0)))).Head).ToDs)::.bool (((gt (F17_0 (g_TFrame (aL v0)))).Head).FromDs)::.bool (((gt (F17_0 (g_TFrame (aL v0)))).Head).More)::.bool (((gt (F17_0 (g_TFrame (aL v0)))).Head).Retry)::.bool (((gt (F17_0 (g_TFrame (aL v0)))).Head).Sleep)::.bool (((gt (F17_0 (g_TFrame (aL v0)))).Head).MoreData)::.bool (((gt (F17_0 (g_TFrame (aL v0)))).Head).Protected)::.int .i64 (((gt (F17_0 (g_TFrame (aL v0)))).Head).Duration)::.int .u8 ((((gt (F17_0 (g_TFrame (aL v0)))).Head).A1).x0)::.int .u8 ((((gt (F17_0 (g_TFrame (aL v0)))).Head).A1).x1)::.int .u8 ((((gt (F17_0 (g_TFrame (aL v0)))).Head).A1).x2)::.int .u8 ((((gt (F17_0 (g_TFrame (aL v0)))).Head).A1).x3)::.int .u8 ((((gt (F17_0 (g_TFrame (aL v0)))).Head).A1).x4)::.int .u8 ((((gt (F17_0 (g_TFrame (aL v0)))).Head).A1).x5)::.int .u8 ((((gt (F17_0 (g_TFrame (aL v0)))).Head).A2).x0)::.int .u8 ((((gt (F17_0 (g_TFrame (aL v0)))).Head).A2).x1)::.int .u8 ((((gt (F17_0 (g_TFrame (aL v0)))).Head).A2).x2)::.int .u8 ((((gt (F17_0 (g_TFrame (aL v0)))).Head).A2).x3)::.int .u8 ((((gt (F17_0 (g_TFrame (aL v0)))).Head).A2).x4)::.int .u8 ((((gt (F17_0 (g_TFrame (aL v0)))).Head).A2).x5)::.int .u8 ((((gt (F17_0 (g_TFrame (aL v0)))).Head).A3).x0)::.int .u8 ((((gt (F17_0 (g_TFrame (aL v0)))).Head).A3).x1)::.int .u8 ((((gt (F17_0 (g_TFrame (aL v0)))).Head).A3).x2)::.int .u8 ((((gt (F17_0 (g_TFrame (aL v0)))).Head).A3).x3)::.int .u8 ((((gt (F17_0 (g_TFrame (aL v0)))).Head).A3).x4)::.int .u8 ((((gt (F17_0 (g_TFrame (aL v0)))).Head).A3).x5)::.int .u8 ((((gt (F17_0 (g_TFrame (aL v0)))).Head).A4).x0)::.int .u8 ((((gt (F17_0 (g_TFrame (aL v0)))).Head).A4).x1)::.int .u8 ((((gt (F17_0 (g_TFrame (aL v0)))).Head).A4).x2)::.int .u8 ((((gt (F17_0 (g_TFrame (aL v0)))).Head).A4).x3)::.int .u8 ((((gt (F17_0 (g_TFrame (aL v0)))).Head).A4).x4)::.int .u8 ((((gt (F17_0 (g_TFrame (aL v0)))).Head).A4).x5)::.int .i64 (((gt (F17_0 (g_TFrame (aL v0)))).Head).Seq)::.int .i64 (((gt (F17_0 (g_TFrame (aL v0)))).Head).Frag)::.int .i64 (((gt (F17_0 (g_TFrame (aL v0)))).Head).Tid)::.int .u8 (((gt (F17_0 (g_TFrame (aL v0)))).Head).Ack)::.bool (((gt (F17_0 (g_TFrame (aL v0)))).Head).Amsdu)::.bool (((gt (F17_0 (g_TFrame (aL v0)))).Head).Eosp)::.ro 1 (((gt (F17_0 (g_TFrame (aL v0)))).Body).length) false (enR c_u8 ((gt (F17_0 (g_TFrame (aL v0)))).Body))::[]))
 | _,_=>.fail
theorem ok17_0:FnOk Try.prog 17 (genC body17_0):=by
 refine gen_fn body17_0 (rs:=[.cell 2 30]) Try.func17 (by kernel_rfl) rfl rfl ?_
 intro l s ob v ns hb hob
 rcases hb with ⟨hb,rfl⟩|hb
 ·unfold body17_0 at hb
  split at hb
  ·rename_i v0
   injection hb with q1 q2;subst q1 q2
   obtain ⟨hk0_0,hob⟩:=hob
   obtain ⟨r,H⟩:=Option.isSome_iff_exists.1 hob
   rw [H,gt_some]
   have hw0:=wA_TFrame hk0_0
   generalize g_TFrame (aL v0)=p0 at H hw0
   refine ⟨[.agg (.int .u8 p0.Head.Kind::.int .u8 p0.Head.Sub::.bool p0.Head.ToDs::.bool p0.Head.FromDs::.bool p0.Head.More::.bool p0.Head.Retry::.bool p0.Head.Sleep::.bool p0.Head.MoreData::.bool p0.Head.Protected::.int .i64 p0.Head.Duration::.int .u8 p0.Head.A1.x0::.int .u8 p0.Head.A1.x1::.int .u8 p0.Head.A1.x2::.int .u8 p0.Head.A1.x3::.int .u8 p0.Head.A1.x4::.int .u8 p0.Head.A1.x5::.int .u8 p0.Head.A2.x0::.int .u8 p0.Head.A2.x1::.int .u8 p0.Head.A2.x2::.int .u8 p0.Head.A2.x3::.int .u8 p0.Head.A2.x4::.int .u8 p0.Head.A2.x5::.int .u8 p0.Head.A3.x0::.int .u8 p0.Head.A3.x1::.int .u8 p0.Head.A3.x2::.int .u8 p0.Head.A3.x3::.int .u8 p0.Head.A3.x4::.int .u8 p0.Head.A3.x5::.int .u8 p0.Head.A4.x0::.int .u8 p0.Head.A4.x1::.int .u8 p0.Head.A4.x2::.int .u8 p0.Head.A4.x3::.int .u8 p0.Head.A4.x4::.int .u8 p0.Head.A4.x5::.int .i64 p0.Head.Seq::.int .i64 p0.Head.Frag::.int .i64 p0.Head.Tid::.int .u8 p0.Head.Ack::.bool p0.Head.Amsdu::.bool p0.Head.Eosp::.ro 1 p0.Body.length false (enR c_u8 p0.Body)::[])],.agg (.int .u8 r.Head.Kind::.int .u8 r.Head.Sub::.bool r.Head.ToDs::.bool r.Head.FromDs::.bool r.Head.More::.bool r.Head.Retry::.bool r.Head.Sleep::.bool r.Head.MoreData::.bool r.Head.Protected::.int .i64 r.Head.Duration::.int .u8 r.Head.A1.x0::.int .u8 r.Head.A1.x1::.int .u8 r.Head.A1.x2::.int .u8 r.Head.A1.x3::.int .u8 r.Head.A1.x4::.int .u8 r.Head.A1.x5::.int .u8 r.Head.A2.x0::.int .u8 r.Head.A2.x1::.int .u8 r.Head.A2.x2::.int .u8 r.Head.A2.x3::.int .u8 r.Head.A2.x4::.int .u8 r.Head.A2.x5::.int .u8 r.Head.A3.x0::.int .u8 r.Head.A3.x1::.int .u8 r.Head.A3.x2::.int .u8 r.Head.A3.x3::.int .u8 r.Head.A3.x4::.int .u8 r.Head.A3.x5::.int .u8 r.Head.A4.x0::.int .u8 r.Head.A4.x1::.int .u8 r.Head.A4.x2::.int .u8 r.Head.A4.x3::.int .u8 r.Head.A4.x4::.int .u8 r.Head.A4.x5::.int .i64 r.Head.Seq::.int .i64 r.Head.Frag::.int .i64 r.Head.Tid::.int .u8 r.Head.Ack::.bool r.Head.Amsdu::.bool r.Head.Eosp::.ro 1 r.Body.length false (enR c_u8 r.Body)::[]),[],(fun E vs F=>FR_wk1 hw0.1 F (fun vs F=>F)),by simp only [ren,renL],trivial,?_⟩
   rw [Try.ntmps17]
   simp only [List.length_cons,List.length_nil,Nat.reduceAdd,Nat.reduceSub,List.replicate_succ,List.replicate_zero,List.cons_append,List.nil_append]
   unfold F17_0 at H
   try dsimp only at H
   refine sq ctNo_ok ?_
   simp only [go_sem]
   refine seqM ?_
   obtain ⟨f1,H⟩:=need_some.1 H
   replace f1:=capb_iff.1 f1
   refine draw_rule shT_ok ctNo_ok 2 (by kernel_rfl) (by kernel_rfl) ?_
   intro an han
   simp only [d_nil,d_cons,nxtD,xrD,xoD,roEq,minL,List.append_nil,refsOp,refs,refsL,mask,maskF,place,placeF,okLog,pairOk,hit,inL,slotsF,ren,rnN,nrH,nrB,nrL,nr,List.replicate_zero,List.replicate_succ,Nat.sub_self,Nat.add_zero,Nat.zero_add,Nat.reduceSub,Nat.not_lt_zero,Nat.zero_le,Nat.lt_add_one,go_sem,Nat.reduceLeDiff,Nat.reduceLT,Nat.reduceAdd,Nat.reduceSub,Nat.reduceBEq,reduceCtorEq,f1]
   repeat ((with_reducible refine And.intro ?_ ?_);focus exact an1)
   refine rg ctNo_ok ?_
   simp only [go_sem,Nat.reduceLT,Nat.reduceAdd]
   obtain rfl:=Option.some.inj H
   refine ⟨[3,0,1],?_,?_,[],?_,?_,rfl⟩
   ·simp only [go_sem,Nat.reduceBEq]
    try exact at0
   ·simp only [go_sem,Nat.reduceBEq]
    try exact at0
   ·simp only [go_sem,Nat.reduceBEq]
    exact (Cv_agg (CvL_cons Cv_int (CvL_cons Cv_int (CvL_cons Cv_bool (CvL_cons Cv_bool (CvL_cons Cv_bool (CvL_cons Cv_bool (CvL_cons Cv_bool (CvL_cons Cv_bool (CvL_cons Cv_bool (CvL_cons Cv_int (CvL_cons Cv_int (CvL_cons Cv_int (CvL_cons Cv_int (CvL_cons Cv_int (CvL_cons Cv_int (CvL_cons Cv_int (CvL_cons Cv_int (CvL_cons Cv_int (CvL_cons Cv_int (CvL_cons Cv_int (CvL_cons Cv_int (CvL_cons Cv_int (CvL_cons Cv_int (CvL_cons Cv_int (CvL_cons Cv_int (CvL_cons Cv_int (CvL_cons Cv_int (CvL_cons Cv_int (CvL_cons Cv_int (CvL_cons Cv_int (CvL_cons Cv_int (CvL_cons Cv_int (CvL_cons Cv_int (CvL_cons Cv_int (CvL_cons Cv_int (CvL_cons Cv_int (CvL_cons Cv_int (CvL_cons Cv_int (CvL_cons Cv_bool (CvL_cons Cv_bool (CvL_cons (ro_row (by first|rfl|simp) (app_row (f:=c_u8) [] p0.Body (lit_row (f:=c_u8) [] (fun _ _=>rfl) rfl) (fun _ _ _ _=>rfl))) CvL_nil))))))))))))))))))))))))))))))))))))))))))
   ·simp only [go_sem,CvH]
  ·cases hb
 ·unfold body17_0 at hb
  split at hb<;>cases hb
noncomputable def ct51t0:Ct:=tab [(17,genC body17_0)]
theorem ct51t0_ok:CtOk Try.prog ct51t0:=tab_cons ok17_0 <| tab_nil
theorem ct51t0_17 (l:List AV) (h:List ABlk):ct51t0 17 l h=genC body17_0 l h:=rfl
noncomputable def F51_L1 (p0:List TStored) (v1_1:List TStored) (v1_2:Int):Option (Lp ((List TStored) × Int) ((List TStored) ⊕ (List TStored))) :=
 bif (bLt v1_2 (p0.length:Nat)) then (need (inb v1_2 p0.length) <| need (inb v1_2 p0.length) <| need (inb v1_2 p0.length) <| (F17_0 (TFrame.mk (THeader.mk ((((gd p0 v1_2.toNat).Frame).Head).Kind) ((((gd p0 v1_2.toNat).Frame).Head).Sub) ((((gd p0 v1_2.toNat).Frame).Head).ToDs) ((((gd p0 v1_2.toNat).Frame).Head).FromDs) ((((gd p0 v1_2.toNat).Frame).Head).More) ((((gd p0 v1_2.toNat).Frame).Head).Retry) ((((gd p0 v1_2.toNat).Frame).Head).Sleep) ((((gd p0 v1_2.toNat).Frame).Head).MoreData) ((((gd p0 v1_2.toNat).Frame).Head).Protected) ((((gd p0 v1_2.toNat).Frame).Head).Duration) (A6u8.mk (((((gd p0 v1_2.toNat).Frame).Head).A1).x0) (((((gd p0 v1_2.toNat).Frame).Head).A1).x1) (((((gd p0 v1_2.toNat).Frame).Head).A1).x2) (((((gd p0 v1_2.toNat).Frame).Head).A1).x3) (((((gd p0 v1_2.toNat).Frame).Head).A1).x4) (((((gd p0 v1_2.toNat).Frame).Head).A1).x5)) (A6u8.mk (((((gd p0 v1_2.toNat).Frame).Head).A2).x0) (((((gd p0 v1_2.toNat).Frame).Head).A2).x1) (((((gd p0 v1_2.toNat).Frame).Head).A2).x2) (((((gd p0 v1_2.toNat).Frame).Head).A2).x3) (((((gd p0 v1_2.toNat).Frame).Head).A2).x4) (((((gd p0 v1_2.toNat).Frame).Head).A2).x5)) (A6u8.mk (((((gd p0 v1_2.toNat).Frame).Head).A3).x0) (((((gd p0 v1_2.toNat).Frame).Head).A3).x1) (((((gd p0 v1_2.toNat).Frame).Head).A3).x2) (((((gd p0 v1_2.toNat).Frame).Head).A3).x3) (((((gd p0 v1_2.toNat).Frame).Head).A3).x4) (((((gd p0 v1_2.toNat).Frame).Head).A3).x5)) (A6u8.mk (((((gd p0 v1_2.toNat).Frame).Head).A4).x0) (((((gd p0 v1_2.toNat).Frame).Head).A4).x1) (((((gd p0 v1_2.toNat).Frame).Head).A4).x2) (((((gd p0 v1_2.toNat).Frame).Head).A4).x3) (((((gd p0 v1_2.toNat).Frame).Head).A4).x4) (((((gd p0 v1_2.toNat).Frame).Head).A4).x5)) ((((gd p0 v1_2.toNat).Frame).Head).Seq) ((((gd p0 v1_2.toNat).Frame).Head).Frag) ((((gd p0 v1_2.toNat).Frame).Head).Tid) ((((gd p0 v1_2.toNat).Frame).Head).Ack) ((((gd p0 v1_2.toNat).Frame).Head).Amsdu) ((((gd p0 v1_2.toNat).Frame).Head).Eosp)) (((gd p0 v1_2.toNat).Frame).Body))).bind fun r4=>need (capb 120 (v1_1.length+1)) <| some (.next ((v1_1 ++ [(TStored.mk ((gd p0 v1_2.toNat).Cat) ((gd p0 v1_2.toNat).At) (TFrame.mk (THeader.mk r4.Head.Kind r4.Head.Sub r4.Head.ToDs r4.Head.FromDs r4.Head.More r4.Head.Retry r4.Head.Sleep r4.Head.MoreData r4.Head.Protected r4.Head.Duration (A6u8.mk r4.Head.A1.x0 r4.Head.A1.x1 r4.Head.A1.x2 r4.Head.A1.x3 r4.Head.A1.x4 r4.Head.A1.x5) (A6u8.mk r4.Head.A2.x0 r4.Head.A2.x1 r4.Head.A2.x2 r4.Head.A2.x3 r4.Head.A2.x4 r4.Head.A2.x5) (A6u8.mk r4.Head.A3.x0 r4.Head.A3.x1 r4.Head.A3.x2 r4.Head.A3.x3 r4.Head.A3.x4 r4.Head.A3.x5) (A6u8.mk r4.Head.A4.x0 r4.Head.A4.x1 r4.Head.A4.x2 r4.Head.A4.x3 r4.Head.A4.x4 r4.Head.A4.x5) r4.Head.Seq r4.Head.Frag r4.Head.Tid r4.Head.Ack r4.Head.Amsdu r4.Head.Eosp) r4.Body))]),wr .i64 (v1_2+1)))) else (some (.done (.inl v1_1)))
noncomputable def F51 (p0:List TStored):Option (List TStored) :=
 lp (loopD (fun s=>F51_L1 p0 s.1 s.2) ([],0)) (fun w1_3=>some w1_3) some
noncomputable def body51:List AV->Nat->AR
 | [v0],s=>.heap (lK k_TStored 43 v0/\(F51 (lA g_TStored v0)).isSome=true) (.sl s 43 0 ((gt (F51 (lA g_TStored v0))).length) false) [.row 73 43 ((gt (F51 (lA g_TStored v0))).length) (enR c_TStored (gt (F51 (lA g_TStored v0))))]
 | _,_=>.fail
theorem ok51:FnOk Try.prog 51 (genC body51):=by
 refine gen_fn body51 (rs:=[.tmp 2]) Try.func51 (by kernel_rfl) rfl rfl ?_
 intro l s ob v ns hb hob
 rcases hb with ⟨hb,rfl⟩|hb
 ·unfold body51 at hb
  split at hb<;>cases hb
 ·unfold body51 at hb
  split at hb
  ·rename_i v0
   injection hb with q1 q2 q3;subst q1 q2 q3
   obtain ⟨hk0_0,hob⟩:=hob
   obtain ⟨r,H⟩:=Option.isSome_iff_exists.1 hob
   rw [H,gt_some]
   have hw0:=lK_wk (fun r h=>w_TStored h) hk0_0
   generalize lA g_TStored v0=p0 at H hw0
   refine ⟨[.ro 43 p0.length false (enR c_TStored p0)],.sl 0 43 0 r.length false,[.row 73 43 r.length (enR c_TStored r)],(fun E vs F=>FR_wk1 hw0.1 F (fun vs F=>F)),by simp only [ren,rnN_0],⟨RenB_row nr_TStored,trivial⟩,?_⟩
   rw [Try.ntmps51]
   simp only [List.length_cons,List.length_nil,Nat.reduceAdd,Nat.reduceSub,List.replicate_succ,List.replicate_zero,List.cons_append,List.nil_append]
   unfold F51 at H
   try dsimp only at H
   refine sq ctNo_ok ?_
   simp only [go_sem]
   refine sq ctNo_ok ?_
   simp only [go_sem]
   refine seqM ?_
   refine sq ctNo_ok ?_
   simp only [go_sem]
   refine blkM ?_
   refine loop_den (fun s:(List TStored) × Int=>(.ro 43 p0.length false (enR c_TStored p0)::.top::.top::.sl 0 43 0 s.1.length false::.int .i64 s.2::tp 27 [])) (fun s=>[.row 73 43 s.1.length (enR c_TStored s.1)]) (fun e:List TStored=>(.top::.top::.top::.sl 0 43 0 e.length false::tp 28 [])) (fun e=>[.row 73 43 e.length (enR c_TStored e)]) H ?_ (fun s o H hn1_1 hn2_1=>?_) (fun w1_3 H=>?_)
   ·refine SubF_of ⟨[none],?_,?_,by rfl,by rfl⟩
    ·simp [CvL,Cv,tp]
    ·exact ⟨CvB_none,trivial⟩
   ·obtain ⟨v1_1,v1_2⟩:=s
    unfold F51_L1 at H
    try dsimp only at H ⊢
    try simp only [tp]
    refine seqM ?_
    refine sq ctNo_ok ?_
    simp only [go_sem]
    repeat ((with_reducible refine And.intro ?_ ?_);focus exact an0)
    refine condM' rfl trivial (fun hc=>?_) (fun hc=>?_)
    ·replace H:=cond_f hc H
     refine rg ctNo_ok ?_
     simp only [go_sem]
     refine ⟨_,(Option.some.inj H).symm,?_⟩
     refine SubF_of ⟨[some 0],?_,?_,by rfl,by rfl⟩
     ·simp [CvL,Cv,getM]
     ·exact ⟨CvB_row nr_TStored cl (fun _ _ _ _=>rfl),trivial⟩
    replace H:=cond_t hc H
    refine rg ctNo_ok ?_
    simp only [go_sem]
    refine seqM ?_
    refine blkM ?_
    obtain ⟨f1,H⟩:=need_some.1 H
    replace f1:=inb_iff.1 f1
    obtain ⟨f2,H⟩:=need_some.1 H
    replace f2:=inb_iff.1 f2
    obtain ⟨f3,H⟩:=need_some.1 H
    replace f3:=inb_iff.1 f3
    obtain ⟨r4,e5,H⟩:=bsi H
    obtain ⟨f6,H⟩:=need_some.1 H
    replace f6:=capb_iff.1 f6
    refine draw_rule shT_ok ct51t0_ok 2 (by kernel_rfl) (by kernel_rfl) ?_
    intro an han
    simp only [d_nil,d_cons,nxtD,xrD,xoD,roEq,minL,List.append_nil,refsOp,refs,refsL,mask,maskF,place,placeF,okLog,pairOk,hit,inL,slotsF,ren,renL,rnN,nrH,nrB,List.replicate_zero,List.replicate_succ,Nat.sub_self,Nat.add_zero,Nat.zero_add,Nat.reduceSub,Nat.lt_add_one,go_sem,Nat.reduceLeDiff,Nat.reduceLT,Nat.reduceAdd,Nat.reduceSub,Nat.reduceBEq,reduceCtorEq,ct51t0_17,body17_0,f1,e5,f6]
    repeat ((with_reducible refine And.intro ?_ ?_);focus exact an1)
    refine rg ctNo_ok ?_
    simp only [go_sem]
    refine ⟨_,(Option.some.inj H).symm,?_⟩
    refine SubF_of ⟨[some 2],?_,?_,by rfl,by rfl⟩
    ·simp [CvL,Cv,getM]
    ·exact ⟨CvB_row nr_TStored cl (app_row (f:=c_TStored) v1_1 [(TStored.mk ((gd p0 v1_2.toNat).Cat) ((gd p0 v1_2.toNat).At) (TFrame.mk (THeader.mk r4.Head.Kind r4.Head.Sub r4.Head.ToDs r4.Head.FromDs r4.Head.More r4.Head.Retry r4.Head.Sleep r4.Head.MoreData r4.Head.Protected r4.Head.Duration (A6u8.mk r4.Head.A1.x0 r4.Head.A1.x1 r4.Head.A1.x2 r4.Head.A1.x3 r4.Head.A1.x4 r4.Head.A1.x5) (A6u8.mk r4.Head.A2.x0 r4.Head.A2.x1 r4.Head.A2.x2 r4.Head.A2.x3 r4.Head.A2.x4 r4.Head.A2.x5) (A6u8.mk r4.Head.A3.x0 r4.Head.A3.x1 r4.Head.A3.x2 r4.Head.A3.x3 r4.Head.A3.x4 r4.Head.A3.x5) (A6u8.mk r4.Head.A4.x0 r4.Head.A4.x1 r4.Head.A4.x2 r4.Head.A4.x3 r4.Head.A4.x4 r4.Head.A4.x5) r4.Head.Seq r4.Head.Frag r4.Head.Tid r4.Head.Ack r4.Head.Amsdu r4.Head.Eosp) r4.Body))] (fun _ _ _ _=>rfl) (lit_row (f:=c_TStored) [(TStored.mk ((gd p0 v1_2.toNat).Cat) ((gd p0 v1_2.toNat).At) (TFrame.mk (THeader.mk r4.Head.Kind r4.Head.Sub r4.Head.ToDs r4.Head.FromDs r4.Head.More r4.Head.Retry r4.Head.Sleep r4.Head.MoreData r4.Head.Protected r4.Head.Duration (A6u8.mk r4.Head.A1.x0 r4.Head.A1.x1 r4.Head.A1.x2 r4.Head.A1.x3 r4.Head.A1.x4 r4.Head.A1.x5) (A6u8.mk r4.Head.A2.x0 r4.Head.A2.x1 r4.Head.A2.x2 r4.Head.A2.x3 r4.Head.A2.x4 r4.Head.A2.x5) (A6u8.mk r4.Head.A3.x0 r4.Head.A3.x1 r4.Head.A3.x2 r4.Head.A3.x3 r4.Head.A3.x4 r4.Head.A3.x5) (A6u8.mk r4.Head.A4.x0 r4.Head.A4.x1 r4.Head.A4.x2 r4.Head.A4.x3 r4.Head.A4.x4 r4.Head.A4.x5) r4.Head.Seq r4.Head.Frag r4.Head.Tid r4.Head.Ack r4.Head.Amsdu r4.Head.Eosp) r4.Body))] (fun _ _=>rfl) rfl)),trivial⟩
   ·try dsimp only at H ⊢
    try simp only [tp]
    try simp only [m_normal]
    refine sq ctNo_ok ?_
    simp only [go_sem]
    refine rg ctNo_ok ?_
    simp only [go_sem]
    obtain rfl:=Option.some.inj H
    refine ⟨[],?_,?_,[some 0],?_,?_,by rfl⟩
    ·simp only [go_sem]
    ·simp only [go_sem]
    ·simp [fzV,inL,Cv,getM]
     all_goals first|exact cl
    ·simp only [go_sem,CvH]
     exact CvB_row nr_TStored cl (fun _ _ _ _=>rfl)
  ·cases hb
noncomputable def ct51_0t0:Ct:=tab [(17,genC body17_0)]
theorem ct51_0t0_ok:CtOk Try.prog ct51_0t0:=tab_cons ok17_0 <| tab_nil
theorem ct51_0t0_17 (l:List AV) (h:List ABlk):ct51_0t0 17 l h=genC body17_0 l h:=rfl
noncomputable def F51_0_L1 (p0:List TStored) (v1_1:List TStored) (v1_2:Int):Option (Lp ((List TStored) × Int) ((List TStored) ⊕ (List TStored))) :=
 bif (bLt v1_2 (p0.length:Nat)) then (need (inb v1_2 p0.length) <| need (inb v1_2 p0.length) <| need (inb v1_2 p0.length) <| (F17_0 (TFrame.mk (THeader.mk ((((gd p0 v1_2.toNat).Frame).Head).Kind) ((((gd p0 v1_2.toNat).Frame).Head).Sub) ((((gd p0 v1_2.toNat).Frame).Head).ToDs) ((((gd p0 v1_2.toNat).Frame).Head).FromDs) ((((gd p0 v1_2.toNat).Frame).Head).More) ((((gd p0 v1_2.toNat).Frame).Head).Retry) ((((gd p0 v1_2.toNat).Frame).Head).Sleep) ((((gd p0 v1_2.toNat).Frame).Head).MoreData) ((((gd p0 v1_2.toNat).Frame).Head).Protected) ((((gd p0 v1_2.toNat).Frame).Head).Duration) (A6u8.mk (((((gd p0 v1_2.toNat).Frame).Head).A1).x0) (((((gd p0 v1_2.toNat).Frame).Head).A1).x1) (((((gd p0 v1_2.toNat).Frame).Head).A1).x2) (((((gd p0 v1_2.toNat).Frame).Head).A1).x3) (((((gd p0 v1_2.toNat).Frame).Head).A1).x4) (((((gd p0 v1_2.toNat).Frame).Head).A1).x5)) (A6u8.mk (((((gd p0 v1_2.toNat).Frame).Head).A2).x0) (((((gd p0 v1_2.toNat).Frame).Head).A2).x1) (((((gd p0 v1_2.toNat).Frame).Head).A2).x2) (((((gd p0 v1_2.toNat).Frame).Head).A2).x3) (((((gd p0 v1_2.toNat).Frame).Head).A2).x4) (((((gd p0 v1_2.toNat).Frame).Head).A2).x5)) (A6u8.mk (((((gd p0 v1_2.toNat).Frame).Head).A3).x0) (((((gd p0 v1_2.toNat).Frame).Head).A3).x1) (((((gd p0 v1_2.toNat).Frame).Head).A3).x2) (((((gd p0 v1_2.toNat).Frame).Head).A3).x3) (((((gd p0 v1_2.toNat).Frame).Head).A3).x4) (((((gd p0 v1_2.toNat).Frame).Head).A3).x5)) (A6u8.mk (((((gd p0 v1_2.toNat).Frame).Head).A4).x0) (((((gd p0 v1_2.toNat).Frame).Head).A4).x1) (((((gd p0 v1_2.toNat).Frame).Head).A4).x2) (((((gd p0 v1_2.toNat).Frame).Head).A4).x3) (((((gd p0 v1_2.toNat).Frame).Head).A4).x4) (((((gd p0 v1_2.toNat).Frame).Head).A4).x5)) ((((gd p0 v1_2.toNat).Frame).Head).Seq) ((((gd p0 v1_2.toNat).Frame).Head).Frag) ((((gd p0 v1_2.toNat).Frame).Head).Tid) ((((gd p0 v1_2.toNat).Frame).Head).Ack) ((((gd p0 v1_2.toNat).Frame).Head).Amsdu) ((((gd p0 v1_2.toNat).Frame).Head).Eosp)) (((gd p0 v1_2.toNat).Frame).Body))).bind fun r4=>need (capb 120 (v1_1.length+1)) <| some (.next ((v1_1 ++ [(TStored.mk ((gd p0 v1_2.toNat).Cat) ((gd p0 v1_2.toNat).At) (TFrame.mk (THeader.mk r4.Head.Kind r4.Head.Sub r4.Head.ToDs r4.Head.FromDs r4.Head.More r4.Head.Retry r4.Head.Sleep r4.Head.MoreData r4.Head.Protected r4.Head.Duration (A6u8.mk r4.Head.A1.x0 r4.Head.A1.x1 r4.Head.A1.x2 r4.Head.A1.x3 r4.Head.A1.x4 r4.Head.A1.x5) (A6u8.mk r4.Head.A2.x0 r4.Head.A2.x1 r4.Head.A2.x2 r4.Head.A2.x3 r4.Head.A2.x4 r4.Head.A2.x5) (A6u8.mk r4.Head.A3.x0 r4.Head.A3.x1 r4.Head.A3.x2 r4.Head.A3.x3 r4.Head.A3.x4 r4.Head.A3.x5) (A6u8.mk r4.Head.A4.x0 r4.Head.A4.x1 r4.Head.A4.x2 r4.Head.A4.x3 r4.Head.A4.x4 r4.Head.A4.x5) r4.Head.Seq r4.Head.Frag r4.Head.Tid r4.Head.Ack r4.Head.Amsdu r4.Head.Eosp) r4.Body))]),wr .i64 (v1_2+1)))) else (some (.done (.inl v1_1)))
noncomputable def F51_0 (p0:List TStored):Option (List TStored) :=
 lp (loopD (fun s=>F51_0_L1 p0 s.1 s.2) ([],0)) (fun w1_3=>some w1_3) some
noncomputable def body51_0:List AV->Nat->AR
 | [v0],_=>.pure (lK k_TStored 43 v0/\(F51_0 (lA g_TStored v0)).isSome=true) (.ro 43 ((gt (F51_0 (lA g_TStored v0))).length) false (enR c_TStored (gt (F51_0 (lA g_TStored v0)))))
 | _,_=>.fail
theorem ok51_0:FnOk Try.prog 51 (genC body51_0):=by
 refine gen_fn body51_0 (rs:=[.tmp 2]) Try.func51 (by kernel_rfl) rfl rfl ?_
 intro l s ob v ns hb hob
 rcases hb with ⟨hb,rfl⟩|hb
 ·unfold body51_0 at hb
  split at hb
  ·rename_i v0
   injection hb with q1 q2;subst q1 q2
   obtain ⟨hk0_0,hob⟩:=hob
   obtain ⟨r,H⟩:=Option.isSome_iff_exists.1 hob
   rw [H,gt_some]
   have hw0:=lK_wk (fun r h=>w_TStored h) hk0_0
   generalize lA g_TStored v0=p0 at H hw0
   refine ⟨[.ro 43 p0.length false (enR c_TStored p0)],.ro 43 r.length false (enR c_TStored r),[],(fun E vs F=>FR_wk1 hw0.1 F (fun vs F=>F)),by simp only [ren],trivial,?_⟩
   rw [Try.ntmps51]
   simp only [List.length_cons,List.length_nil,Nat.reduceAdd,Nat.reduceSub,List.replicate_succ,List.replicate_zero,List.cons_append,List.nil_append]
   unfold F51_0 at H
   try dsimp only at H
   refine sq ctNo_ok ?_
   simp only [go_sem]
   refine sq ctNo_ok ?_
   simp only [go_sem]
   refine seqM ?_
   refine sq ctNo_ok ?_
   simp only [go_sem]
   refine blkM ?_
   refine loop_den (fun s:(List TStored) × Int=>(.ro 43 p0.length false (enR c_TStored p0)::.top::.top::.sl 0 43 0 s.1.length false::.int .i64 s.2::tp 27 [])) (fun s=>[.row 73 43 s.1.length (enR c_TStored s.1)]) (fun e:List TStored=>(.top::.top::.top::.sl 0 43 0 e.length false::tp 28 [])) (fun e=>[.row 73 43 e.length (enR c_TStored e)]) H ?_ (fun s o H hn1_1 hn2_1=>?_) (fun w1_3 H=>?_)
   ·refine SubF_of ⟨[none],?_,?_,by rfl,by rfl⟩
    ·simp [CvL,Cv,tp]
    ·exact ⟨CvB_none,trivial⟩
   ·obtain ⟨v1_1,v1_2⟩:=s
    unfold F51_0_L1 at H
    try dsimp only at H ⊢
    try simp only [tp]
    refine seqM ?_
    refine sq ctNo_ok ?_
    simp only [go_sem]
    repeat ((with_reducible refine And.intro ?_ ?_);focus exact an0)
    refine condM' rfl trivial (fun hc=>?_) (fun hc=>?_)
    ·replace H:=cond_f hc H
     refine rg ctNo_ok ?_
     simp only [go_sem]
     refine ⟨_,(Option.some.inj H).symm,?_⟩
     refine SubF_of ⟨[some 0],?_,?_,by rfl,by rfl⟩
     ·simp [CvL,Cv,getM]
     ·exact ⟨CvB_row nr_TStored cl (fun _ _ _ _=>rfl),trivial⟩
    replace H:=cond_t hc H
    refine rg ctNo_ok ?_
    simp only [go_sem]
    refine seqM ?_
    refine blkM ?_
    obtain ⟨f1,H⟩:=need_some.1 H
    replace f1:=inb_iff.1 f1
    obtain ⟨f2,H⟩:=need_some.1 H
    replace f2:=inb_iff.1 f2
    obtain ⟨f3,H⟩:=need_some.1 H
    replace f3:=inb_iff.1 f3
    obtain ⟨r4,e5,H⟩:=bsi H
    obtain ⟨f6,H⟩:=need_some.1 H
    replace f6:=capb_iff.1 f6
    refine draw_rule shT_ok ct51_0t0_ok 2 (by kernel_rfl) (by kernel_rfl) ?_
    intro an han
    simp only [d_nil,d_cons,nxtD,xrD,xoD,roEq,minL,List.append_nil,refsOp,refs,refsL,mask,maskF,place,placeF,okLog,pairOk,hit,inL,slotsF,ren,renL,rnN,nrH,nrB,List.replicate_zero,List.replicate_succ,Nat.sub_self,Nat.add_zero,Nat.zero_add,Nat.reduceSub,Nat.lt_add_one,go_sem,Nat.reduceLeDiff,Nat.reduceLT,Nat.reduceAdd,Nat.reduceSub,Nat.reduceBEq,reduceCtorEq,ct51_0t0_17,body17_0,f1,e5,f6]
    repeat ((with_reducible refine And.intro ?_ ?_);focus exact an1)
    refine rg ctNo_ok ?_
    simp only [go_sem]
    refine ⟨_,(Option.some.inj H).symm,?_⟩
    refine SubF_of ⟨[some 2],?_,?_,by rfl,by rfl⟩
    ·simp [CvL,Cv,getM]
    ·exact ⟨CvB_row nr_TStored cl (app_row (f:=c_TStored) v1_1 [(TStored.mk ((gd p0 v1_2.toNat).Cat) ((gd p0 v1_2.toNat).At) (TFrame.mk (THeader.mk r4.Head.Kind r4.Head.Sub r4.Head.ToDs r4.Head.FromDs r4.Head.More r4.Head.Retry r4.Head.Sleep r4.Head.MoreData r4.Head.Protected r4.Head.Duration (A6u8.mk r4.Head.A1.x0 r4.Head.A1.x1 r4.Head.A1.x2 r4.Head.A1.x3 r4.Head.A1.x4 r4.Head.A1.x5) (A6u8.mk r4.Head.A2.x0 r4.Head.A2.x1 r4.Head.A2.x2 r4.Head.A2.x3 r4.Head.A2.x4 r4.Head.A2.x5) (A6u8.mk r4.Head.A3.x0 r4.Head.A3.x1 r4.Head.A3.x2 r4.Head.A3.x3 r4.Head.A3.x4 r4.Head.A3.x5) (A6u8.mk r4.Head.A4.x0 r4.Head.A4.x1 r4.Head.A4.x2 r4.Head.A4.x3 r4.Head.A4.x4 r4.Head.A4.x5) r4.Head.Seq r4.Head.Frag r4.Head.Tid r4.Head.Ack r4.Head.Amsdu r4.Head.Eosp) r4.Body))] (fun _ _ _ _=>rfl) (lit_row (f:=c_TStored) [(TStored.mk ((gd p0 v1_2.toNat).Cat) ((gd p0 v1_2.toNat).At) (TFrame.mk (THeader.mk r4.Head.Kind r4.Head.Sub r4.Head.ToDs r4.Head.FromDs r4.Head.More r4.Head.Retry r4.Head.Sleep r4.Head.MoreData r4.Head.Protected r4.Head.Duration (A6u8.mk r4.Head.A1.x0 r4.Head.A1.x1 r4.Head.A1.x2 r4.Head.A1.x3 r4.Head.A1.x4 r4.Head.A1.x5) (A6u8.mk r4.Head.A2.x0 r4.Head.A2.x1 r4.Head.A2.x2 r4.Head.A2.x3 r4.Head.A2.x4 r4.Head.A2.x5) (A6u8.mk r4.Head.A3.x0 r4.Head.A3.x1 r4.Head.A3.x2 r4.Head.A3.x3 r4.Head.A3.x4 r4.Head.A3.x5) (A6u8.mk r4.Head.A4.x0 r4.Head.A4.x1 r4.Head.A4.x2 r4.Head.A4.x3 r4.Head.A4.x4 r4.Head.A4.x5) r4.Head.Seq r4.Head.Frag r4.Head.Tid r4.Head.Ack r4.Head.Amsdu r4.Head.Eosp) r4.Body))] (fun _ _=>rfl) rfl)),trivial⟩
   ·try dsimp only at H ⊢
    try simp only [tp]
    try simp only [m_normal]
    refine sq ctNo_ok ?_
    simp only [go_sem]
    refine rg ctNo_ok ?_
    simp only [go_sem]
    obtain rfl:=Option.some.inj H
    refine ⟨[0],?_,?_,[],?_,?_,rfl⟩
    ·simp only [go_sem]
     try exact at0
    ·simp only [go_sem]
     try exact at0
    ·simp only [go_sem]
     exact (ro_row (by first|rfl|simp) (fun _ _ _ _=>rfl))
    ·simp only [go_sem,CvH]
  ·cases hb
 ·unfold body51_0 at hb
  split at hb<;>cases hb
noncomputable def ct28t0:Ct:=tab [(51,genC body51)]
theorem ct28t0_ok:CtOk Try.prog ct28t0:=tab_cons ok51 <| tab_nil
theorem ct28t0_51 (l:List AV) (h:List ABlk):ct28t0 51 l h=genC body51 l h:=rfl
noncomputable def ct28t1:Ct:=tab [(51,genC body51_0)]
theorem ct28t1_ok:CtOk Try.prog ct28t1:=tab_cons ok51_0 <| tab_nil
theorem ct28t1_51 (l:List AV) (h:List ABlk):ct28t1 51 l h=genC body51_0 l h:=rfl
noncomputable def F28_L1 (p0:TBuffer) (v1_1:Int) (v1_2:List TSleeper):Option (Lp (Int × (List TSleeper)) ((List TSleeper) ⊕ (TBuffer))) :=
 bif (bLt v1_1 (p0.List.length:Nat)) then (need (inb v1_1 p0.List.length) <| (F51_0 ((gd p0.List v1_1.toNat).Held)).bind fun r4=>need (capb 40 (v1_2.length+1)) <| some (.next (wr .i64 (v1_1+1),(v1_2 ++ [(TSleeper.mk ((gd p0.List v1_1.toNat).Aid) ((gd p0.List v1_1.toNat).Asleep) r4)])))) else (some (.done (.inl v1_2)))
noncomputable def F28 (p0:TBuffer):Option (TBuffer) :=
 (F51 p0.Group).bind fun r1=>lp (loopD (fun s=>F28_L1 p0 s.1 s.2) (0,[])) (fun w1_3=>some (TBuffer.mk p0.Limit p0.Stay w1_3 r1)) some
noncomputable def body28:List AV->Nat->AR
 | [v0],s=>.heap (aK 4 k_TBuffer v0/\(F28 (g_TBuffer (aL v0))).isSome=true) (.agg [.int .i64 ((gt (F28 (g_TBuffer (aL v0)))).Limit),.int .i64 ((gt (F28 (g_TBuffer (aL v0)))).Stay),.sl s 3 0 (((gt (F28 (g_TBuffer (aL v0)))).List).length) false,.sl (s+1) 43 0 (((gt (F28 (g_TBuffer (aL v0)))).Group).length) false]) [.row 71 3 (((gt (F28 (g_TBuffer (aL v0)))).List).length) (enR c_TSleeper ((gt (F28 (g_TBuffer (aL v0)))).List)),.row 73 43 (((gt (F28 (g_TBuffer (aL v0)))).Group).length) (enR c_TStored ((gt (F28 (g_TBuffer (aL v0)))).Group))]
 | _,_=>.fail
theorem ok28:FnOk Try.prog 28 (genC body28):=by
 refine gen_fn body28 (rs:=[.cell 2 52]) Try.func28 (by kernel_rfl) rfl rfl ?_
 intro l s ob v ns hb hob
 rcases hb with ⟨hb,rfl⟩|hb
 ·unfold body28 at hb
  split at hb<;>cases hb
 ·unfold body28 at hb
  split at hb
  ·rename_i v0
   injection hb with q1 q2 q3;subst q1 q2 q3
   obtain ⟨hk0_0,hob⟩:=hob
   obtain ⟨r,H⟩:=Option.isSome_iff_exists.1 hob
   rw [H,gt_some]
   have hw0:=wA_TBuffer hk0_0
   generalize g_TBuffer (aL v0)=p0 at H hw0
   refine ⟨[.agg [.int .i64 p0.Limit,.int .i64 p0.Stay,.ro 3 p0.List.length false (enR c_TSleeper p0.List),.ro 43 p0.Group.length false (enR c_TStored p0.Group)]],.agg [.int .i64 r.Limit,.int .i64 r.Stay,.sl 0 3 0 r.List.length false,.sl 1 43 0 r.Group.length false],[.row 71 3 r.List.length (enR c_TSleeper r.List),.row 73 43 r.Group.length (enR c_TStored r.Group)],(fun E vs F=>FR_wk1 hw0.1 F (fun vs F=>F)),by simp only [ren,renL,rnN_0,rnN_s,Nat.zero_add],⟨RenB_row nr_TSleeper,RenB_row nr_TStored,trivial⟩,?_⟩
   rw [Try.ntmps28]
   simp only [List.length_cons,List.length_nil,Nat.reduceAdd,Nat.reduceSub,List.replicate_succ,List.replicate_zero,List.cons_append,List.nil_append]
   unfold F28 at H
   try dsimp only at H
   refine sq ctNo_ok ?_
   simp only [go_sem]
   refine seqM ?_
   obtain ⟨r1,e2,H⟩:=bsi H
   refine draw_rule shT_ok ct28t0_ok 2 (by kernel_rfl) (by kernel_rfl) ?_
   intro an han
   simp only [d_nil,d_cons,nxtD,xrD,xoD,roEq,minL,List.append_nil,refsOp,refs,refsL,mask,maskF,place,placeF,okLog,pairOk,hit,inL,slotsF,ren,rnN,nrH,nrB,nrL,nr,List.replicate_zero,List.replicate_succ,Nat.sub_self,Nat.add_zero,Nat.zero_add,Nat.reduceSub,Nat.lt_add_one,go_sem,Nat.reduceLeDiff,Nat.reduceLT,Nat.reduceAdd,Nat.reduceSub,Nat.reduceBEq,ct28t0_51,body51,e2]
   repeat ((with_reducible refine And.intro ?_ ?_);focus exact an2)
   refine seqM ?_
   refine sq ctNo_ok ?_
   simp only [go_sem]
   refine blkM ?_
   refine loop_den (fun s:Int × (List TSleeper)=>(.top::.ptr 0 0 0 0::.ptr 1 0 0 0::.ptr 3 0 0 0::.int .i64 s.1::tp 35 [])) (fun s=>[.lit 52 [.int .i64 p0.Limit,.int .i64 p0.Stay,.ro 3 p0.List.length false (enR c_TSleeper p0.List),.ro 43 p0.Group.length false (enR c_TStored p0.Group)],.lit 52 [.int .i64 0,.int .i64 0,.ro 0 0 true (fun _ _=>.top),.ro 0 0 true (fun _ _=>.top)],.row 73 43 r1.length (enR c_TStored r1),.lit 52 [.int .i64 p0.Limit,.int .i64 p0.Stay,.sl 4 3 0 s.2.length false,.sl 2 43 0 r1.length false],.row 71 3 s.2.length (enR c_TSleeper s.2)]) (fun e:List TSleeper=>(.top::.top::.ptr 1 0 0 0::.ptr 3 0 0 0::tp 36 [])) (fun e=>[.dead,.lit 52 [.int .i64 0,.int .i64 0,.ro 0 0 true (fun _ _=>.top),.ro 0 0 true (fun _ _=>.top)],.row 73 43 r1.length (enR c_TStored r1),.lit 52 [.int .i64 p0.Limit,.int .i64 p0.Stay,.sl 4 3 0 e.length false,.sl 2 43 0 r1.length false],.row 71 3 e.length (enR c_TSleeper e)]) H ?_ (fun s o H hn1_1 hn2_1=>?_) (fun w1_3 H=>?_)
   ·refine SubF_of ⟨[some 0,some 1,some 2,some 3,none],?_,?_,by rfl,by rfl⟩
    ·simp [CvL,Cv,getM,tp]
    ·exact ⟨cv,cv,(CvB_same nfA),cv,CvB_none,trivial⟩
   ·obtain ⟨v1_1,v1_2⟩:=s
    unfold F28_L1 at H
    try dsimp only at H ⊢
    try simp only [tp]
    refine seqM ?_
    refine sq ctNo_ok ?_
    simp only [go_sem,Nat.reduceLeDiff,Nat.reduceLT,Nat.reduceAdd]
    repeat ((with_reducible refine And.intro ?_ ?_);focus exact an0)
    refine condM' rfl trivial (fun hc=>?_) (fun hc=>?_)
    ·replace H:=cond_f hc H
     refine rg ctNo_ok ?_
     simp only [go_sem]
     refine ⟨_,(Option.some.inj H).symm,?_⟩
     refine SubF_of ⟨[some 0,some 1,some 2,some 3,some 4],?_,?_,by rfl,by rfl⟩
     ·simp [CvL,Cv,getM]
     ·exact ⟨CvB_dead,cv,(CvB_same nfA),cv,CvB_row nr_TSleeper cl (fun _ _ _ _=>rfl),trivial⟩
    replace H:=cond_t hc H
    refine rg ctNo_ok ?_
    simp only [go_sem]
    refine seqM ?_
    refine blkM ?_
    refine seqM ?_
    obtain ⟨f3,H⟩:=need_some.1 H
    replace f3:=inb_iff.1 f3
    refine rg ctNo_ok ?_
    simp only [go_sem,Nat.reduceLeDiff,Nat.reduceLT,Nat.reduceAdd,f3]
    repeat ((with_reducible refine And.intro ?_ ?_);focus exact an6)
    obtain ⟨r4,e5,H⟩:=bsi H
    obtain ⟨f6,H⟩:=need_some.1 H
    replace f6:=capb_iff.1 f6
    refine draw_rule shT_ok ct28t1_ok 2 (by kernel_rfl) (by kernel_rfl) ?_
    intro an han
    simp only [d_nil,d_cons,nxtD,xrD,xoD,roEq,minL,List.append_nil,refsOp,refs,refsL,mask,maskF,place,placeF,okLog,pairOk,hit,inL,slotsF,ren,rnN,nrH,nrB,nrL,nr,List.replicate_zero,List.replicate_succ,Nat.sub_self,Nat.add_zero,Nat.zero_add,Nat.reduceSub,Nat.lt_add_one,go_sem,Nat.reduceLeDiff,Nat.reduceLT,Nat.reduceAdd,Nat.reduceSub,Nat.reduceBEq,ct28t1_51,body51_0,e5,f6]
    repeat ((with_reducible refine And.intro ?_ ?_);focus exact an1)
    refine rg ctNo_ok ?_
    simp only [go_sem]
    refine ⟨_,(Option.some.inj H).symm,?_⟩
    refine SubF_of ⟨[some 0,some 1,some 2,some 3,some 7],?_,?_,by rfl,by rfl⟩
    ·simp [CvL,Cv,getM]
    ·exact ⟨cv,cv,(CvB_same nfA),cv,CvB_row nr_TSleeper cl (app_row (f:=c_TSleeper) v1_2 [(TSleeper.mk ((gd p0.List v1_1.toNat).Aid) ((gd p0.List v1_1.toNat).Asleep) r4)] (fun _ _ _ _=>rfl) (lit_row (f:=c_TSleeper) [(TSleeper.mk ((gd p0.List v1_1.toNat).Aid) ((gd p0.List v1_1.toNat).Asleep) r4)] (fun _ _=>rfl) rfl)),trivial⟩
   ·try dsimp only at H ⊢
    try simp only [tp]
    try simp only [m_normal]
    refine sq ctNo_ok ?_
    simp only [go_sem,Nat.reduceLT,Nat.reduceAdd]
    repeat ((with_reducible refine And.intro ?_ ?_);focus exact an6)
    refine rg ctNo_ok ?_
    simp only [go_sem,Nat.reduceLT,Nat.reduceAdd]
    obtain rfl:=Option.some.inj H
    refine ⟨[],?_,?_,[some 4,some 2],?_,?_,by rfl⟩
    ·simp only [go_sem]
    ·simp only [go_sem]
    ·simp [fzV,fzL,inL,Cv,CvL,getM]
     all_goals first|exact cl|exact cl
    ·simp only [go_sem,CvH]
     exact ⟨CvB_row nr_TSleeper cl (fun _ _ _ _=>rfl),CvB_row nr_TStored cl (fun _ _ _ _=>rfl)⟩
  ·cases hb
noncomputable def F28f (gi:Nat) (p0:TBuffer):Option (TBuffer) :=
 (F51 p0.Group).bind fun r1=>lp (loopD (fun s=>F28_L1 p0 s.1 s.2) (0,[])) (fun w1_3=>need (bLt (gi:Int) (w1_3.length:Nat)) <| some (TBuffer.mk p0.Limit p0.Stay w1_3 r1)) some
noncomputable def body28f (gi:Nat):List AV->Nat->AR
 | [v0],s=>.heap (aK 4 k_TBuffer v0/\(F28f gi (g_TBuffer (aL v0))).isSome=true) (.agg [.int .i64 ((gt (F28f gi (g_TBuffer (aL v0)))).Limit),.int .i64 ((gt (F28f gi (g_TBuffer (aL v0)))).Stay),.sl (s) 3 0 ((gt (F28f gi (g_TBuffer (aL v0)))).List).length false,.sl (s+2) 43 0 ((gt (F28f gi (g_TBuffer (aL v0)))).Group).length false]) [.row 71 3 ((gt (F28f gi (g_TBuffer (aL v0)))).List).length (upc (enR c_TSleeper ((gt (F28f gi (g_TBuffer (aL v0)))).List)) gi 2 [.sl (s+1) 43 0 ((gd ((gt (F28f gi (g_TBuffer (aL v0)))).List) gi).Held).length false]),.row 73 43 ((gd ((gt (F28f gi (g_TBuffer (aL v0)))).List) gi).Held).length (enR c_TStored ((gd ((gt (F28f gi (g_TBuffer (aL v0)))).List) gi).Held)),.row 73 43 ((gt (F28f gi (g_TBuffer (aL v0)))).Group).length (enR c_TStored ((gt (F28f gi (g_TBuffer (aL v0)))).Group))]
 | _,_=>.fail
theorem ok28f (gi:Nat):FnOk Try.prog 28 (genC (body28f gi)):=by
 refine gen_fn (body28f gi) (rs:=[.cell 2 52]) Try.func28 (by kernel_rfl) rfl rfl ?_
 intro l s ob v ns hb hob
 rcases hb with ⟨hb,rfl⟩|hb
 ·unfold body28f at hb
  split at hb<;>cases hb
 ·unfold body28f at hb
  split at hb
  ·rename_i v0
   injection hb with q1 q2 q3;subst q1 q2 q3
   obtain ⟨hk0_0,hob⟩:=hob
   obtain ⟨r,H⟩:=Option.isSome_iff_exists.1 hob
   rw [H,gt_some]
   have hw0:=wA_TBuffer hk0_0
   generalize g_TBuffer (aL v0)=p0 at H hw0
   refine ⟨[.agg [.int .i64 p0.Limit,.int .i64 p0.Stay,.ro 3 p0.List.length false (enR c_TSleeper p0.List),.ro 43 p0.Group.length false (enR c_TStored p0.Group)]],.agg [.int .i64 (r.Limit),.int .i64 (r.Stay),.sl (0) 3 0 (r.List).length false,.sl (2) 43 0 (r.Group).length false],[.row 71 3 (r.List).length (upc (enR c_TSleeper (r.List)) gi 2 [.sl (1) 43 0 ((gd (r.List) gi).Held).length false]),.row 73 43 ((gd (r.List) gi).Held).length (enR c_TStored ((gd (r.List) gi).Held)),.row 73 43 (r.Group).length (enR c_TStored (r.Group))],(fun E vs F=>FR_wk1 hw0.1 F (fun vs F=>F)),by simp only [ren,renL,rnN_0,rnN_s,Nat.reduceAdd],⟨RenB_foc nr_TSleeper (by simp only [rnN_s]),RenB_row nr_TStored,RenB_row nr_TStored,trivial⟩,?_⟩
   rw [Try.ntmps28]
   simp only [List.length_cons,List.length_nil,Nat.reduceAdd,Nat.reduceSub,List.replicate_succ,List.replicate_zero,List.cons_append,List.nil_append]
   unfold F28f at H
   try dsimp only at H
   refine sq ctNo_ok ?_
   simp only [go_sem]
   refine seqM ?_
   obtain ⟨r1,e2,H⟩:=bsi H
   refine draw_rule shT_ok ct28t0_ok 2 (by kernel_rfl) (by kernel_rfl) ?_
   intro an han
   simp only [d_nil,d_cons,nxtD,xrD,xoD,roEq,minL,List.append_nil,refsOp,refs,refsL,mask,maskF,place,placeF,okLog,pairOk,hit,inL,slotsF,ren,rnN,nrH,nrB,nrL,nr,List.replicate_zero,List.replicate_succ,Nat.sub_self,Nat.add_zero,Nat.zero_add,Nat.reduceSub,Nat.lt_add_one,go_sem,Nat.reduceLeDiff,Nat.reduceLT,Nat.reduceAdd,Nat.reduceSub,Nat.reduceBEq,ct28t0_51,body51,e2]
   repeat ((with_reducible refine And.intro ?_ ?_);focus exact an2)
   refine seqM ?_
   refine sq ctNo_ok ?_
   simp only [go_sem]
   refine blkM ?_
   refine loop_den (fun s:Int × (List TSleeper)=>(.top::.ptr 0 0 0 0::.ptr 1 0 0 0::.ptr 3 0 0 0::.int .i64 s.1::tp 35 [])) (fun s=>[.lit 52 [.int .i64 p0.Limit,.int .i64 p0.Stay,.ro 3 p0.List.length false (enR c_TSleeper p0.List),.ro 43 p0.Group.length false (enR c_TStored p0.Group)],.lit 52 [.int .i64 0,.int .i64 0,.ro 0 0 true (fun _ _=>.top),.ro 0 0 true (fun _ _=>.top)],.row 73 43 r1.length (enR c_TStored r1),.lit 52 [.int .i64 p0.Limit,.int .i64 p0.Stay,.sl 4 3 0 s.2.length false,.sl 2 43 0 r1.length false],.row 71 3 s.2.length (bif bLt (gi:Int) (s.2.length:Nat) then upc (enR c_TSleeper s.2) gi 2 [.sl 5 43 0 (gd s.2 gi).Held.length false] else enR c_TSleeper s.2),.row 73 43 (bif bLt (gi:Int) (s.2.length:Nat) then (gd s.2 gi).Held.length else 0) (enR c_TStored (gd s.2 gi).Held)]) (fun e:List TSleeper=>(.top::.top::.ptr 1 0 0 0::.ptr 3 0 0 0::tp 36 [])) (fun e=>[.dead,.lit 52 [.int .i64 0,.int .i64 0,.ro 0 0 true (fun _ _=>.top),.ro 0 0 true (fun _ _=>.top)],.row 73 43 r1.length (enR c_TStored r1),.lit 52 [.int .i64 p0.Limit,.int .i64 p0.Stay,.sl 4 3 0 e.length false,.sl 2 43 0 r1.length false],.row 71 3 e.length (bif bLt (gi:Int) (e.length:Nat) then upc (enR c_TSleeper e) gi 2 [.sl 5 43 0 (gd e gi).Held.length false] else enR c_TSleeper e),.row 73 43 (bif bLt (gi:Int) (e.length:Nat) then (gd e gi).Held.length else 0) (enR c_TStored (gd e gi).Held)]) H ?_ (fun s o H hn1_1 hn2_1=>?_) (fun w1_3 H=>?_)
   ·have h0:bLt (gi:Int) (([]:List TSleeper).length:Nat)=false:=by simp [bLt]
    try dsimp only
    simp only [h0,cond_false]
    refine SubF_of ⟨[some 0,some 1,some 2,some 3,none,none],?_,?_,by rfl,by rfl⟩
    ·simp [CvL,Cv,getM,tp]
    ·exact ⟨cv,cv,(CvB_same nfA),cv,CvB_none,(by simp only [CvB]),trivial⟩
   ·obtain ⟨v1_1,v1_2⟩:=s
    unfold F28_L1 at H
    try dsimp only at H ⊢
    try simp only [tp]
    refine seqM ?_
    refine sq ctNo_ok ?_
    simp only [go_sem,Nat.reduceLeDiff,Nat.reduceLT,Nat.reduceAdd]
    repeat ((with_reducible refine And.intro ?_ ?_);focus exact an0)
    refine condM' rfl trivial (fun hc=>?_) (fun hc=>?_)
    ·replace H:=cond_f hc H
     refine rg ctNo_ok ?_
     simp only [go_sem]
     refine ⟨_,(Option.some.inj H).symm,?_⟩
     cases hgi:bLt (gi:Int) (v1_2.length:Nat)
     ·try dsimp only
      simp only [cond_false]
      refine SubF_of ⟨[some 0,some 1,some 2,some 3,some 4,some 5],?_,?_,by rfl,by rfl⟩
      ·simp [CvL,Cv,getM]
      ·exact ⟨CvB_dead,cv,(CvB_same nfA),cv,CvB_row nr_TSleeper cl (fun _ _ _ _=>rfl),CvB_z,trivial⟩
     ·try dsimp only
      simp only [cond_true]
      refine SubF_of ⟨[some 0,some 1,some 2,some 3,some 4,some 5],?_,?_,by rfl,by rfl⟩
      ·simp [CvL,Cv,getM]
      ·exact ⟨CvB_dead,cv,(CvB_same nfA),cv,CvB_focI nr_TSleeper (by simp [getM]) rfl rfl,CvB_row nr_TStored rfl (fun _ _ _ _=>rfl),trivial⟩
    replace H:=cond_t hc H
    refine rg ctNo_ok ?_
    simp only [go_sem]
    refine seqM ?_
    refine blkM ?_
    refine seqM ?_
    rcases Nat.lt_trichotomy v1_2.length gi with hgi|hgi|hgi
    ·have hb:bLt (gi:Int) (v1_2.length:Nat)=false:=by simp only [bLt,decide_eq_false_iff_not];omega
     simp only [hb,cond_false]
     obtain ⟨f3,H⟩:=need_some.1 H
     replace f3:=inb_iff.1 f3
     refine rg ctNo_ok ?_
     simp only [go_sem,Nat.reduceLeDiff,Nat.reduceLT,Nat.reduceAdd,f3]
     repeat ((with_reducible refine And.intro ?_ ?_);focus exact an6)
     obtain ⟨r4,e5,H⟩:=bsi H
     have hlen:((v1_2 ++ [(TSleeper.mk ((gd p0.List v1_1.toNat).Aid) ((gd p0.List v1_1.toNat).Asleep) r4)]).length)=v1_2.length+1:=by simp
     have hb2:bLt (gi:Int) ((v1_2 ++ [(TSleeper.mk ((gd p0.List v1_1.toNat).Aid) ((gd p0.List v1_1.toNat).Asleep) r4)]).length:Nat)=false:=by rw [hlen];simp only [bLt,decide_eq_false_iff_not];omega
     obtain ⟨f6,H⟩:=need_some.1 H
     replace f6:=capb_iff.1 f6
     refine draw_rule shT_ok ct28t1_ok 2 (by kernel_rfl) (by kernel_rfl) ?_
     intro an han
     simp only [d_nil,d_cons,nxtD,xrD,xoD,roEq,minL,List.append_nil,refsOp,refs,refsL,mask,maskF,place,placeF,okLog,pairOk,hit,inL,slotsF,ren,rnN,nrH,nrB,nrL,nr,List.replicate_zero,List.replicate_succ,Nat.sub_self,Nat.add_zero,Nat.zero_add,Nat.reduceSub,Nat.lt_add_one,go_sem,Nat.reduceLeDiff,Nat.reduceLT,Nat.reduceAdd,Nat.reduceSub,Nat.reduceBEq,ct28t1_51,body51_0,e5,f6]
     repeat ((with_reducible refine And.intro ?_ ?_);focus exact an5)
     refine rg ctNo_ok ?_
     simp only [go_sem]
     refine ⟨_,(Option.some.inj H).symm,?_⟩
     try dsimp only
     simp only [hb2,cond_false]
     refine SubF_of ⟨[some 0,some 1,some 2,some 3,some 8,some 5],?_,?_,by rfl,by rfl⟩
     ·simp [CvL,Cv,getM]
     ·exact ⟨cv,cv,(CvB_same nfA),cv,CvB_row nr_TSleeper cl (app_row (f:=c_TSleeper) v1_2 [(TSleeper.mk ((gd p0.List v1_1.toNat).Aid) ((gd p0.List v1_1.toNat).Asleep) r4)] (fun _ _ _ _=>rfl) (lit_row (f:=c_TSleeper) [(TSleeper.mk ((gd p0.List v1_1.toNat).Aid) ((gd p0.List v1_1.toNat).Asleep) r4)] (fun _ _=>rfl) rfl)),CvB_z,trivial⟩
    ·have hb:bLt (gi:Int) (v1_2.length:Nat)=false:=by simp only [bLt,decide_eq_false_iff_not];omega
     simp only [hb,cond_false]
     obtain ⟨f3,H⟩:=need_some.1 H
     replace f3:=inb_iff.1 f3
     refine rg ctNo_ok ?_
     simp only [go_sem,Nat.reduceLeDiff,Nat.reduceLT,Nat.reduceAdd,f3]
     repeat ((with_reducible refine And.intro ?_ ?_);focus exact an6)
     obtain ⟨r4,e5,H⟩:=bsi H
     have hlen:((v1_2 ++ [(TSleeper.mk ((gd p0.List v1_1.toNat).Aid) ((gd p0.List v1_1.toNat).Asleep) r4)]).length)=v1_2.length+1:=by simp
     have hb2:bLt (gi:Int) ((v1_2 ++ [(TSleeper.mk ((gd p0.List v1_1.toNat).Aid) ((gd p0.List v1_1.toNat).Asleep) r4)]).length:Nat)=true:=by rw [hlen];simp only [bLt,decide_eq_true_eq];omega
     have hgs:gd (v1_2 ++ [(TSleeper.mk ((gd p0.List v1_1.toNat).Aid) ((gd p0.List v1_1.toNat).Asleep) r4)]) v1_2.length=(TSleeper.mk ((gd p0.List v1_1.toNat).Aid) ((gd p0.List v1_1.toNat).Asleep) r4):=by rw [gd_app_ge (Nat.le_refl _),Nat.sub_self];rfl
     have Hk:=H
     subst hgi
     have H:=Hk
     have e5b:F51 (gd p0.List v1_1.toNat).Held=some r4:=by have h:=e5;unfold F51_0 at h;unfold F51;exact h
     obtain ⟨f6,H⟩:=need_some.1 H
     replace f6:=capb_iff.1 f6
     refine draw_rule shT_ok ct28t0_ok 3 (by kernel_rfl) (by kernel_rfl) ?_
     intro an han
     simp only [d_nil,d_cons,nxtD,xrD,xoD,roEq,minL,List.append_nil,refsOp,refs,refsL,mask,maskF,place,placeF,okLog,pairOk,hit,inL,slotsF,ren,rnN,nrH,nrB,nrL,nr,List.replicate_zero,List.replicate_succ,Nat.sub_self,Nat.add_zero,Nat.zero_add,Nat.reduceSub,Nat.lt_add_one,go_sem,Nat.reduceLeDiff,Nat.reduceLT,Nat.reduceAdd,Nat.reduceSub,Nat.reduceBEq,ct28t0_51,body51,e5b,f6]
     repeat ((with_reducible refine And.intro ?_ ?_);focus exact an5)
     refine rg ctNo_ok ?_
     simp only [go_sem]
     refine ⟨_,(Option.some.inj H).symm,?_⟩
     try dsimp only
     simp only [hb2,cond_true,hgs]
     refine SubF_of ⟨[some 0,some 1,some 2,some 3,some 9,some 7],?_,?_,by rfl,by rfl⟩
     ·simp [CvL,Cv,getM]
     ·exact ⟨cv,cv,(CvB_same nfA),cv,CvB_focA nr_TSleeper rfl (by simp [getM]) rfl rfl (fun y hy hne=>match y,hy with|0,_=>rfl|1,_=>rfl|2,_=>absurd rfl hne|(y+3),h=>absurd h nlt),CvB_row nr_TStored rfl (fun _ _ _ _=>rfl),trivial⟩
    ·have hb:bLt (gi:Int) (v1_2.length:Nat)=true:=by simp only [bLt,decide_eq_true_eq];omega
     simp only [hb,cond_true]
     obtain ⟨f3,H⟩:=need_some.1 H
     replace f3:=inb_iff.1 f3
     refine rg ctNo_ok ?_
     simp only [go_sem,Nat.reduceLeDiff,Nat.reduceLT,Nat.reduceAdd,f3]
     repeat ((with_reducible refine And.intro ?_ ?_);focus exact an6)
     obtain ⟨r4,e5,H⟩:=bsi H
     have hlen:((v1_2 ++ [(TSleeper.mk ((gd p0.List v1_1.toNat).Aid) ((gd p0.List v1_1.toNat).Asleep) r4)]).length)=v1_2.length+1:=by simp
     have hb2:bLt (gi:Int) ((v1_2 ++ [(TSleeper.mk ((gd p0.List v1_1.toNat).Aid) ((gd p0.List v1_1.toNat).Asleep) r4)]).length:Nat)=true:=by rw [hlen];simp only [bLt,decide_eq_true_eq];omega
     have hgs:gd (v1_2 ++ [(TSleeper.mk ((gd p0.List v1_1.toNat).Aid) ((gd p0.List v1_1.toNat).Asleep) r4)]) gi=gd v1_2 gi:=gd_app_lt (by omega)
     obtain ⟨f6,H⟩:=need_some.1 H
     replace f6:=capb_iff.1 f6
     refine draw_rule shT_ok ct28t1_ok 2 (by kernel_rfl) (by kernel_rfl) ?_
     intro an han
     simp only [d_nil,d_cons,nxtD,xrD,xoD,roEq,minL,List.append_nil,refsOp,refs,refsL,mask,maskF,place,placeF,okLog,pairOk,hit,inL,slotsF,ren,rnN,nrH,nrB,nrL,nr,List.replicate_zero,List.replicate_succ,Nat.sub_self,Nat.add_zero,Nat.zero_add,Nat.reduceSub,Nat.lt_add_one,go_sem,Nat.reduceLeDiff,Nat.reduceLT,Nat.reduceAdd,Nat.reduceSub,Nat.reduceBEq,ct28t1_51,body51_0,e5,f6]
     repeat ((with_reducible refine And.intro ?_ ?_);focus exact an5)
     refine rg ctNo_ok ?_
     simp only [go_sem]
     refine ⟨_,(Option.some.inj H).symm,?_⟩
     try dsimp only
     simp only [hb2,cond_true,hgs]
     refine SubF_of ⟨[some 0,some 1,some 2,some 3,some 8,some 5],?_,?_,by rfl,by rfl⟩
     ·simp [CvL,Cv,getM]
     ·exact ⟨cv,cv,(CvB_same nfA),cv,CvB_focB nr_TSleeper (by omega) rfl (by simp [getM]) rfl (fun y hy=>match y,hy with|0,_=>rfl|1,_=>rfl|2,_=>rfl|(y+3),h=>absurd h nlt),CvB_row nr_TStored rfl (fun _ _ _ _=>rfl),trivial⟩
   ·obtain ⟨fgi,H⟩:=need_some.1 H
    try dsimp only at H ⊢
    simp only [fgi,cond_true]
    try simp only [tp]
    try simp only [m_normal]
    refine sq ctNo_ok ?_
    simp only [go_sem,Nat.reduceLT,Nat.reduceAdd]
    repeat ((with_reducible refine And.intro ?_ ?_);focus exact an6)
    refine rg ctNo_ok ?_
    simp only [go_sem,Nat.reduceLT,Nat.reduceAdd]
    obtain rfl:=Option.some.inj H
    refine ⟨[],?_,?_,[some 4,some 5,some 2],?_,?_,by rfl⟩
    ·simp only [go_sem]
    ·simp only [go_sem]
    ·simp [fzV,fzL,inL,Cv,CvL,getM]
     all_goals first|exact cl|exact cl
    ·simp only [go_sem,CvH]
     exact ⟨CvB_focI nr_TSleeper (by simp [getM]) rfl rfl,CvB_row nr_TStored rfl (fun _ _ _ _=>rfl),CvB_row nr_TStored cl (fun _ _ _ _=>rfl)⟩
  ·cases hb
end Go.Proofs.Ytnclkplbeenmdaa
