/-
  What TriggerKeeps reaches.
-/
import Derived.Test.YtnclkplbeenmdaaY6p3
namespace Go.Proofs.Ytnclkplbeenmdaa
open Go.Am
set_option linter.unusedVariables false
set_option linter.unusedSimpArgs false
noncomputable def ct6t0:Ct:=tab [(32,pureC body32)]
theorem ct6t0_ok:CtOk Try.prog ct6t0:=tab_cons ok32 <| tab_nil
theorem ct6t0_32 (l:List AV) (h:List ABlk):ct6t0 32 l h=pureC body32 l h:=rfl
noncomputable def ct6t1:Ct:=tab [(24,pureC body24)]
theorem ct6t1_ok:CtOk Try.prog ct6t1:=tab_cons ok24 <| tab_nil
theorem ct6t1_24 (l:List AV) (h:List ABlk):ct6t1 24 l h=pureC body24 l h:=rfl
noncomputable def ct6t2:Ct:=tab [(33,pureC body33)]
theorem ct6t2_ok:CtOk Try.prog ct6t2:=tab_cons ok33 <| tab_nil
theorem ct6t2_33 (l:List AV) (h:List ABlk):ct6t2 33 l h=pureC body33 l h:=rfl
noncomputable def ct6t3:Ct:=tab [(34,pureC body34)]
theorem ct6t3_ok:CtOk Try.prog ct6t3:=tab_cons ok34 <| tab_nil
theorem ct6t3_34 (l:List AV) (h:List ABlk):ct6t3 34 l h=pureC body34 l h:=rfl
noncomputable def ct6t4 (gi:Nat):Ct:=tab [(28,genC (body28f gi))]
theorem ct6t4_ok (gi:Nat):CtOk Try.prog (ct6t4 gi):=tab_cons (ok28f gi) <| tab_nil
theorem ct6t4_28 (gi:Nat) (l:List AV) (h:List ABlk):(ct6t4 gi) 28 l h=genC (body28f gi) l h:=rfl
noncomputable def ct6t5:Ct:=tab [(29,edC body29_0)]
theorem ct6t5_ok:CtOk Try.prog ct6t5:=tab_cons ok29_0 <| tab_nil
theorem ct6t5_29 (l:List AV) (h:List ABlk):ct6t5 29 l h=edC body29_0 l h:=rfl
noncomputable def ct6t6:Ct:=tab [(31,pureC body31),(35,pureC body35)]
theorem ct6t6_ok:CtOk Try.prog ct6t6:=tab_cons ok31 <| tab_cons ok35 <| tab_nil
theorem ct6t6_31 (l:List AV) (h:List ABlk):ct6t6 31 l h=pureC body31 l h:=rfl
theorem ct6t6_35 (l:List AV) (h:List ABlk):ct6t6 35 l h=pureC body35 l h:=rfl
noncomputable def ct6t7:Ct:=tab [(36,pureC body36)]
theorem ct6t7_ok:CtOk Try.prog ct6t7:=tab_cons ok36 <| tab_nil
theorem ct6t7_36 (l:List AV) (h:List ABlk):ct6t7 36 l h=pureC body36 l h:=rfl
noncomputable def ct6t8:Ct:=tab [(15,pureC body15)]
theorem ct6t8_ok:CtOk Try.prog ct6t8:=tab_cons ok15 <| tab_nil
theorem ct6t8_15 (l:List AV) (h:List ABlk):ct6t8 15 l h=pureC body15 l h:=rfl
noncomputable def ct6t9:Ct:=tab [(31,pureC body31),(34,pureC body34)]
theorem ct6t9_ok:CtOk Try.prog ct6t9:=tab_cons ok31 <| tab_cons ok34 <| tab_nil
theorem ct6t9_31 (l:List AV) (h:List ABlk):ct6t9 31 l h=pureC body31 l h:=rfl
theorem ct6t9_34 (l:List AV) (h:List ABlk):ct6t9 34 l h=pureC body34 l h:=rfl
noncomputable def F6_L1 (v1_1:List TStored) (v1_2:Int):Option (Lp ((List TStored) × Int) ((List TStored) ⊕ (Bool))) :=
 bif (bLt v1_2 (v1_1.length:Nat)) then (need (inb v1_2 v1_1.length) <| (some [wr .u8 v1_2,7]).bind fun w12=>some (.next ((v1_1.set v1_2.toNat (TStored.mk ((gd v1_1 v1_2.toNat).Cat) ((gd v1_1 v1_2.toNat).At) (TFrame.mk (THeader.mk ((((gd v1_1 v1_2.toNat).Frame).Head).Kind) ((((gd v1_1 v1_2.toNat).Frame).Head).Sub) ((((gd v1_1 v1_2.toNat).Frame).Head).ToDs) ((((gd v1_1 v1_2.toNat).Frame).Head).FromDs) ((((gd v1_1 v1_2.toNat).Frame).Head).More) ((((gd v1_1 v1_2.toNat).Frame).Head).Retry) ((((gd v1_1 v1_2.toNat).Frame).Head).Sleep) ((((gd v1_1 v1_2.toNat).Frame).Head).MoreData) ((((gd v1_1 v1_2.toNat).Frame).Head).Protected) ((((gd v1_1 v1_2.toNat).Frame).Head).Duration) (A6u8.mk (((((gd v1_1 v1_2.toNat).Frame).Head).A1).x0) (((((gd v1_1 v1_2.toNat).Frame).Head).A1).x1) (((((gd v1_1 v1_2.toNat).Frame).Head).A1).x2) (((((gd v1_1 v1_2.toNat).Frame).Head).A1).x3) (((((gd v1_1 v1_2.toNat).Frame).Head).A1).x4) (((((gd v1_1 v1_2.toNat).Frame).Head).A1).x5)) (A6u8.mk (((((gd v1_1 v1_2.toNat).Frame).Head).A2).x0) (((((gd v1_1 v1_2.toNat).Frame).Head).A2).x1) (((((gd v1_1 v1_2.toNat).Frame).Head).A2).x2) (((((gd v1_1 v1_2.toNat).Frame).Head).A2).x3) (((((gd v1_1 v1_2.toNat).Frame).Head).A2).x4) (((((gd v1_1 v1_2.toNat).Frame).Head).A2).x5)) (A6u8.mk (((((gd v1_1 v1_2.toNat).Frame).Head).A3).x0) (((((gd v1_1 v1_2.toNat).Frame).Head).A3).x1) (((((gd v1_1 v1_2.toNat).Frame).Head).A3).x2) (((((gd v1_1 v1_2.toNat).Frame).Head).A3).x3) (((((gd v1_1 v1_2.toNat).Frame).Head).A3).x4) (((((gd v1_1 v1_2.toNat).Frame).Head).A3).x5)) (A6u8.mk (((((gd v1_1 v1_2.toNat).Frame).Head).A4).x0) (((((gd v1_1 v1_2.toNat).Frame).Head).A4).x1) (((((gd v1_1 v1_2.toNat).Frame).Head).A4).x2) (((((gd v1_1 v1_2.toNat).Frame).Head).A4).x3) (((((gd v1_1 v1_2.toNat).Frame).Head).A4).x4) (((((gd v1_1 v1_2.toNat).Frame).Head).A4).x5)) ((((gd v1_1 v1_2.toNat).Frame).Head).Seq) ((((gd v1_1 v1_2.toNat).Frame).Head).Frag) ((((gd v1_1 v1_2.toNat).Frame).Head).Tid) ((((gd v1_1 v1_2.toNat).Frame).Head).Ack) ((((gd v1_1 v1_2.toNat).Frame).Head).Amsdu) ((((gd v1_1 v1_2.toNat).Frame).Head).Eosp)) w12))),wr .i64 (v1_2+1)))) else (some (.done (.inl v1_1)))
noncomputable def F6_L2 (p1:TTriggerPlan) (r1:Bool) (r8:TBuffer) (w1_3:List TStored) (w14:List TSleeper) (r16:TPeriod × TBuffer × Int) (v2_1:List Bool) (v2_2:Int) (v2_3:Int) (v2_4:Int):Option (Lp ((List Bool) × Int × Int × Int) ((List Bool) ⊕ (Bool))) :=
 bif (bLt v2_4 (r16.1.Left.length:Nat)) then (need (inb v2_4 r16.1.Left.length) <| bif (bEq (((gd r16.1.Left v2_4.toNat).Body).length:Nat) 0) then (need (bif (r1 && (bEq (r16.1.Left.length:Nat) 1)) then ((F31 (TBuffer.mk r16.2.1.Limit r16.2.1.Stay r16.2.1.List r16.2.1.Group) (TBuffer.mk r8.Limit r8.Stay w14 r8.Group)).isSome) else true) <| need (bif ((r1 && (bEq (r16.1.Left.length:Nat) 1)) && (gt (F31 (TBuffer.mk r16.2.1.Limit r16.2.1.Stay r16.2.1.List r16.2.1.Group) (TBuffer.mk r8.Limit r8.Stay w14 r8.Group)))) then ((F35 w1_3 p1.Deliver).isSome) else true) <| some (.done (.inr (((r1 && (bEq (r16.1.Left.length:Nat) 1)) && (gt (F31 (TBuffer.mk r16.2.1.Limit r16.2.1.Stay r16.2.1.List r16.2.1.Group) (TBuffer.mk r8.Limit r8.Stay w14 r8.Group)))) && (bEq (gt (F35 w1_3 p1.Deliver)) 0))))) else (need (inb 0 (((gd r16.1.Left v2_4.toNat).Body).length)) <| need (bif (!(bLe (w1_3.length:Nat) (wr .i64 (gd ((gd r16.1.Left v2_4.toNat).Body) 0)))) then inb (wr .i64 (gd ((gd r16.1.Left v2_4.toNat).Body) 0)) 100 else true) <| need (bif (!(bLe (w1_3.length:Nat) (wr .i64 (gd ((gd r16.1.Left v2_4.toNat).Body) 0)))) then inb (wr .i64 (gd ((gd r16.1.Left v2_4.toNat).Body) 0)) v2_1.length else true) <| need (bif (!((bLe (w1_3.length:Nat) (wr .i64 (gd ((gd r16.1.Left v2_4.toNat).Body) 0))) || (gd v2_1 ((wr .i64 (gd ((gd r16.1.Left v2_4.toNat).Body) 0)).toNat)))) then inb (wr .i64 (gd ((gd r16.1.Left v2_4.toNat).Body) 0)) w1_3.length else true) <| need (bif (!(((bLe (w1_3.length:Nat) (wr .i64 (gd ((gd r16.1.Left v2_4.toNat).Body) 0))) || (gd v2_1 ((wr .i64 (gd ((gd r16.1.Left v2_4.toNat).Body) 0)).toNat))) || (bLt v2_2 ((gd w1_3 ((wr .i64 (gd ((gd r16.1.Left v2_4.toNat).Body) 0)).toNat)).Cat)))) then inb (wr .i64 (gd ((gd r16.1.Left v2_4.toNat).Body) 0)) w1_3.length else true) <| need (bif (!((((bLe (w1_3.length:Nat) (wr .i64 (gd ((gd r16.1.Left v2_4.toNat).Body) 0))) || (gd v2_1 ((wr .i64 (gd ((gd r16.1.Left v2_4.toNat).Body) 0)).toNat))) || (bLt v2_2 ((gd w1_3 ((wr .i64 (gd ((gd r16.1.Left v2_4.toNat).Body) 0)).toNat)).Cat))) || ((bEq ((gd w1_3 ((wr .i64 (gd ((gd r16.1.Left v2_4.toNat).Body) 0)).toNat)).Cat) v2_2) && (bLe (wr .i64 (gd ((gd r16.1.Left v2_4.toNat).Body) 0)) v2_3)))) then inb (wr .i64 (gd ((gd r16.1.Left v2_4.toNat).Body) 0)) w1_3.length else true) <| need (bif (!((((bLe (w1_3.length:Nat) (wr .i64 (gd ((gd r16.1.Left v2_4.toNat).Body) 0))) || (gd v2_1 ((wr .i64 (gd ((gd r16.1.Left v2_4.toNat).Body) 0)).toNat))) || (bLt v2_2 ((gd w1_3 ((wr .i64 (gd ((gd r16.1.Left v2_4.toNat).Body) 0)).toNat)).Cat))) || ((bEq ((gd w1_3 ((wr .i64 (gd ((gd r16.1.Left v2_4.toNat).Body) 0)).toNat)).Cat) v2_2) && (bLe (wr .i64 (gd ((gd r16.1.Left v2_4.toNat).Body) 0)) v2_3)))) then ((F36 p1.Deliver ((gd w1_3 ((wr .i64 (gd ((gd r16.1.Left v2_4.toNat).Body) 0)).toNat)).Cat)).isSome) else true) <| bif (((((bLe (w1_3.length:Nat) (wr .i64 (gd ((gd r16.1.Left v2_4.toNat).Body) 0))) || (gd v2_1 ((wr .i64 (gd ((gd r16.1.Left v2_4.toNat).Body) 0)).toNat))) || (bLt v2_2 ((gd w1_3 ((wr .i64 (gd ((gd r16.1.Left v2_4.toNat).Body) 0)).toNat)).Cat))) || ((bEq ((gd w1_3 ((wr .i64 (gd ((gd r16.1.Left v2_4.toNat).Body) 0)).toNat)).Cat) v2_2) && (bLe (wr .i64 (gd ((gd r16.1.Left v2_4.toNat).Body) 0)) v2_3))) || (!(gt (F36 p1.Deliver ((gd w1_3 ((wr .i64 (gd ((gd r16.1.Left v2_4.toNat).Body) 0)).toNat)).Cat))))) then (some (.done (.inr false))) else (need (inb (wr .i64 (gd ((gd r16.1.Left v2_4.toNat).Body) 0)) w1_3.length) <| need (inb (wr .i64 (gd ((gd r16.1.Left v2_4.toNat).Body) 0)) 100) <| need (inb (wr .i64 (gd ((gd r16.1.Left v2_4.toNat).Body) 0)) v2_1.length) <| some (.next ((v2_1.set ((wr .i64 (gd ((gd r16.1.Left v2_4.toNat).Body) 0)).toNat) true),(gd w1_3 ((wr .i64 (gd ((gd r16.1.Left v2_4.toNat).Body) 0)).toNat)).Cat,wr .i64 (gd ((gd r16.1.Left v2_4.toNat).Body) 0),wr .i64 (v2_4+1)))))) else (some (.done (.inl v2_1)))
noncomputable def F6_L3 (r5:Int) (w1_3:List TStored) (r16:TPeriod × TBuffer × Int) (v3_1:List Bool) (v3_2:Int):Option (Lp ((List Bool) × Int) ((Unit) ⊕ (Bool))) :=
 bif (bLt v3_2 (((gd r16.2.1.List r5.toNat).Held).length:Nat)) then (need (inb v3_2 (((gd r16.2.1.List r5.toNat).Held).length)) <| bif (bEq ((((gd ((gd r16.2.1.List r5.toNat).Held) v3_2.toNat).Frame).Body).length:Nat) 0) then (some (.done (.inr false))) else (need (inb v3_2 (((gd r16.2.1.List r5.toNat).Held).length)) <| need (inb 0 ((((gd ((gd r16.2.1.List r5.toNat).Held) v3_2.toNat).Frame).Body).length)) <| need (bif (!(bLe (w1_3.length:Nat) (wr .i64 (gd (((gd ((gd r16.2.1.List r5.toNat).Held) v3_2.toNat).Frame).Body) 0)))) then inb (wr .i64 (gd (((gd ((gd r16.2.1.List r5.toNat).Held) v3_2.toNat).Frame).Body) 0)) 100 else true) <| need (bif (!(bLe (w1_3.length:Nat) (wr .i64 (gd (((gd ((gd r16.2.1.List r5.toNat).Held) v3_2.toNat).Frame).Body) 0)))) then inb (wr .i64 (gd (((gd ((gd r16.2.1.List r5.toNat).Held) v3_2.toNat).Frame).Body) 0)) v3_1.length else true) <| need (bif (!((bLe (w1_3.length:Nat) (wr .i64 (gd (((gd ((gd r16.2.1.List r5.toNat).Held) v3_2.toNat).Frame).Body) 0))) || (gd v3_1 ((wr .i64 (gd (((gd ((gd r16.2.1.List r5.toNat).Held) v3_2.toNat).Frame).Body) 0)).toNat)))) then inb v3_2 (((gd r16.2.1.List r5.toNat).Held).length) else true) <| need (bif (!((bLe (w1_3.length:Nat) (wr .i64 (gd (((gd ((gd r16.2.1.List r5.toNat).Held) v3_2.toNat).Frame).Body) 0))) || (gd v3_1 ((wr .i64 (gd (((gd ((gd r16.2.1.List r5.toNat).Held) v3_2.toNat).Frame).Body) 0)).toNat)))) then inb (wr .i64 (gd (((gd ((gd r16.2.1.List r5.toNat).Held) v3_2.toNat).Frame).Body) 0)) w1_3.length else true) <| need (bif (!((bLe (w1_3.length:Nat) (wr .i64 (gd (((gd ((gd r16.2.1.List r5.toNat).Held) v3_2.toNat).Frame).Body) 0))) || (gd v3_1 ((wr .i64 (gd (((gd ((gd r16.2.1.List r5.toNat).Held) v3_2.toNat).Frame).Body) 0)).toNat)))) then ((F15 (TFrame.mk (THeader.mk ((((gd ((gd r16.2.1.List r5.toNat).Held) v3_2.toNat).Frame).Head).Kind) ((((gd ((gd r16.2.1.List r5.toNat).Held) v3_2.toNat).Frame).Head).Sub) ((((gd ((gd r16.2.1.List r5.toNat).Held) v3_2.toNat).Frame).Head).ToDs) ((((gd ((gd r16.2.1.List r5.toNat).Held) v3_2.toNat).Frame).Head).FromDs) ((((gd ((gd r16.2.1.List r5.toNat).Held) v3_2.toNat).Frame).Head).More) ((((gd ((gd r16.2.1.List r5.toNat).Held) v3_2.toNat).Frame).Head).Retry) ((((gd ((gd r16.2.1.List r5.toNat).Held) v3_2.toNat).Frame).Head).Sleep) ((((gd ((gd r16.2.1.List r5.toNat).Held) v3_2.toNat).Frame).Head).MoreData) ((((gd ((gd r16.2.1.List r5.toNat).Held) v3_2.toNat).Frame).Head).Protected) ((((gd ((gd r16.2.1.List r5.toNat).Held) v3_2.toNat).Frame).Head).Duration) (A6u8.mk (((((gd ((gd r16.2.1.List r5.toNat).Held) v3_2.toNat).Frame).Head).A1).x0) (((((gd ((gd r16.2.1.List r5.toNat).Held) v3_2.toNat).Frame).Head).A1).x1) (((((gd ((gd r16.2.1.List r5.toNat).Held) v3_2.toNat).Frame).Head).A1).x2) (((((gd ((gd r16.2.1.List r5.toNat).Held) v3_2.toNat).Frame).Head).A1).x3) (((((gd ((gd r16.2.1.List r5.toNat).Held) v3_2.toNat).Frame).Head).A1).x4) (((((gd ((gd r16.2.1.List r5.toNat).Held) v3_2.toNat).Frame).Head).A1).x5)) (A6u8.mk (((((gd ((gd r16.2.1.List r5.toNat).Held) v3_2.toNat).Frame).Head).A2).x0) (((((gd ((gd r16.2.1.List r5.toNat).Held) v3_2.toNat).Frame).Head).A2).x1) (((((gd ((gd r16.2.1.List r5.toNat).Held) v3_2.toNat).Frame).Head).A2).x2) (((((gd ((gd r16.2.1.List r5.toNat).Held) v3_2.toNat).Frame).Head).A2).x3) (((((gd ((gd r16.2.1.List r5.toNat).Held) v3_2.toNat).Frame).Head).A2).x4) (((((gd ((gd r16.2.1.List r5.toNat).Held) v3_2.toNat).Frame).Head).A2).x5)) (A6u8.mk (((((gd ((gd r16.2.1.List r5.toNat).Held) v3_2.toNat).Frame).Head).A3).x0) (((((gd ((gd r16.2.1.List r5.toNat).Held) v3_2.toNat).Frame).Head).A3).x1) (((((gd ((gd r16.2.1.List r5.toNat).Held) v3_2.toNat).Frame).Head).A3).x2) (((((gd ((gd r16.2.1.List r5.toNat).Held) v3_2.toNat).Frame).Head).A3).x3) (((((gd ((gd r16.2.1.List r5.toNat).Held) v3_2.toNat).Frame).Head).A3).x4) (((((gd ((gd r16.2.1.List r5.toNat).Held) v3_2.toNat).Frame).Head).A3).x5)) (A6u8.mk (((((gd ((gd r16.2.1.List r5.toNat).Held) v3_2.toNat).Frame).Head).A4).x0) (((((gd ((gd r16.2.1.List r5.toNat).Held) v3_2.toNat).Frame).Head).A4).x1) (((((gd ((gd r16.2.1.List r5.toNat).Held) v3_2.toNat).Frame).Head).A4).x2) (((((gd ((gd r16.2.1.List r5.toNat).Held) v3_2.toNat).Frame).Head).A4).x3) (((((gd ((gd r16.2.1.List r5.toNat).Held) v3_2.toNat).Frame).Head).A4).x4) (((((gd ((gd r16.2.1.List r5.toNat).Held) v3_2.toNat).Frame).Head).A4).x5)) ((((gd ((gd r16.2.1.List r5.toNat).Held) v3_2.toNat).Frame).Head).Seq) ((((gd ((gd r16.2.1.List r5.toNat).Held) v3_2.toNat).Frame).Head).Frag) ((((gd ((gd r16.2.1.List r5.toNat).Held) v3_2.toNat).Frame).Head).Tid) ((((gd ((gd r16.2.1.List r5.toNat).Held) v3_2.toNat).Frame).Head).Ack) ((((gd ((gd r16.2.1.List r5.toNat).Held) v3_2.toNat).Frame).Head).Amsdu) ((((gd ((gd r16.2.1.List r5.toNat).Held) v3_2.toNat).Frame).Head).Eosp)) (((gd ((gd r16.2.1.List r5.toNat).Held) v3_2.toNat).Frame).Body)) (TFrame.mk (THeader.mk ((((gd w1_3 ((wr .i64 (gd (((gd ((gd r16.2.1.List r5.toNat).Held) v3_2.toNat).Frame).Body) 0)).toNat)).Frame).Head).Kind) ((((gd w1_3 ((wr .i64 (gd (((gd ((gd r16.2.1.List r5.toNat).Held) v3_2.toNat).Frame).Body) 0)).toNat)).Frame).Head).Sub) ((((gd w1_3 ((wr .i64 (gd (((gd ((gd r16.2.1.List r5.toNat).Held) v3_2.toNat).Frame).Body) 0)).toNat)).Frame).Head).ToDs) ((((gd w1_3 ((wr .i64 (gd (((gd ((gd r16.2.1.List r5.toNat).Held) v3_2.toNat).Frame).Body) 0)).toNat)).Frame).Head).FromDs) ((((gd w1_3 ((wr .i64 (gd (((gd ((gd r16.2.1.List r5.toNat).Held) v3_2.toNat).Frame).Body) 0)).toNat)).Frame).Head).More) ((((gd w1_3 ((wr .i64 (gd (((gd ((gd r16.2.1.List r5.toNat).Held) v3_2.toNat).Frame).Body) 0)).toNat)).Frame).Head).Retry) ((((gd w1_3 ((wr .i64 (gd (((gd ((gd r16.2.1.List r5.toNat).Held) v3_2.toNat).Frame).Body) 0)).toNat)).Frame).Head).Sleep) ((((gd w1_3 ((wr .i64 (gd (((gd ((gd r16.2.1.List r5.toNat).Held) v3_2.toNat).Frame).Body) 0)).toNat)).Frame).Head).MoreData) ((((gd w1_3 ((wr .i64 (gd (((gd ((gd r16.2.1.List r5.toNat).Held) v3_2.toNat).Frame).Body) 0)).toNat)).Frame).Head).Protected) ((((gd w1_3 ((wr .i64 (gd (((gd ((gd r16.2.1.List r5.toNat).Held) v3_2.toNat).Frame).Body) 0)).toNat)).Frame).Head).Duration) (A6u8.mk (((((gd w1_3 ((wr .i64 (gd (((gd ((gd r16.2.1.List r5.toNat).Held) v3_2.toNat).Frame).Body) 0)).toNat)).Frame).Head).A1).x0) (((((gd w1_3 ((wr .i64 (gd (((gd ((gd r16.2.1.List r5.toNat).Held) v3_2.toNat).Frame).Body) 0)).toNat)).Frame).Head).A1).x1) (((((gd w1_3 ((wr .i64 (gd (((gd ((gd r16.2.1.List r5.toNat).Held) v3_2.toNat).Frame).Body) 0)).toNat)).Frame).Head).A1).x2) (((((gd w1_3 ((wr .i64 (gd (((gd ((gd r16.2.1.List r5.toNat).Held) v3_2.toNat).Frame).Body) 0)).toNat)).Frame).Head).A1).x3) (((((gd w1_3 ((wr .i64 (gd (((gd ((gd r16.2.1.List r5.toNat).Held) v3_2.toNat).Frame).Body) 0)).toNat)).Frame).Head).A1).x4) (((((gd w1_3 ((wr .i64 (gd (((gd ((gd r16.2.1.List r5.toNat).Held) v3_2.toNat).Frame).Body) 0)).toNat)).Frame).Head).A1).x5)) (A6u8.mk (((((gd w1_3 ((wr .i64 (gd (((gd ((gd r16.2.1.List r5.toNat).Held) v3_2.toNat).Frame).Body) 0)).toNat)).Frame).Head).A2).x0) (((((gd w1_3 ((wr .i64 (gd (((gd ((gd r16.2.1.List r5.toNat).Held) v3_2.toNat).Frame).Body) 0)).toNat)).Frame).Head).A2).x1) (((((gd w1_3 ((wr .i64 (gd (((gd ((gd r16.2.1.List r5.toNat).Held) v3_2.toNat).Frame).Body) 0)).toNat)).Frame).Head).A2).x2) (((((gd w1_3 ((wr .i64 (gd (((gd ((gd r16.2.1.List r5.toNat).Held) v3_2.toNat).Frame).Body) 0)).toNat)).Frame).Head).A2).x3) (((((gd w1_3 ((wr .i64 (gd (((gd ((gd r16.2.1.List r5.toNat).Held) v3_2.toNat).Frame).Body) 0)).toNat)).Frame).Head).A2).x4) (((((gd w1_3 ((wr .i64 (gd (((gd ((gd r16.2.1.List r5.toNat).Held) v3_2.toNat).Frame).Body) 0)).toNat)).Frame).Head).A2).x5)) (A6u8.mk (((((gd w1_3 ((wr .i64 (gd (((gd ((gd r16.2.1.List r5.toNat).Held) v3_2.toNat).Frame).Body) 0)).toNat)).Frame).Head).A3).x0) (((((gd w1_3 ((wr .i64 (gd (((gd ((gd r16.2.1.List r5.toNat).Held) v3_2.toNat).Frame).Body) 0)).toNat)).Frame).Head).A3).x1) (((((gd w1_3 ((wr .i64 (gd (((gd ((gd r16.2.1.List r5.toNat).Held) v3_2.toNat).Frame).Body) 0)).toNat)).Frame).Head).A3).x2) (((((gd w1_3 ((wr .i64 (gd (((gd ((gd r16.2.1.List r5.toNat).Held) v3_2.toNat).Frame).Body) 0)).toNat)).Frame).Head).A3).x3) (((((gd w1_3 ((wr .i64 (gd (((gd ((gd r16.2.1.List r5.toNat).Held) v3_2.toNat).Frame).Body) 0)).toNat)).Frame).Head).A3).x4) (((((gd w1_3 ((wr .i64 (gd (((gd ((gd r16.2.1.List r5.toNat).Held) v3_2.toNat).Frame).Body) 0)).toNat)).Frame).Head).A3).x5)) (A6u8.mk (((((gd w1_3 ((wr .i64 (gd (((gd ((gd r16.2.1.List r5.toNat).Held) v3_2.toNat).Frame).Body) 0)).toNat)).Frame).Head).A4).x0) (((((gd w1_3 ((wr .i64 (gd (((gd ((gd r16.2.1.List r5.toNat).Held) v3_2.toNat).Frame).Body) 0)).toNat)).Frame).Head).A4).x1) (((((gd w1_3 ((wr .i64 (gd (((gd ((gd r16.2.1.List r5.toNat).Held) v3_2.toNat).Frame).Body) 0)).toNat)).Frame).Head).A4).x2) (((((gd w1_3 ((wr .i64 (gd (((gd ((gd r16.2.1.List r5.toNat).Held) v3_2.toNat).Frame).Body) 0)).toNat)).Frame).Head).A4).x3) (((((gd w1_3 ((wr .i64 (gd (((gd ((gd r16.2.1.List r5.toNat).Held) v3_2.toNat).Frame).Body) 0)).toNat)).Frame).Head).A4).x4) (((((gd w1_3 ((wr .i64 (gd (((gd ((gd r16.2.1.List r5.toNat).Held) v3_2.toNat).Frame).Body) 0)).toNat)).Frame).Head).A4).x5)) ((((gd w1_3 ((wr .i64 (gd (((gd ((gd r16.2.1.List r5.toNat).Held) v3_2.toNat).Frame).Body) 0)).toNat)).Frame).Head).Seq) ((((gd w1_3 ((wr .i64 (gd (((gd ((gd r16.2.1.List r5.toNat).Held) v3_2.toNat).Frame).Body) 0)).toNat)).Frame).Head).Frag) ((((gd w1_3 ((wr .i64 (gd (((gd ((gd r16.2.1.List r5.toNat).Held) v3_2.toNat).Frame).Body) 0)).toNat)).Frame).Head).Tid) ((((gd w1_3 ((wr .i64 (gd (((gd ((gd r16.2.1.List r5.toNat).Held) v3_2.toNat).Frame).Body) 0)).toNat)).Frame).Head).Ack) ((((gd w1_3 ((wr .i64 (gd (((gd ((gd r16.2.1.List r5.toNat).Held) v3_2.toNat).Frame).Body) 0)).toNat)).Frame).Head).Amsdu) ((((gd w1_3 ((wr .i64 (gd (((gd ((gd r16.2.1.List r5.toNat).Held) v3_2.toNat).Frame).Body) 0)).toNat)).Frame).Head).Eosp)) (((gd w1_3 ((wr .i64 (gd (((gd ((gd r16.2.1.List r5.toNat).Held) v3_2.toNat).Frame).Body) 0)).toNat)).Frame).Body))).isSome) else true) <| bif (((bLe (w1_3.length:Nat) (wr .i64 (gd (((gd ((gd r16.2.1.List r5.toNat).Held) v3_2.toNat).Frame).Body) 0))) || (gd v3_1 ((wr .i64 (gd (((gd ((gd r16.2.1.List r5.toNat).Held) v3_2.toNat).Frame).Body) 0)).toNat))) || (!(gt (F15 (TFrame.mk (THeader.mk ((((gd ((gd r16.2.1.List r5.toNat).Held) v3_2.toNat).Frame).Head).Kind) ((((gd ((gd r16.2.1.List r5.toNat).Held) v3_2.toNat).Frame).Head).Sub) ((((gd ((gd r16.2.1.List r5.toNat).Held) v3_2.toNat).Frame).Head).ToDs) ((((gd ((gd r16.2.1.List r5.toNat).Held) v3_2.toNat).Frame).Head).FromDs) ((((gd ((gd r16.2.1.List r5.toNat).Held) v3_2.toNat).Frame).Head).More) ((((gd ((gd r16.2.1.List r5.toNat).Held) v3_2.toNat).Frame).Head).Retry) ((((gd ((gd r16.2.1.List r5.toNat).Held) v3_2.toNat).Frame).Head).Sleep) ((((gd ((gd r16.2.1.List r5.toNat).Held) v3_2.toNat).Frame).Head).MoreData) ((((gd ((gd r16.2.1.List r5.toNat).Held) v3_2.toNat).Frame).Head).Protected) ((((gd ((gd r16.2.1.List r5.toNat).Held) v3_2.toNat).Frame).Head).Duration) (A6u8.mk (((((gd ((gd r16.2.1.List r5.toNat).Held) v3_2.toNat).Frame).Head).A1).x0) (((((gd ((gd r16.2.1.List r5.toNat).Held) v3_2.toNat).Frame).Head).A1).x1) (((((gd ((gd r16.2.1.List r5.toNat).Held) v3_2.toNat).Frame).Head).A1).x2) (((((gd ((gd r16.2.1.List r5.toNat).Held) v3_2.toNat).Frame).Head).A1).x3) (((((gd ((gd r16.2.1.List r5.toNat).Held) v3_2.toNat).Frame).Head).A1).x4) (((((gd ((gd r16.2.1.List r5.toNat).Held) v3_2.toNat).Frame).Head).A1).x5)) (A6u8.mk (((((gd ((gd r16.2.1.List r5.toNat).Held) v3_2.toNat).Frame).Head).A2).x0) (((((gd ((gd r16.2.1.List r5.toNat).Held) v3_2.toNat).Frame).Head).A2).x1) (((((gd ((gd r16.2.1.List r5.toNat).Held) v3_2.toNat).Frame).Head).A2).x2) (((((gd ((gd r16.2.1.List r5.toNat).Held) v3_2.toNat).Frame).Head).A2).x3) (((((gd ((gd r16.2.1.List r5.toNat).Held) v3_2.toNat).Frame).Head).A2).x4) (((((gd ((gd r16.2.1.List r5.toNat).Held) v3_2.toNat).Frame).Head).A2).x5)) (A6u8.mk (((((gd ((gd r16.2.1.List r5.toNat).Held) v3_2.toNat).Frame).Head).A3).x0) (((((gd ((gd r16.2.1.List r5.toNat).Held) v3_2.toNat).Frame).Head).A3).x1) (((((gd ((gd r16.2.1.List r5.toNat).Held) v3_2.toNat).Frame).Head).A3).x2) (((((gd ((gd r16.2.1.List r5.toNat).Held) v3_2.toNat).Frame).Head).A3).x3) (((((gd ((gd r16.2.1.List r5.toNat).Held) v3_2.toNat).Frame).Head).A3).x4) (((((gd ((gd r16.2.1.List r5.toNat).Held) v3_2.toNat).Frame).Head).A3).x5)) (A6u8.mk (((((gd ((gd r16.2.1.List r5.toNat).Held) v3_2.toNat).Frame).Head).A4).x0) (((((gd ((gd r16.2.1.List r5.toNat).Held) v3_2.toNat).Frame).Head).A4).x1) (((((gd ((gd r16.2.1.List r5.toNat).Held) v3_2.toNat).Frame).Head).A4).x2) (((((gd ((gd r16.2.1.List r5.toNat).Held) v3_2.toNat).Frame).Head).A4).x3) (((((gd ((gd r16.2.1.List r5.toNat).Held) v3_2.toNat).Frame).Head).A4).x4) (((((gd ((gd r16.2.1.List r5.toNat).Held) v3_2.toNat).Frame).Head).A4).x5)) ((((gd ((gd r16.2.1.List r5.toNat).Held) v3_2.toNat).Frame).Head).Seq) ((((gd ((gd r16.2.1.List r5.toNat).Held) v3_2.toNat).Frame).Head).Frag) ((((gd ((gd r16.2.1.List r5.toNat).Held) v3_2.toNat).Frame).Head).Tid) ((((gd ((gd r16.2.1.List r5.toNat).Held) v3_2.toNat).Frame).Head).Ack) ((((gd ((gd r16.2.1.List r5.toNat).Held) v3_2.toNat).Frame).Head).Amsdu) ((((gd ((gd r16.2.1.List r5.toNat).Held) v3_2.toNat).Frame).Head).Eosp)) (((gd ((gd r16.2.1.List r5.toNat).Held) v3_2.toNat).Frame).Body)) (TFrame.mk (THeader.mk ((((gd w1_3 ((wr .i64 (gd (((gd ((gd r16.2.1.List r5.toNat).Held) v3_2.toNat).Frame).Body) 0)).toNat)).Frame).Head).Kind) ((((gd w1_3 ((wr .i64 (gd (((gd ((gd r16.2.1.List r5.toNat).Held) v3_2.toNat).Frame).Body) 0)).toNat)).Frame).Head).Sub) ((((gd w1_3 ((wr .i64 (gd (((gd ((gd r16.2.1.List r5.toNat).Held) v3_2.toNat).Frame).Body) 0)).toNat)).Frame).Head).ToDs) ((((gd w1_3 ((wr .i64 (gd (((gd ((gd r16.2.1.List r5.toNat).Held) v3_2.toNat).Frame).Body) 0)).toNat)).Frame).Head).FromDs) ((((gd w1_3 ((wr .i64 (gd (((gd ((gd r16.2.1.List r5.toNat).Held) v3_2.toNat).Frame).Body) 0)).toNat)).Frame).Head).More) ((((gd w1_3 ((wr .i64 (gd (((gd ((gd r16.2.1.List r5.toNat).Held) v3_2.toNat).Frame).Body) 0)).toNat)).Frame).Head).Retry) ((((gd w1_3 ((wr .i64 (gd (((gd ((gd r16.2.1.List r5.toNat).Held) v3_2.toNat).Frame).Body) 0)).toNat)).Frame).Head).Sleep) ((((gd w1_3 ((wr .i64 (gd (((gd ((gd r16.2.1.List r5.toNat).Held) v3_2.toNat).Frame).Body) 0)).toNat)).Frame).Head).MoreData) ((((gd w1_3 ((wr .i64 (gd (((gd ((gd r16.2.1.List r5.toNat).Held) v3_2.toNat).Frame).Body) 0)).toNat)).Frame).Head).Protected) ((((gd w1_3 ((wr .i64 (gd (((gd ((gd r16.2.1.List r5.toNat).Held) v3_2.toNat).Frame).Body) 0)).toNat)).Frame).Head).Duration) (A6u8.mk (((((gd w1_3 ((wr .i64 (gd (((gd ((gd r16.2.1.List r5.toNat).Held) v3_2.toNat).Frame).Body) 0)).toNat)).Frame).Head).A1).x0) (((((gd w1_3 ((wr .i64 (gd (((gd ((gd r16.2.1.List r5.toNat).Held) v3_2.toNat).Frame).Body) 0)).toNat)).Frame).Head).A1).x1) (((((gd w1_3 ((wr .i64 (gd (((gd ((gd r16.2.1.List r5.toNat).Held) v3_2.toNat).Frame).Body) 0)).toNat)).Frame).Head).A1).x2) (((((gd w1_3 ((wr .i64 (gd (((gd ((gd r16.2.1.List r5.toNat).Held) v3_2.toNat).Frame).Body) 0)).toNat)).Frame).Head).A1).x3) (((((gd w1_3 ((wr .i64 (gd (((gd ((gd r16.2.1.List r5.toNat).Held) v3_2.toNat).Frame).Body) 0)).toNat)).Frame).Head).A1).x4) (((((gd w1_3 ((wr .i64 (gd (((gd ((gd r16.2.1.List r5.toNat).Held) v3_2.toNat).Frame).Body) 0)).toNat)).Frame).Head).A1).x5)) (A6u8.mk (((((gd w1_3 ((wr .i64 (gd (((gd ((gd r16.2.1.List r5.toNat).Held) v3_2.toNat).Frame).Body) 0)).toNat)).Frame).Head).A2).x0) (((((gd w1_3 ((wr .i64 (gd (((gd ((gd r16.2.1.List r5.toNat).Held) v3_2.toNat).Frame).Body) 0)).toNat)).Frame).Head).A2).x1) (((((gd w1_3 ((wr .i64 (gd (((gd ((gd r16.2.1.List r5.toNat).Held) v3_2.toNat).Frame).Body) 0)).toNat)).Frame).Head).A2).x2) (((((gd w1_3 ((wr .i64 (gd (((gd ((gd r16.2.1.List r5.toNat).Held) v3_2.toNat).Frame).Body) 0)).toNat)).Frame).Head).A2).x3) (((((gd w1_3 ((wr .i64 (gd (((gd ((gd r16.2.1.List r5.toNat).Held) v3_2.toNat).Frame).Body) 0)).toNat)).Frame).Head).A2).x4) (((((gd w1_3 ((wr .i64 (gd (((gd ((gd r16.2.1.List r5.toNat).Held) v3_2.toNat).Frame).Body) 0)).toNat)).Frame).Head).A2).x5)) (A6u8.mk (((((gd w1_3 ((wr .i64 (gd (((gd ((gd r16.2.1.List r5.toNat).Held) v3_2.toNat).Frame).Body) 0)).toNat)).Frame).Head).A3).x0) (((((gd w1_3 ((wr .i64 (gd (((gd ((gd r16.2.1.List r5.toNat).Held) v3_2.toNat).Frame).Body) 0)).toNat)).Frame).Head).A3).x1) (((((gd w1_3 ((wr .i64 (gd (((gd ((gd r16.2.1.List r5.toNat).Held) v3_2.toNat).Frame).Body) 0)).toNat)).Frame).Head).A3).x2) (((((gd w1_3 ((wr .i64 (gd (((gd ((gd r16.2.1.List r5.toNat).Held) v3_2.toNat).Frame).Body) 0)).toNat)).Frame).Head).A3).x3) (((((gd w1_3 ((wr .i64 (gd (((gd ((gd r16.2.1.List r5.toNat).Held) v3_2.toNat).Frame).Body) 0)).toNat)).Frame).Head).A3).x4) (((((gd w1_3 ((wr .i64 (gd (((gd ((gd r16.2.1.List r5.toNat).Held) v3_2.toNat).Frame).Body) 0)).toNat)).Frame).Head).A3).x5)) (A6u8.mk (((((gd w1_3 ((wr .i64 (gd (((gd ((gd r16.2.1.List r5.toNat).Held) v3_2.toNat).Frame).Body) 0)).toNat)).Frame).Head).A4).x0) (((((gd w1_3 ((wr .i64 (gd (((gd ((gd r16.2.1.List r5.toNat).Held) v3_2.toNat).Frame).Body) 0)).toNat)).Frame).Head).A4).x1) (((((gd w1_3 ((wr .i64 (gd (((gd ((gd r16.2.1.List r5.toNat).Held) v3_2.toNat).Frame).Body) 0)).toNat)).Frame).Head).A4).x2) (((((gd w1_3 ((wr .i64 (gd (((gd ((gd r16.2.1.List r5.toNat).Held) v3_2.toNat).Frame).Body) 0)).toNat)).Frame).Head).A4).x3) (((((gd w1_3 ((wr .i64 (gd (((gd ((gd r16.2.1.List r5.toNat).Held) v3_2.toNat).Frame).Body) 0)).toNat)).Frame).Head).A4).x4) (((((gd w1_3 ((wr .i64 (gd (((gd ((gd r16.2.1.List r5.toNat).Held) v3_2.toNat).Frame).Body) 0)).toNat)).Frame).Head).A4).x5)) ((((gd w1_3 ((wr .i64 (gd (((gd ((gd r16.2.1.List r5.toNat).Held) v3_2.toNat).Frame).Body) 0)).toNat)).Frame).Head).Seq) ((((gd w1_3 ((wr .i64 (gd (((gd ((gd r16.2.1.List r5.toNat).Held) v3_2.toNat).Frame).Body) 0)).toNat)).Frame).Head).Frag) ((((gd w1_3 ((wr .i64 (gd (((gd ((gd r16.2.1.List r5.toNat).Held) v3_2.toNat).Frame).Body) 0)).toNat)).Frame).Head).Tid) ((((gd w1_3 ((wr .i64 (gd (((gd ((gd r16.2.1.List r5.toNat).Held) v3_2.toNat).Frame).Body) 0)).toNat)).Frame).Head).Ack) ((((gd w1_3 ((wr .i64 (gd (((gd ((gd r16.2.1.List r5.toNat).Held) v3_2.toNat).Frame).Body) 0)).toNat)).Frame).Head).Amsdu) ((((gd w1_3 ((wr .i64 (gd (((gd ((gd r16.2.1.List r5.toNat).Held) v3_2.toNat).Frame).Body) 0)).toNat)).Frame).Head).Eosp)) (((gd w1_3 ((wr .i64 (gd (((gd ((gd r16.2.1.List r5.toNat).Held) v3_2.toNat).Frame).Body) 0)).toNat)).Frame).Body)))))) then (some (.done (.inr false))) else (need (inb (wr .i64 (gd (((gd ((gd r16.2.1.List r5.toNat).Held) v3_2.toNat).Frame).Body) 0)) 100) <| need (inb (wr .i64 (gd (((gd ((gd r16.2.1.List r5.toNat).Held) v3_2.toNat).Frame).Body) 0)) v3_1.length) <| some (.next ((v3_1.set ((wr .i64 (gd (((gd ((gd r16.2.1.List r5.toNat).Held) v3_2.toNat).Frame).Body) 0)).toNat) true),wr .i64 (v3_2+1)))))) else (some (.done (.inl ())))
noncomputable def F6 (p0:TBuffer) (p1:TTriggerPlan) (p2:Int) (p3:A6u8) (p4:A6u8):Option (Bool) :=
 (F32).bind fun r1=>(F24 p0 (TFrame.mk (THeader.mk 0 0 false false false false false false false 0 (A6u8.mk 0 0 0 0 0 0) (A6u8.mk 0 0 0 0 0 0) (A6u8.mk 0 0 0 0 0 0) (A6u8.mk 0 0 0 0 0 0) 0 0 0 0 false false) [])).bind fun r3=>bif (r3 || (!r1)) then (some r1) else ((F33 p0 p2).bind fun r5=>need (bif (!(bLt r5 0)) then ((F34 p0).isSome) else true) <| bif ((bLt r5 0) || (!bEq (gt (F34 p0)) 0)) then (some r1) else ((F28f r5.toNat p0).bind fun r8=>need (inb r5 r8.List.length) <| lp (loopD (fun s=>F6_L1 s.1 s.2) ((gd r8.List r5.toNat).Held,0)) (fun w1_3=>(some (r8.List.set r5.toNat (TSleeper.mk ((gd r8.List r5.toNat).Aid) ((gd r8.List r5.toNat).Asleep) w1_3))).bind fun w14=>(F29_0 (TBuffer.mk r8.Limit r8.Stay w14 r8.Group) p1 p2 p3 p4).bind fun r16=>bif (!bEq r16.2.2 0) then (some r1) else ((some (List.replicate 100 false:List Bool)).bind fun w18=>lp (loopD (fun s=>F6_L2 p1 r1 r8 w1_3 w14 r16 s.1 s.2.1 s.2.2.1 s.2.2.2) (w18,3,(-1),0)) (fun w2_5=>bif (!bEq (r16.2.1.List.length:Nat) (w14.length:Nat)) then (some false) else (need (inb r5 r16.2.1.List.length) <| lp (loopD (fun s=>F6_L3 r5 w1_3 r16 s.1 s.2) (w2_5,0)) (fun _=>need (inb r5 w14.length) <| (some (w14.set r5.toNat (TSleeper.mk ((gd w14 r5.toNat).Aid) ((gd w14 r5.toNat).Asleep) ((gd r16.2.1.List r5.toNat).Held)))).bind fun w45=>need (bif (r1 && (bEq (wr .i64 ((r16.1.Left.length:Nat)+(((gd r16.2.1.List r5.toNat).Held).length:Nat))) (w1_3.length:Nat))) then ((F31 (TBuffer.mk r16.2.1.Limit r16.2.1.Stay r16.2.1.List r16.2.1.Group) (TBuffer.mk r8.Limit r8.Stay w45 r8.Group)).isSome) else true) <| need (bif ((r1 && (bEq (wr .i64 ((r16.1.Left.length:Nat)+(((gd r16.2.1.List r5.toNat).Held).length:Nat))) (w1_3.length:Nat))) && (gt (F31 (TBuffer.mk r16.2.1.Limit r16.2.1.Stay r16.2.1.List r16.2.1.Group) (TBuffer.mk r8.Limit r8.Stay w45 r8.Group)))) then ((F34 (TBuffer.mk r16.2.1.Limit r16.2.1.Stay r16.2.1.List r16.2.1.Group)).isSome) else true) <| some (((r1 && (bEq (wr .i64 ((r16.1.Left.length:Nat)+(((gd r16.2.1.List r5.toNat).Held).length:Nat))) (w1_3.length:Nat))) && (gt (F31 (TBuffer.mk r16.2.1.Limit r16.2.1.Stay r16.2.1.List r16.2.1.Group) (TBuffer.mk r8.Limit r8.Stay w45 r8.Group)))) && (bEq (gt (F34 (TBuffer.mk r16.2.1.Limit r16.2.1.Stay r16.2.1.List r16.2.1.Group))) 0))) some)) some)) some))
noncomputable def body6:List AV->AR
 | [v0,v1,v2,v3,v4]=>.pure (aK 4 k_TBuffer v0/\aK 3 k_TTriggerPlan v1/\iK .i64 v2/\aK 6 k_A6u8 v3/\aK 6 k_A6u8 v4/\(F6 (g_TBuffer (aL v0)) (g_TTriggerPlan (aL v1)) (iA v2) (g_A6u8 (aL v3)) (g_A6u8 (aL v4))).isSome=true) (.bool (gt (F6 (g_TBuffer (aL v0)) (g_TTriggerPlan (aL v1)) (iA v2) (g_A6u8 (aL v3)) (g_A6u8 (aL v4)))))
 | _=>.fail
set_option maxHeartbeats 4000000 in
set_option maxRecDepth 20000 in
theorem ok6:FnOk Try.prog 6 (pureC body6):=by
 refine pure_fnM body6 (rs:=[.tmp 10]) Try.func6 (by kernel_rfl) rfl rfl ?_
 intro l ob v hb hob
 unfold body6 at hb
 split at hb
 ·rename_i v0 v1 v2 v3 v4
  injection hb with q1 q2;subst q1 q2
  obtain ⟨hk0_0,hk1_0,hk2_0,hk3_0,hk4_0,hob⟩:=hob
  obtain ⟨r,H⟩:=Option.isSome_iff_exists.1 hob
  rw [H,gt_some]
  have hw0:=wA_TBuffer hk0_0
  have hw1:=wA_TTriggerPlan hk1_0
  have hw2:=iK_wk hk2_0
  have hw3:=wA_A6u8 hk3_0
  have hw4:=wA_A6u8 hk4_0
  generalize g_TBuffer (aL v0)=p0 at H hw0
  generalize g_TTriggerPlan (aL v1)=p1 at H hw1
  generalize iA v2=p2 at H hw2
  generalize g_A6u8 (aL v3)=p3 at H hw3
  generalize g_A6u8 (aL v4)=p4 at H hw4
  refine ⟨[.agg [.int .i64 p0.Limit,.int .i64 p0.Stay,.ro 3 p0.List.length false (enR c_TSleeper p0.List),.ro 43 p0.Group.length false (enR c_TStored p0.Group)],.agg [.int .u8 p1.Start,.int .u8 p1.Deliver,.int .i64 p1.Most],.int .i64 p2,.agg [.int .u8 p3.x0,.int .u8 p3.x1,.int .u8 p3.x2,.int .u8 p3.x3,.int .u8 p3.x4,.int .u8 p3.x5],.agg [.int .u8 p4.x0,.int .u8 p4.x1,.int .u8 p4.x2,.int .u8 p4.x3,.int .u8 p4.x4,.int .u8 p4.x5]],_,(fun E vs F=>FR_wk1 hw0.1 F (fun vs F=>FR_wk1 hw1.1 F (fun vs F=>FR_wk1 hw2.1 F (fun vs F=>FR_wk1 hw3.1 F (fun vs F=>FR_wk1 hw4.1 F (fun vs F=>F)))))),rfl,rfl,?_⟩
  rw [Try.ntmps6]
  simp only [List.length_cons,List.length_nil,Nat.reduceAdd,Nat.reduceSub,List.replicate_succ,List.replicate_zero,List.cons_append,List.nil_append]
  unfold F6 at H
  try dsimp only at H
  refine sq ctNo_ok ?_
  simp only [go_sem,Nat.reduceAdd]
  refine seqM ?_
  obtain ⟨r1,e2,H⟩:=bsi H
  refine rg ct6t0_ok ?_
  simp only [go_sem,ct6t0_32,body32,e2]
  repeat ((with_reducible refine And.intro ?_ ?_);focus exact an0)
  refine seqM ?_
  refine seqM ?_
  obtain ⟨r3,e4,H⟩:=bsi H
  refine rg ct6t1_ok ?_
  simp only [go_sem,Nat.reduceLT,Nat.reduceAdd,reduceCtorEq,ct6t1_24,body24,e4]
  repeat ((with_reducible refine And.intro ?_ ?_);focus exact an7)
  refine condM rfl trivial (fun hc=>?_) (fun hc=>?_)
  ·replace H:=cond_t hc H
   refine sq ctNo_ok ?_
   simp only [go_sem]
   refine rg ctNo_ok ?_
   simp only [go_sem]
   obtain rfl:=Option.some.inj H
   first|rfl|simp only [Bool.and_false,Bool.false_and,Bool.and_true,Bool.true_and]
  replace H:=cond_f hc H
  refine rg ctNo_ok ?_
  simp only [go_sem]
  refine seqM ?_
  obtain ⟨r5,e6,H⟩:=bsi H
  refine rg ct6t2_ok ?_
  simp only [go_sem,Nat.reduceLT,Nat.reduceAdd,ct6t2_33,body33,e6]
  repeat ((with_reducible refine And.intro ?_ ?_);focus exact an0)
  refine seqM ?_
  refine seqM ?_
  obtain ⟨f7,H⟩:=need_some.1 H
  replace f7:=g_iff.1 f7
  refine rg ct6t3_ok ?_
  simp only [go_sem,Nat.reduceLT,Nat.reduceAdd,ct6t3_34,body34]
  repeat ((with_reducible refine And.intro ?_ ?_);focus (first|(with_reducible trivial)|omega|exact f7|(intro g;have q:=f7 (by first|exact g|(rw [g];rfl)|simpa using g);first|exact q|exact ⟨q.1,q.2.1⟩|exact q.2.2|omega|exact ⟨g,q⟩|exact ⟨trivial,q⟩|exact ⟨g,q.1,q.2.1⟩|exact ⟨g,q.2.2⟩)|(intro g;(try have q0:=f7 (by first|exact g|(rw [g];rfl)|simpa using g));and_intros<;>first|(with_reducible trivial)|assumption|exact nfc|(intro g2;rw [g,g2];rfl)|(intro g2;assumption)|(simp only [g,Bool.true_and,Bool.and_true,Bool.not_false,Bool.not_true];assumption)|grind)|(and_intros<;>first|(with_reducible trivial)|omega|assumption|exact nfc|first|exact rfl|exact trivial|exact fitI|exact .inr rfl|exact .inl rfl|exact fun x hx=>absurd hx (by omega))|grind))
  refine condM rfl trivial (fun hc=>?_) (fun hc=>?_)
  ·replace H:=cond_t hc H
   refine sq ctNo_ok ?_
   simp only [go_sem]
   refine rg ctNo_ok ?_
   simp only [go_sem]
   obtain rfl:=Option.some.inj H
   first|rfl|simp only [Bool.and_false,Bool.false_and,Bool.and_true,Bool.true_and]
  replace H:=cond_f hc H
  refine rg ctNo_ok ?_
  simp only [go_sem]
  refine seqM ?_
  obtain ⟨r8,e9,H⟩:=bsi H
  refine rg (ct6t4_ok r5.toNat) ?_
  simp only [go_sem,Nat.reduceLT,Nat.reduceAdd,ct6t4_28,body28f,e9]
  repeat ((with_reducible refine And.intro ?_ ?_);focus exact an0)
  refine seqM ?_
  obtain ⟨f10,H⟩:=need_some.1 H
  replace f10:=inb_iff.1 f10
  refine rg ctNo_ok ?_
  simp only [go_sem,Nat.reduceLeDiff,Nat.reduceLT,Nat.reduceAdd,Nat.reduceSub,upc_ii,f10]
  repeat ((with_reducible refine And.intro ?_ ?_);focus exact an6)
  refine seqM ?_
  refine sq ctNo_ok ?_
  simp only [go_sem]
  refine blkM ?_
  refine loop_den (fun s:(List TStored) × Int=>(.top::.top::.int .i64 p2::.top::.top::.ptr 0 0 0 0::.ptr 1 0 0 0::.top::.ptr 2 0 0 0::.ptr 3 0 0 0::.top::.bool r1::.int .i64 r5::.sl 7 43 0 s.1.length false::.int .i64 s.2::tp 247 [])) (fun s=>[.lit 52 [.int .i64 r8.Limit,.int .i64 r8.Stay,.sl 4 3 0 r8.List.length false,.sl 6 43 0 r8.Group.length false],.lit 23 [.int .u8 p1.Start,.int .u8 p1.Deliver,.int .i64 p1.Most],.lit 25 [.int .u8 p3.x0,.int .u8 p3.x1,.int .u8 p3.x2,.int .u8 p3.x3,.int .u8 p3.x4,.int .u8 p3.x5],.lit 25 [.int .u8 p4.x0,.int .u8 p4.x1,.int .u8 p4.x2,.int .u8 p4.x3,.int .u8 p4.x4,.int .u8 p4.x5],.row 71 3 r8.List.length (upc (enR c_TSleeper r8.List) r5.toNat 2 [.sl 7 43 0 s.1.length false]),.dead,.row 73 43 r8.Group.length (enR c_TStored r8.Group),.row 73 43 s.1.length (enR c_TStored s.1)]) (fun e:List TStored=>(.top::.top::.int .i64 p2::.top::.top::.ptr 0 0 0 0::.ptr 1 0 0 0::.top::.ptr 2 0 0 0::.ptr 3 0 0 0::.top::.bool r1::.int .i64 r5::.sl 7 43 0 e.length false::tp 248 [])) (fun e=>[.lit 52 [.int .i64 r8.Limit,.int .i64 r8.Stay,.sl 4 3 0 r8.List.length false,.sl 6 43 0 r8.Group.length false],.lit 23 [.int .u8 p1.Start,.int .u8 p1.Deliver,.int .i64 p1.Most],.lit 25 [.int .u8 p3.x0,.int .u8 p3.x1,.int .u8 p3.x2,.int .u8 p3.x3,.int .u8 p3.x4,.int .u8 p3.x5],.lit 25 [.int .u8 p4.x0,.int .u8 p4.x1,.int .u8 p4.x2,.int .u8 p4.x3,.int .u8 p4.x4,.int .u8 p4.x5],.row 71 3 r8.List.length (upc (enR c_TSleeper r8.List) r5.toNat 2 [.sl 7 43 0 e.length false]),.dead,.row 73 43 r8.Group.length (enR c_TStored r8.Group),.row 73 43 e.length (enR c_TStored e)]) H ?_ (fun s o H hn1_1 hn2_1=>?_) (fun w1_3 H=>?_)
  ·refine SubF_of ⟨[some 0,some 1,some 2,some 3,some 4,some 5,some 6,some 5],?_,?_,by rfl,by rfl⟩
   ·simp [CvL,Cv,getM,tp]
   ·exact ⟨cv,cv,cv,cv,CvB_focI nr_TSleeper (by simp [getM]) rfl (by first|rfl|simp),CvB_dead,(CvB_same nfA),CvB_row nr_TStored cl (fun _ _ _ _=>rfl),trivial⟩
  ·obtain ⟨v1_1,v1_2⟩:=s
   unfold F6_L1 at H
   try dsimp only at H ⊢
   try simp only [tp]
   refine seqM ?_
   refine sq ctNo_ok ?_
   simp only [go_sem,Nat.reduceAdd]
   repeat ((with_reducible refine And.intro ?_ ?_);focus exact an0)
   refine condM' rfl trivial (fun hc=>?_) (fun hc=>?_)
   ·replace H:=cond_f hc H
    refine rg ctNo_ok ?_
    simp only [go_sem]
    refine ⟨_,(Option.some.inj H).symm,?_⟩
    refine SubF_of ⟨[some 0,some 1,some 2,some 3,some 4,some 5,some 6,some 7],?_,?_,by rfl,by rfl⟩
    ·simp [CvL,Cv,getM]
    ·exact ⟨cv,cv,cv,cv,CvB_focI nr_TSleeper (by simp [getM]) rfl (by first|rfl|simp),CvB_dead,(CvB_same nfA),CvB_row nr_TStored cl (fun _ _ _ _=>rfl),trivial⟩
   replace H:=cond_t hc H
   refine rg ctNo_ok ?_
   simp only [go_sem]
   refine seqM ?_
   refine blkM ?_
   refine regO ?_
   obtain ⟨f11,H⟩:=need_some.1 H
   replace f11:=inb_iff.1 f11
   refine cutO shT_ok ctNo_ok 8 ?_
   simp only [kO_normal,List.take_succ_cons,List.take_zero,List.drop_succ_cons,List.drop_zero,go_sem,Nat.reduceLeDiff,Nat.reduceAdd,reduceCtorEq,f11]
   repeat ((with_reducible refine And.intro ?_ ?_);focus exact an6)
   obtain ⟨w12,hw13,H⟩:=bsi H
   replace hw13:=Option.some.inj hw13
   have lhw13:w12.length=2:=by rw [← hw13];exact cl
   refine subO (t2:=(.top::.top::.int .i64 p2::.top::.top::.ptr 0 0 0 0::.ptr 1 0 0 0::.top::.ptr 2 0 0 0::.ptr 3 0 0 0::.top::.bool r1::.int .i64 r5::.sl 7 43 0 v1_1.length false::.int .i64 v1_2::tp 50 (.sl 8 1 0 w12.length false::.top::.top::.ptr 7 43 v1_2.toNat 42::tp 193 []))) (h2:=[.lit 52 [.int .i64 r8.Limit,.int .i64 r8.Stay,.sl 4 3 0 r8.List.length false,.sl 6 43 0 r8.Group.length false],.lit 23 [.int .u8 p1.Start,.int .u8 p1.Deliver,.int .i64 p1.Most],.lit 25 [.int .u8 p3.x0,.int .u8 p3.x1,.int .u8 p3.x2,.int .u8 p3.x3,.int .u8 p3.x4,.int .u8 p3.x5],.lit 25 [.int .u8 p4.x0,.int .u8 p4.x1,.int .u8 p4.x2,.int .u8 p4.x3,.int .u8 p4.x4,.int .u8 p4.x5],.row 71 3 r8.List.length (upc (enR c_TSleeper r8.List) r5.toNat 2 [.sl 7 43 0 v1_1.length false]),.dead,.row 73 43 r8.Group.length (enR c_TStored r8.Group),.row 73 43 v1_1.length (enR c_TStored v1_1),.row 5 1 w12.length (enR c_u8 w12)]) ?_ ?_
   ·refine SubF_of ⟨[some 0,some 1,some 2,some 3,some 4,some 5,some 6,some 7,some 8],?_,?_,by rfl,by rfl⟩
    ·simp [CvL,Cv,getM,tp,lhw13]
    ·exact ⟨(by simp [CvB,CvL,Cv,blkAt,geth,getM]),(by simp [CvB,CvL,Cv,blkAt,geth]),(by simp [CvB,CvL,Cv,blkAt,geth]),(by simp [CvB,CvL,Cv,blkAt,geth]),(CvB_focG (i:=r5.toNat) (L:=r8.List) nr_TSleeper (fun x y hx=>by simp only [upc_ne hx]) (fun y hy=>match y,hy with|0,_=>by simp [upc_ii,getL,Cv,enR,c_TSleeper]|1,_=>by simp [upc_ii,getL,Cv,enR,c_TSleeper]|2,_=>by simp [upc_ii,getL,Cv,getM,enR,c_TSleeper]|(y+3),h=>absurd h nlt)),CvB_dead,CvB_row nr_TStored rfl (fun _ _ _ _=>rfl),CvB_row nr_TStored rfl (fun _ _ _ _=>rfl),CvB_row nr_u8 lhw13 (hw13 ▸ (lit_row (f:=c_u8) [wr .u8 v1_2,7] (fun _ _=>rfl) rfl)),trivial⟩
   simp only [tp]
   refine fzO [8] ?_ ?_
   ·simp only [go_sem,Nat.reduceBEq]
    try exact at0
   simp only [go_sem,Nat.reduceBEq,Nat.reduceAdd]
   refine cutO shT_ok ctNo_ok 1 ?_
   simp only [kO_normal,List.take_succ_cons,List.take_zero,List.drop_succ_cons,List.drop_zero,go_sem,Nat.reduceAdd]
   repeat ((with_reducible refine And.intro ?_ ?_);focus exact an6)
   refine endO ?_
   refine rg ctNo_ok ?_
   simp only [go_sem]
   refine ⟨_,(Option.some.inj H).symm,?_⟩
   refine SubF_of ⟨[some 0,some 1,some 2,some 3,some 4,some 5,some 6,some 7],?_,?_,by rfl,by rfl⟩
   ·simp [CvL,Cv,getM]
   ·exact ⟨cv,cv,cv,cv,CvB_focI nr_TSleeper (by simp [getM]) rfl (by first|rfl|simp),CvB_dead,(CvB_same nfA),CvB_row nr_TStored cl (upc_row (f:=c_TStored) v1_1 v1_2.toNat 42 (TStored.mk ((gd v1_1 v1_2.toNat).Cat) ((gd v1_1 v1_2.toNat).At) (TFrame.mk (THeader.mk ((((gd v1_1 v1_2.toNat).Frame).Head).Kind) ((((gd v1_1 v1_2.toNat).Frame).Head).Sub) ((((gd v1_1 v1_2.toNat).Frame).Head).ToDs) ((((gd v1_1 v1_2.toNat).Frame).Head).FromDs) ((((gd v1_1 v1_2.toNat).Frame).Head).More) ((((gd v1_1 v1_2.toNat).Frame).Head).Retry) ((((gd v1_1 v1_2.toNat).Frame).Head).Sleep) ((((gd v1_1 v1_2.toNat).Frame).Head).MoreData) ((((gd v1_1 v1_2.toNat).Frame).Head).Protected) ((((gd v1_1 v1_2.toNat).Frame).Head).Duration) (A6u8.mk (((((gd v1_1 v1_2.toNat).Frame).Head).A1).x0) (((((gd v1_1 v1_2.toNat).Frame).Head).A1).x1) (((((gd v1_1 v1_2.toNat).Frame).Head).A1).x2) (((((gd v1_1 v1_2.toNat).Frame).Head).A1).x3) (((((gd v1_1 v1_2.toNat).Frame).Head).A1).x4) (((((gd v1_1 v1_2.toNat).Frame).Head).A1).x5)) (A6u8.mk (((((gd v1_1 v1_2.toNat).Frame).Head).A2).x0) (((((gd v1_1 v1_2.toNat).Frame).Head).A2).x1) (((((gd v1_1 v1_2.toNat).Frame).Head).A2).x2) (((((gd v1_1 v1_2.toNat).Frame).Head).A2).x3) (((((gd v1_1 v1_2.toNat).Frame).Head).A2).x4) (((((gd v1_1 v1_2.toNat).Frame).Head).A2).x5)) (A6u8.mk (((((gd v1_1 v1_2.toNat).Frame).Head).A3).x0) (((((gd v1_1 v1_2.toNat).Frame).Head).A3).x1) (((((gd v1_1 v1_2.toNat).Frame).Head).A3).x2) (((((gd v1_1 v1_2.toNat).Frame).Head).A3).x3) (((((gd v1_1 v1_2.toNat).Frame).Head).A3).x4) (((((gd v1_1 v1_2.toNat).Frame).Head).A3).x5)) (A6u8.mk (((((gd v1_1 v1_2.toNat).Frame).Head).A4).x0) (((((gd v1_1 v1_2.toNat).Frame).Head).A4).x1) (((((gd v1_1 v1_2.toNat).Frame).Head).A4).x2) (((((gd v1_1 v1_2.toNat).Frame).Head).A4).x3) (((((gd v1_1 v1_2.toNat).Frame).Head).A4).x4) (((((gd v1_1 v1_2.toNat).Frame).Head).A4).x5)) ((((gd v1_1 v1_2.toNat).Frame).Head).Seq) ((((gd v1_1 v1_2.toNat).Frame).Head).Frag) ((((gd v1_1 v1_2.toNat).Frame).Head).Tid) ((((gd v1_1 v1_2.toNat).Frame).Head).Ack) ((((gd v1_1 v1_2.toNat).Frame).Head).Amsdu) ((((gd v1_1 v1_2.toNat).Frame).Head).Eosp)) w12)) (fun _ _ _ _=>rfl) (fun y hy=>match y,hy with|0,_=>rfl|1,_=>rfl|2,_=>rfl|3,_=>rfl|4,_=>rfl|5,_=>rfl|6,_=>rfl|7,_=>rfl|8,_=>rfl|9,_=>rfl|10,_=>rfl|11,_=>rfl|12,_=>rfl|13,_=>rfl|14,_=>rfl|15,_=>rfl|16,_=>rfl|17,_=>rfl|18,_=>rfl|19,_=>rfl|20,_=>rfl|21,_=>rfl|22,_=>rfl|23,_=>rfl|24,_=>rfl|25,_=>rfl|26,_=>rfl|27,_=>rfl|28,_=>rfl|29,_=>rfl|30,_=>rfl|31,_=>rfl|32,_=>rfl|33,_=>rfl|34,_=>rfl|35,_=>rfl|36,_=>rfl|37,_=>rfl|38,_=>rfl|39,_=>rfl|40,_=>rfl|41,_=>rfl|42,_=>rfl|(y+43),h=>absurd h nlt)),trivial⟩
  ·try dsimp only at H ⊢
   try simp only [tp]
   try simp only [m_normal]
   refine seqM ?_
   refine fz_mean [6] ?_ ?_
   ·simp only [go_sem,Nat.reduceBEq]
    try exact at0
   simp only [go_sem,Nat.reduceBEq,Nat.reduceAdd]
   refine fz2_mean [7] [4] ?_ ?_
   ·simp only [go_sem,Nat.reduceBEq,Nat.reduceAdd,fzObHF2,fzObB2]
    first|exact (foc_ob (L:=r8.List) (i:=r5.toNat) (fun a y=>nrefL_getL (nr_TSleeper a) y) (fun x y hx=>by simp only [upc_ne hx]) (fun y hy=>match y,hy with|0,_=>(by (simp [upc_ii,getL,fzOb,inL,geth,rowOb,enR,c_TSleeper];all_goals (first|(with_reducible trivial)|(intros;exact nrefL_getL (NRf.h _) _)|(intros;exact nfc))))|1,_=>(by (simp [upc_ii,getL,fzOb,inL,geth,rowOb,enR,c_TSleeper];all_goals (first|(with_reducible trivial)|(intros;exact nrefL_getL (NRf.h _) _)|(intros;exact nfc))))|2,_=>(by (simp [upc_ii,getL,fzOb,inL,geth,rowOb,enR,c_TSleeper];all_goals (first|(with_reducible trivial)|(intros;exact nrefL_getL (NRf.h _) _)|(intros;exact nfc))))|(y+3),h=>absurd h nlt))|(and_intros<;>first|exact (foc_ob (L:=r8.List) (i:=r5.toNat) (fun a y=>nrefL_getL (nr_TSleeper a) y) (fun x y hx=>by simp only [upc_ne hx]) (fun y hy=>match y,hy with|0,_=>(by (simp [upc_ii,getL,fzOb,enR,c_TSleeper];all_goals (first|(with_reducible trivial)|(intros;exact nrefL_getL (NRf.h _) _)|(intros;exact nfc))))|1,_=>(by (simp [upc_ii,getL,fzOb,enR,c_TSleeper];all_goals (first|(with_reducible trivial)|(intros;exact nrefL_getL (NRf.h _) _)|(intros;exact nfc))))|2,_=>(by (simp [upc_ii,getL,fzOb,inL,geth,rowOb,enR,c_TSleeper];all_goals (first|(with_reducible trivial)|(intros;exact nrefL_getL (NRf.h _) _)|(intros;exact nfc))))|(y+3),h=>absurd h nlt))|(with_reducible trivial)|omega|exact nfc|trivial)
   simp only [go_sem,Nat.reduceBEq,Nat.reduceAdd,fzH2,fzHF2,fzB2]
   obtain ⟨w14,hw15,H⟩:=bsi H
   replace hw15:=Option.some.inj hw15
   have lhw15:w14.length=r8.List.length:=by rw [← hw15];exact (by simp only [List.length_set])
   refine subF_mean (t2:=(.top::.top::.int .i64 p2::.top::.top::.ptr 0 0 0 0::.ptr 1 0 0 0::.top::.ptr 2 0 0 0::.ptr 3 0 0 0::.top::.bool r1::.int .i64 r5::.ro 43 w1_3.length false (enR c_TStored w1_3)::tp 248 [])) (h2:=[.lit 52 [.int .i64 r8.Limit,.int .i64 r8.Stay,.sl 4 3 0 w14.length false,.ro 43 r8.Group.length false (enR c_TStored r8.Group)],.lit 23 [.int .u8 p1.Start,.int .u8 p1.Deliver,.int .i64 p1.Most],.lit 25 [.int .u8 p3.x0,.int .u8 p3.x1,.int .u8 p3.x2,.int .u8 p3.x3,.int .u8 p3.x4,.int .u8 p3.x5],.lit 25 [.int .u8 p4.x0,.int .u8 p4.x1,.int .u8 p4.x2,.int .u8 p4.x3,.int .u8 p4.x4,.int .u8 p4.x5],.row 71 3 w14.length (enR c_TSleeper w14),.dead,.dead,.dead]) ?_ ?_
   ·refine SubF_of ⟨[some 0,some 1,some 2,some 3,some 4,some 5,some 6,some 7],?_,?_,by rfl,by rfl⟩
    ·simp [CvL,Cv,getM,tp]
    ·exact ⟨(by simp [CvB,CvL,Cv,blkAt,geth,getM,lhw15]),(by simp [CvB,CvL,Cv,blkAt,geth]),(by simp [CvB,CvL,Cv,blkAt,geth]),(by simp [CvB,CvL,Cv,blkAt,geth]),CvB_row nr_TSleeper lhw15 (hw15 ▸ (foc_row (L:=r8.List) (i:=r5.toNat) (fun a y=>nrefL_getL (nr_TSleeper a) y) (fun x y hx=>by simp only [upc_ne hx]) (fun y hy=>match y,hy with|0,_=>by simp [upc_ii,getL,fzV,enR,c_TSleeper]|1,_=>by simp [upc_ii,getL,fzV,enR,c_TSleeper]|2,_=>by simp [upc_ii,getL,fzV,inL,geth,enR,c_TSleeper,sub_enR0]|(y+3),h=>absurd h nlt))),CvB_dead,CvB_dead,CvB_dead,trivial⟩
   simp only [tp]
   obtain ⟨r16,e17,H⟩:=bsi H
   refine rg ct6t5_ok ?_
   simp only [go_sem,Nat.reduceLT,Nat.reduceAdd,ct6t5_29,body29_0,e17]
   repeat ((with_reducible refine And.intro ?_ ?_);focus exact an0)
   refine seqM ?_
   refine sq ctNo_ok ?_
   simp only [go_sem]
   refine condM rfl trivial (fun hc=>?_) (fun hc=>?_)
   ·replace H:=cond_t hc H
    refine sq ctNo_ok ?_
    simp only [go_sem]
    refine rg ctNo_ok ?_
    simp only [go_sem]
    obtain rfl:=Option.some.inj H
    first|rfl|simp only [Bool.and_false,Bool.false_and,Bool.and_true,Bool.true_and]
   replace H:=cond_f hc H
   refine rg ctNo_ok ?_
   simp only [go_sem]
   refine seqM ?_
   refine regO ?_
   refine cutO shT_ok ctNo_ok 0 ?_
   simp only [kO_normal,List.take_zero,List.drop_zero,go_sem]
   obtain ⟨w18,hw19,H⟩:=bsi H
   replace hw19:=Option.some.inj hw19
   have lhw19:w18.length=100:=by rw [← hw19];exact List.length_replicate
   refine allocO shT_ok ctNo_ok (len:=w18.length) (z:=1) (l:=(List.replicate 100 (c_b false)).flatten) (c:=enR c_b w18) rfl rfl rfl (by kernel_rfl) (by rw [lhw19];exact flat_len) (fun x y hx hy=>by subst hw19;exact arr_rep rfl x y (by simpa using hx) hy) ?_
   simp only [go_sem,Nat.reduceAdd]
   refine cutO shT_ok ctNo_ok 0 ?_
   simp only [kO_normal,List.take_zero,List.drop_zero,go_sem]
   refine endO ?_
   refine sq ctNo_ok ?_
   simp only [go_sem]
   refine seqM ?_
   refine sq ctNo_ok ?_
   simp only [go_sem]
   refine blkM ?_
   refine loop_den (fun s:(List Bool) × Int × Int × Int=>(tp 5 (.ptr 0 0 0 0::.ptr 1 0 0 0::tp 4 (.bool r1::.int .i64 r5::.ro 43 w1_3.length false (enR c_TStored w1_3)::.top::.ptr 11 0 0 0::.ptr 12 0 0 0::.top::.ptr 14 1 0 0::.int .u8 s.2.1::.int .i64 s.2.2.1::.int .i64 s.2.2.2::tp 240 [])))) (fun s=>[.lit 52 [.int .i64 r8.Limit,.int .i64 r8.Stay,.sl 4 3 0 w14.length false,.ro 43 r8.Group.length false (enR c_TStored r8.Group)],.lit 23 [.int .u8 p1.Start,.int .u8 p1.Deliver,.int .i64 p1.Most],.dead,.dead,.row 71 3 w14.length (enR c_TSleeper w14),.dead,.dead,.dead,.row 30 41 r16.1.Left.length (enR c_TFrame r16.1.Left),.row 71 3 r16.2.1.List.length (enR c_TSleeper r16.2.1.List),.row 73 43 r16.2.1.Group.length (enR c_TStored r16.2.1.Group),.lit 33 [.int .i64 r16.1.Aid,.sl 8 41 0 r16.1.Left.length false],.lit 52 [.int .i64 r16.2.1.Limit,.int .i64 r16.2.1.Stay,.sl 9 3 0 r16.2.1.List.length false,.sl 10 43 0 r16.2.1.Group.length false],.dead,.row 78 1 s.1.length (enR c_b s.1)]) (fun e:List Bool=>(tp 5 (.ptr 0 0 0 0::tp 5 (.bool r1::.int .i64 r5::.ro 43 w1_3.length false (enR c_TStored w1_3)::.top::.ptr 11 0 0 0::.ptr 12 0 0 0::.top::.ptr 14 1 0 0::tp 243 [])))) (fun e=>[.lit 52 [.int .i64 r8.Limit,.int .i64 r8.Stay,.sl 4 3 0 w14.length false,.ro 43 r8.Group.length false (enR c_TStored r8.Group)],.dead,.dead,.dead,.row 71 3 w14.length (enR c_TSleeper w14),.dead,.dead,.dead,.row 30 41 r16.1.Left.length (enR c_TFrame r16.1.Left),.row 71 3 r16.2.1.List.length (enR c_TSleeper r16.2.1.List),.row 73 43 r16.2.1.Group.length (enR c_TStored r16.2.1.Group),.lit 33 [.int .i64 r16.1.Aid,.sl 8 41 0 r16.1.Left.length false],.lit 52 [.int .i64 r16.2.1.Limit,.int .i64 r16.2.1.Stay,.sl 9 3 0 r16.2.1.List.length false,.sl 10 43 0 r16.2.1.Group.length false],.dead,.row 78 1 e.length (enR c_b e)]) H ?_ (fun s o H hn1_2 hn2_2=>?_) (fun w2_5 H=>?_)
   ·refine SubF_of ⟨[some 0,some 1,some 2,some 3,some 4,some 5,some 6,some 7,some 8,some 9,some 10,some 11,some 12,some 13,some 13],?_,?_,by rfl,by rfl⟩
    ·simp [CvL,Cv,getM,tp]
    ·exact ⟨cv,cv,CvB_dead,CvB_dead,(CvB_same nfA),CvB_dead,CvB_dead,CvB_dead,(CvB_same nfA),(CvB_same nfA),(CvB_same nfA),cv,cv,CvB_dead,CvB_row nr_b cl (fun _ _ _ _=>rfl),trivial⟩
   ·obtain ⟨v2_1,v2_2,v2_3,v2_4⟩:=s
    unfold F6_L2 at H
    try dsimp only at H ⊢
    try simp only [tp]
    refine seqM ?_
    refine sq ctNo_ok ?_
    simp only [go_sem,Nat.reduceLT,Nat.reduceAdd]
    repeat ((with_reducible refine And.intro ?_ ?_);focus exact an0)
    refine condM' rfl trivial (fun hc=>?_) (fun hc=>?_)
    ·replace H:=cond_f hc H
     refine rg ctNo_ok ?_
     simp only [go_sem]
     refine ⟨_,(Option.some.inj H).symm,?_⟩
     refine SubF_of ⟨[some 0,some 1,some 2,some 3,some 4,some 5,some 6,some 7,some 8,some 9,some 10,some 11,some 12,some 13,some 14],?_,?_,by rfl,by rfl⟩
     ·simp [CvL,Cv,getM]
     ·exact ⟨cv,CvB_dead,CvB_dead,CvB_dead,(CvB_same nfA),CvB_dead,CvB_dead,CvB_dead,(CvB_same nfA),(CvB_same nfA),(CvB_same nfA),cv,cv,CvB_dead,CvB_row nr_b cl (fun _ _ _ _=>rfl),trivial⟩
    replace H:=cond_t hc H
    refine rg ctNo_ok ?_
    simp only [go_sem]
    refine seqM ?_
    refine blkM ?_
    refine seqM ?_
    obtain ⟨f20,H⟩:=need_some.1 H
    replace f20:=inb_iff.1 f20
    refine rg ctNo_ok ?_
    simp only [go_sem,Nat.reduceLT,Nat.reduceAdd,f20]
    repeat ((with_reducible refine And.intro ?_ ?_);focus exact an6)
    refine seqM ?_
    refine sq ctNo_ok ?_
    simp only [go_sem,Nat.reduceLT,Nat.reduceAdd]
    repeat ((with_reducible refine And.intro ?_ ?_);focus exact an0)
    refine condM rfl trivial (fun hc=>?_) (fun hc=>?_)
    ·replace H:=cond_t hc H
     refine seqM ?_
     obtain ⟨f21,H⟩:=need_some.1 H
     replace f21:=g_iff.1 f21
     obtain ⟨f22,H⟩:=need_some.1 H
     replace f22:=g_iff.1 f22
     refine rg ct6t6_ok ?_
     simp only [go_sem,Nat.reduceLeDiff,Nat.reduceLT,Nat.reduceAdd,ct6t6_31,body31,ct6t6_35,body35]
     repeat ((with_reducible refine And.intro ?_ ?_);focus (first|(with_reducible trivial)|omega|exact f21|exact f22|(intro g;have q:=f21 (by first|exact g|(rw [g];rfl)|simpa using g);first|exact q|exact ⟨q.1,q.2.1⟩|exact q.2.2|omega|exact ⟨g,q⟩|exact ⟨trivial,q⟩|exact ⟨g,q.1,q.2.1⟩|exact ⟨g,q.2.2⟩)|(intro g;have q:=f22 (by first|exact g|(rw [g];rfl)|simpa using g);first|exact q|exact ⟨q.1,q.2.1⟩|exact q.2.2|omega|exact ⟨g,q⟩|exact ⟨trivial,q⟩|exact ⟨g,q.1,q.2.1⟩|exact ⟨g,q.2.2⟩)|(intro g;(try have q0:=f21 (by first|exact g|(rw [g];rfl)|simpa using g));(try have q1:=f22 (by first|exact g|(rw [g];rfl)|simpa using g));and_intros<;>first|(with_reducible trivial)|assumption|exact nfc|(intro g2;rw [g,g2];rfl)|(intro g2;assumption)|(simp only [g,Bool.true_and,Bool.and_true,Bool.not_false,Bool.not_true];assumption)|grind)|(and_intros<;>first|(with_reducible trivial)|omega|assumption|exact nfc|first|exact rfl|exact trivial|exact fitI|exact .inr rfl|exact .inl rfl|exact fun x hx=>absurd hx (by omega))|grind))
     refine rg ctNo_ok ?_
     simp only [go_sem]
     have H:=hn2_2 _ (Option.some.inj H).symm
     obtain rfl:=Option.some.inj H
     first|rfl|simp only [Bool.and_false,Bool.false_and,Bool.and_true,Bool.true_and]
    replace H:=cond_f hc H
    refine rg ctNo_ok ?_
    simp only [go_sem]
    refine seqM ?_
    obtain ⟨f23,H⟩:=need_some.1 H
    replace f23:=inb_iff.1 f23
    refine rg ctNo_ok ?_
    simp only [go_sem,Nat.reduceLT,Nat.reduceAdd,f23]
    repeat ((with_reducible refine And.intro ?_ ?_);focus exact an6)
    refine seqM ?_
    refine seqM ?_
    obtain ⟨f24,H⟩:=need_some.1 H
    replace f24:=g_iff.1 f24
    replace f24:=fun g=>inb_iff.1 (f24 g)
    obtain ⟨f25,H⟩:=need_some.1 H
    replace f25:=g_iff.1 f25
    replace f25:=fun g=>inb_iff.1 (f25 g)
    obtain ⟨f26,H⟩:=need_some.1 H
    replace f26:=g_iff.1 f26
    replace f26:=fun g=>inb_iff.1 (f26 g)
    obtain ⟨f27,H⟩:=need_some.1 H
    replace f27:=g_iff.1 f27
    replace f27:=fun g=>inb_iff.1 (f27 g)
    obtain ⟨f28,H⟩:=need_some.1 H
    replace f28:=g_iff.1 f28
    replace f28:=fun g=>inb_iff.1 (f28 g)
    obtain ⟨f29,H⟩:=need_some.1 H
    replace f29:=g_iff.1 f29
    refine draw_quiet shT_ok ct6t7_ok (by kernel_rfl) (by kernel_rfl) ?_
    simp only [go_sem,Nat.reduceLeDiff,Nat.reduceLT,Nat.reduceAdd,ct6t7_36,body36]
    repeat ((with_reducible refine And.intro ?_ ?_);focus (first|(with_reducible trivial)|omega|exact f24|exact f25|exact f26|exact f27|exact f28|exact f29|(intro g;have q:=f24 (by first|exact g|(rw [g];rfl)|simpa using g);first|exact q|exact ⟨q.1,q.2.1⟩|exact q.2.2|omega|exact ⟨g,q⟩|exact ⟨trivial,q⟩|exact ⟨g,q.1,q.2.1⟩|exact ⟨g,q.2.2⟩)|(intro g;have q:=f25 (by first|exact g|(rw [g];rfl)|simpa using g);first|exact q|exact ⟨q.1,q.2.1⟩|exact q.2.2|omega|exact ⟨g,q⟩|exact ⟨trivial,q⟩|exact ⟨g,q.1,q.2.1⟩|exact ⟨g,q.2.2⟩)|(intro g;have q:=f26 (by first|exact g|(rw [g];rfl)|simpa using g);first|exact q|exact ⟨q.1,q.2.1⟩|exact q.2.2|omega|exact ⟨g,q⟩|exact ⟨trivial,q⟩|exact ⟨g,q.1,q.2.1⟩|exact ⟨g,q.2.2⟩)|(intro g;have q:=f27 (by first|exact g|(rw [g];rfl)|simpa using g);first|exact q|exact ⟨q.1,q.2.1⟩|exact q.2.2|omega|exact ⟨g,q⟩|exact ⟨trivial,q⟩|exact ⟨g,q.1,q.2.1⟩|exact ⟨g,q.2.2⟩)|(intro g;have q:=f28 (by first|exact g|(rw [g];rfl)|simpa using g);first|exact q|exact ⟨q.1,q.2.1⟩|exact q.2.2|omega|exact ⟨g,q⟩|exact ⟨trivial,q⟩|exact ⟨g,q.1,q.2.1⟩|exact ⟨g,q.2.2⟩)|(intro g;have q:=f29 (by first|exact g|(rw [g];rfl)|simpa using g);first|exact q|exact ⟨q.1,q.2.1⟩|exact q.2.2|omega|exact ⟨g,q⟩|exact ⟨trivial,q⟩|exact ⟨g,q.1,q.2.1⟩|exact ⟨g,q.2.2⟩)|(intro g;(try have q0:=f24 (by first|exact g|(rw [g];rfl)|simpa using g));(try have q1:=f25 (by first|exact g|(rw [g];rfl)|simpa using g));(try have q2:=f26 (by first|exact g|(rw [g];rfl)|simpa using g));(try have q3:=f27 (by first|exact g|(rw [g];rfl)|simpa using g));(try have q4:=f28 (by first|exact g|(rw [g];rfl)|simpa using g));(try have q5:=f29 (by first|exact g|(rw [g];rfl)|simpa using g));and_intros<;>first|(with_reducible trivial)|assumption|exact nfc|(intro g2;rw [g,g2];rfl)|(intro g2;assumption)|(simp only [g,Bool.true_and,Bool.and_true,Bool.not_false,Bool.not_true];assumption)|grind)|(and_intros<;>first|(with_reducible trivial)|omega|assumption|exact nfc|first|exact rfl|exact trivial|exact fitI|exact .inr rfl|exact .inl rfl|exact fun x hx=>absurd hx (by omega))|grind))
    refine condM rfl trivial (fun hc=>?_) (fun hc=>?_)
    ·replace H:=cond_t hc H
     refine sq ctNo_ok ?_
     simp only [go_sem]
     refine rg ctNo_ok ?_
     simp only [go_sem]
     have H:=hn2_2 _ (Option.some.inj H).symm
     obtain rfl:=Option.some.inj H
     first|rfl|simp only [Bool.and_false,Bool.false_and,Bool.and_true,Bool.true_and]
    replace H:=cond_f hc H
    refine rg ctNo_ok ?_
    simp only [go_sem]
    obtain ⟨f30,H⟩:=need_some.1 H
    replace f30:=inb_iff.1 f30
    obtain ⟨f31,H⟩:=need_some.1 H
    replace f31:=inb_iff.1 f31
    obtain ⟨f32,H⟩:=need_some.1 H
    replace f32:=inb_iff.1 f32
    refine draw_rule shT_ok ctNo_ok 0 (by kernel_rfl) (by kernel_rfl) ?_
    intro an han
    simp only [d_nil,d_cons,nxtD,xrD,xoD,roEq,minL,List.append_nil,refsOp,refs,mask,maskF,place,placeF,okLog,pairOk,hit,inL,slotsF,nrH,nrB,List.replicate_zero,Nat.sub_self,Nat.add_zero,Nat.zero_add,Nat.reduceSub,Nat.lt_add_one,go_sem,Nat.reduceLeDiff,Nat.reduceLT,Nat.reduceAdd,Nat.reduceSub,Nat.reduceBEq,f30,f32]
    repeat ((with_reducible refine And.intro ?_ ?_);focus exact an2)
    refine rg ctNo_ok ?_
    simp only [go_sem]
    refine ⟨_,(Option.some.inj H).symm,?_⟩
    refine SubF_of ⟨[some 0,some 1,some 2,some 3,some 4,some 5,some 6,some 7,some 8,some 9,some 10,some 11,some 12,some 13,some 14],?_,?_,by rfl,by rfl⟩
    ·simp [CvL,Cv,getM]
    ·exact ⟨cv,cv,CvB_dead,CvB_dead,(CvB_same nfA),CvB_dead,CvB_dead,CvB_dead,(CvB_same nfA),(CvB_same nfA),(CvB_same nfA),cv,cv,CvB_dead,CvB_row nr_b cl (upc_row (f:=c_b) v2_1 ((wr .i64 (gd ((gd r16.1.Left v2_4.toNat).Body) 0)).toNat) 0 true (fun _ _ _ _=>rfl) (fun y hy=>match y,hy with|0,_=>rfl|(y+1),h=>absurd h nlt)),trivial⟩
   ·try dsimp only at H ⊢
    try simp only [tp]
    try simp only [m_normal]
    refine seqM ?_
    refine sq ctNo_ok ?_
    simp only [go_sem,Nat.reduceLeDiff,Nat.reduceLT,Nat.reduceAdd]
    repeat ((with_reducible refine And.intro ?_ ?_);focus exact an0)
    refine condM rfl trivial (fun hc=>?_) (fun hc=>?_)
    ·replace H:=cond_t hc H
     refine sq ctNo_ok ?_
     simp only [go_sem]
     refine rg ctNo_ok ?_
     simp only [go_sem]
     obtain rfl:=Option.some.inj H
     first|rfl|simp only [Bool.and_false,Bool.false_and,Bool.and_true,Bool.true_and]
    replace H:=cond_f hc H
    refine rg ctNo_ok ?_
    simp only [go_sem]
    refine seqM ?_
    obtain ⟨f33,H⟩:=need_some.1 H
    replace f33:=inb_iff.1 f33
    refine rg ctNo_ok ?_
    simp only [go_sem,Nat.reduceLeDiff,Nat.reduceLT,Nat.reduceAdd,f33]
    repeat ((with_reducible refine And.intro ?_ ?_);focus exact an6)
    refine seqM ?_
    refine sq ctNo_ok ?_
    simp only [go_sem]
    refine blkM ?_
    refine loop_den (fun s:(List Bool) × Int=>(tp 5 (.ptr 0 0 0 0::tp 5 (.bool r1::.int .i64 r5::.ro 43 w1_3.length false (enR c_TStored w1_3)::.top::.ptr 11 0 0 0::.ptr 12 0 0 0::.top::.ptr 15 1 0 0::tp 5 (.ro 43 (((gd r16.2.1.List r5.toNat).Held).length) false (enR c_TStored ((gd r16.2.1.List r5.toNat).Held))::.int .i64 s.2::tp 236 []))))) (fun s=>[.lit 52 [.int .i64 r8.Limit,.int .i64 r8.Stay,.sl 4 3 0 w14.length false,.ro 43 r8.Group.length false (enR c_TStored r8.Group)],.dead,.dead,.dead,.row 71 3 w14.length (enR c_TSleeper w14),.dead,.dead,.dead,.row 30 41 r16.1.Left.length (enR c_TFrame r16.1.Left),.row 71 3 r16.2.1.List.length (enR c_TSleeper r16.2.1.List),.row 73 43 r16.2.1.Group.length (enR c_TStored r16.2.1.Group),.lit 33 [.int .i64 r16.1.Aid,.sl 8 41 0 r16.1.Left.length false],.lit 52 [.int .i64 r16.2.1.Limit,.int .i64 r16.2.1.Stay,.sl 9 3 0 r16.2.1.List.length false,.sl 10 43 0 r16.2.1.Group.length false],.dead,.dead,.row 78 1 s.1.length (enR c_b s.1)]) (fun e:Unit=>(tp 5 (.ptr 0 0 0 0::tp 5 (.bool r1::.int .i64 r5::.ro 43 w1_3.length false (enR c_TStored w1_3)::.top::.ptr 11 0 0 0::.ptr 12 0 0 0::tp 7 (.ro 43 (((gd r16.2.1.List r5.toNat).Held).length) false (enR c_TStored ((gd r16.2.1.List r5.toNat).Held))::tp 237 []))))) (fun e=>[.lit 52 [.int .i64 r8.Limit,.int .i64 r8.Stay,.sl 4 3 0 w14.length false,.ro 43 r8.Group.length false (enR c_TStored r8.Group)],.dead,.dead,.dead,.row 71 3 w14.length (enR c_TSleeper w14),.dead,.dead,.dead,.row 30 41 r16.1.Left.length (enR c_TFrame r16.1.Left),.row 71 3 r16.2.1.List.length (enR c_TSleeper r16.2.1.List),.row 73 43 r16.2.1.Group.length (enR c_TStored r16.2.1.Group),.lit 33 [.int .i64 r16.1.Aid,.sl 8 41 0 r16.1.Left.length false],.lit 52 [.int .i64 r16.2.1.Limit,.int .i64 r16.2.1.Stay,.sl 9 3 0 r16.2.1.List.length false,.sl 10 43 0 r16.2.1.Group.length false],.dead,.dead]) H ?_ (fun s o H hn1_3 hn2_3=>?_) (fun e H=>?_)
    ·refine SubF_of ⟨[some 0,some 1,some 2,some 3,some 4,some 5,some 6,some 7,some 8,some 9,some 10,some 11,some 12,some 13,some 14,some 14],?_,?_,by rfl,by rfl⟩
     ·simp [CvL,Cv,getM,tp]
     ·exact ⟨cv,CvB_dead,CvB_dead,CvB_dead,(CvB_same nfA),CvB_dead,CvB_dead,CvB_dead,(CvB_same nfA),(CvB_same nfA),(CvB_same nfA),cv,cv,CvB_dead,CvB_dead,CvB_row nr_b cl (fun _ _ _ _=>rfl),trivial⟩
    ·obtain ⟨v3_1,v3_2⟩:=s
     unfold F6_L3 at H
     try dsimp only at H ⊢
     try simp only [tp]
     refine seqM ?_
     refine sq ctNo_ok ?_
     simp only [go_sem,Nat.reduceAdd]
     repeat ((with_reducible refine And.intro ?_ ?_);focus exact an0)
     refine condM' rfl trivial (fun hc=>?_) (fun hc=>?_)
     ·replace H:=cond_f hc H
      refine rg ctNo_ok ?_
      simp only [go_sem]
      refine ⟨_,(Option.some.inj H).symm,?_⟩
      refine SubF_of ⟨[some 0,some 1,some 2,some 3,some 4,some 5,some 6,some 7,some 8,some 9,some 10,some 11,some 12,some 13,some 14],?_,?_,by rfl,by rfl⟩
      ·simp [CvL,Cv,getM]
      ·exact ⟨cv,CvB_dead,CvB_dead,CvB_dead,(CvB_same nfA),CvB_dead,CvB_dead,CvB_dead,(CvB_same nfA),(CvB_same nfA),(CvB_same nfA),cv,cv,CvB_dead,CvB_dead,trivial⟩
     replace H:=cond_t hc H
     refine rg ctNo_ok ?_
     simp only [go_sem]
     refine seqM ?_
     refine blkM ?_
     refine seqM ?_
     refine seqM ?_
     obtain ⟨f34,H⟩:=need_some.1 H
     replace f34:=inb_iff.1 f34
     refine rg ctNo_ok ?_
     simp only [go_sem,Nat.reduceLT,Nat.reduceAdd,reduceCtorEq,f34]
     repeat ((with_reducible refine And.intro ?_ ?_);focus exact an0)
     refine condM rfl trivial (fun hc=>?_) (fun hc=>?_)
     ·replace H:=cond_t hc H
      refine sq ctNo_ok ?_
      simp only [go_sem]
      refine rg ctNo_ok ?_
      simp only [go_sem]
      have H:=hn2_3 _ (Option.some.inj H).symm
      obtain rfl:=Option.some.inj H
      first|rfl|simp only [Bool.and_false,Bool.false_and,Bool.and_true,Bool.true_and]
     replace H:=cond_f hc H
     refine rg ctNo_ok ?_
     simp only [go_sem]
     refine seqM ?_
     obtain ⟨f35,H⟩:=need_some.1 H
     replace f35:=inb_iff.1 f35
     obtain ⟨f36,H⟩:=need_some.1 H
     replace f36:=inb_iff.1 f36
     refine rg ctNo_ok ?_
     simp only [go_sem,Nat.reduceLT,Nat.reduceAdd,reduceCtorEq,f35,f36]
     repeat ((with_reducible refine And.intro ?_ ?_);focus exact an6)
     refine seqM ?_
     refine seqM ?_
     obtain ⟨f37,H⟩:=need_some.1 H
     replace f37:=g_iff.1 f37
     replace f37:=fun g=>inb_iff.1 (f37 g)
     obtain ⟨f38,H⟩:=need_some.1 H
     replace f38:=g_iff.1 f38
     replace f38:=fun g=>inb_iff.1 (f38 g)
     obtain ⟨f39,H⟩:=need_some.1 H
     replace f39:=g_iff.1 f39
     replace f39:=fun g=>inb_iff.1 (f39 g)
     obtain ⟨f40,H⟩:=need_some.1 H
     replace f40:=g_iff.1 f40
     replace f40:=fun g=>inb_iff.1 (f40 g)
     obtain ⟨f41,H⟩:=need_some.1 H
     replace f41:=g_iff.1 f41
     refine draw_quiet shT_ok ct6t8_ok (by kernel_rfl) (by kernel_rfl) ?_
     simp only [go_sem,Nat.reduceLT,Nat.reduceAdd,reduceCtorEq,ct6t8_15,body15]
     repeat ((with_reducible refine And.intro ?_ ?_);focus (first|(with_reducible trivial)|omega|exact f37|exact f38|exact f39|exact f40|exact f41|(intro g;have q:=f37 (by first|exact g|(rw [g];rfl)|simpa using g);first|exact q|exact ⟨q.1,q.2.1⟩|exact q.2.2|omega|exact ⟨g,q⟩|exact ⟨trivial,q⟩|exact ⟨g,q.1,q.2.1⟩|exact ⟨g,q.2.2⟩)|(intro g;have q:=f38 (by first|exact g|(rw [g];rfl)|simpa using g);first|exact q|exact ⟨q.1,q.2.1⟩|exact q.2.2|omega|exact ⟨g,q⟩|exact ⟨trivial,q⟩|exact ⟨g,q.1,q.2.1⟩|exact ⟨g,q.2.2⟩)|(intro g;have q:=f39 (by first|exact g|(rw [g];rfl)|simpa using g);first|exact q|exact ⟨q.1,q.2.1⟩|exact q.2.2|omega|exact ⟨g,q⟩|exact ⟨trivial,q⟩|exact ⟨g,q.1,q.2.1⟩|exact ⟨g,q.2.2⟩)|(intro g;have q:=f40 (by first|exact g|(rw [g];rfl)|simpa using g);first|exact q|exact ⟨q.1,q.2.1⟩|exact q.2.2|omega|exact ⟨g,q⟩|exact ⟨trivial,q⟩|exact ⟨g,q.1,q.2.1⟩|exact ⟨g,q.2.2⟩)|(intro g;have q:=f41 (by first|exact g|(rw [g];rfl)|simpa using g);first|exact q|exact ⟨q.1,q.2.1⟩|exact q.2.2|omega|exact ⟨g,q⟩|exact ⟨trivial,q⟩|exact ⟨g,q.1,q.2.1⟩|exact ⟨g,q.2.2⟩)|(intro g;(try have q0:=f37 (by first|exact g|(rw [g];rfl)|simpa using g));(try have q1:=f38 (by first|exact g|(rw [g];rfl)|simpa using g));(try have q2:=f39 (by first|exact g|(rw [g];rfl)|simpa using g));(try have q3:=f40 (by first|exact g|(rw [g];rfl)|simpa using g));(try have q4:=f41 (by first|exact g|(rw [g];rfl)|simpa using g));and_intros<;>first|(with_reducible trivial)|assumption|exact nfc|(intro g2;rw [g,g2];rfl)|(intro g2;assumption)|(simp only [g,Bool.true_and,Bool.and_true,Bool.not_false,Bool.not_true];assumption)|grind)|(and_intros<;>first|(with_reducible trivial)|omega|assumption|exact nfc|first|exact rfl|exact trivial|exact fitI|exact .inr rfl|exact .inl rfl|exact fun x hx=>absurd hx (by omega))|grind))
     refine condM rfl trivial (fun hc=>?_) (fun hc=>?_)
     ·replace H:=cond_t hc H
      refine sq ctNo_ok ?_
      simp only [go_sem]
      refine rg ctNo_ok ?_
      simp only [go_sem]
      have H:=hn2_3 _ (Option.some.inj H).symm
      obtain rfl:=Option.some.inj H
      first|rfl|simp only [Bool.and_false,Bool.false_and,Bool.and_true,Bool.true_and]
     replace H:=cond_f hc H
     refine rg ctNo_ok ?_
     simp only [go_sem]
     obtain ⟨f42,H⟩:=need_some.1 H
     replace f42:=inb_iff.1 f42
     obtain ⟨f43,H⟩:=need_some.1 H
     replace f43:=inb_iff.1 f43
     refine rg ctNo_ok ?_
     simp only [go_sem,f42,f43]
     repeat ((with_reducible refine And.intro ?_ ?_);focus exact an6)
     refine rg ctNo_ok ?_
     simp only [go_sem]
     refine ⟨_,(Option.some.inj H).symm,?_⟩
     refine SubF_of ⟨[some 0,some 1,some 2,some 3,some 4,some 5,some 6,some 7,some 8,some 9,some 10,some 11,some 12,some 13,some 14,some 15],?_,?_,by rfl,by rfl⟩
     ·simp [CvL,Cv,getM]
     ·exact ⟨cv,CvB_dead,CvB_dead,CvB_dead,(CvB_same nfA),CvB_dead,CvB_dead,CvB_dead,(CvB_same nfA),(CvB_same nfA),(CvB_same nfA),cv,cv,CvB_dead,CvB_dead,CvB_row nr_b cl (upc_row (f:=c_b) v3_1 ((wr .i64 (gd (((gd ((gd r16.2.1.List r5.toNat).Held) v3_2.toNat).Frame).Body) 0)).toNat) 0 true (fun _ _ _ _=>rfl) (fun y hy=>match y,hy with|0,_=>rfl|(y+1),h=>absurd h nlt)),trivial⟩
    ·try dsimp only at H ⊢
     try simp only [tp]
     try simp only [m_normal]
     refine seqM ?_
     obtain ⟨f44,H⟩:=need_some.1 H
     replace f44:=inb_iff.1 f44
     refine rg ctNo_ok ?_
     simp only [go_sem,Nat.reduceLeDiff,Nat.reduceLT,Nat.reduceAdd,f44]
     repeat ((with_reducible refine And.intro ?_ ?_);focus exact an6)
     refine seqM ?_
     obtain ⟨w45,hw46,H⟩:=bsi H
     replace hw46:=Option.some.inj hw46
     have lhw46:w45.length=w14.length:=by rw [← hw46];exact cl
     refine subF_mean (t2:=(tp 5 (.ptr 0 0 0 0::tp 5 (.bool r1::.top::.ro 43 w1_3.length false (enR c_TStored w1_3)::.top::.ptr 11 0 0 0::.ptr 12 0 0 0::tp 7 (.ro 43 (((gd r16.2.1.List r5.toNat).Held).length) false (enR c_TStored ((gd r16.2.1.List r5.toNat).Held))::tp 237 []))))) (h2:=[.lit 52 [.int .i64 r8.Limit,.int .i64 r8.Stay,.sl 4 3 0 w45.length false,.ro 43 r8.Group.length false (enR c_TStored r8.Group)],.dead,.dead,.dead,.row 71 3 w45.length (enR c_TSleeper w45),.dead,.dead,.dead,.row 30 41 r16.1.Left.length (enR c_TFrame r16.1.Left),.row 71 3 r16.2.1.List.length (enR c_TSleeper r16.2.1.List),.row 73 43 r16.2.1.Group.length (enR c_TStored r16.2.1.Group),.lit 33 [.int .i64 r16.1.Aid,.sl 8 41 0 r16.1.Left.length false],.lit 52 [.int .i64 r16.2.1.Limit,.int .i64 r16.2.1.Stay,.sl 9 3 0 r16.2.1.List.length false,.sl 10 43 0 r16.2.1.Group.length false],.dead,.dead]) ?_ ?_
     ·refine SubF_of ⟨[some 0,some 1,some 2,some 3,some 4,some 5,some 6,some 7,some 8,some 9,some 10,some 11,some 12,some 13,some 14],?_,?_,by rfl,by rfl⟩
      ·simp [CvL,Cv,getM,tp]
      ·exact ⟨(by simp [CvB,CvL,Cv,blkAt,geth,getM,lhw46]),CvB_dead,CvB_dead,CvB_dead,CvB_row nr_TSleeper lhw46 (hw46 ▸ (upc_row (f:=c_TSleeper) w14 r5.toNat 2 (TSleeper.mk ((gd w14 r5.toNat).Aid) ((gd w14 r5.toNat).Asleep) ((gd r16.2.1.List r5.toNat).Held)) (fun _ _ _ _=>rfl) (fun y hy=>match y,hy with|0,_=>rfl|1,_=>rfl|2,_=>rfl|(y+3),h=>absurd h nlt))),CvB_dead,CvB_dead,CvB_dead,CvB_row nr_TFrame rfl (fun _ _ _ _=>rfl),CvB_row nr_TSleeper rfl (fun _ _ _ _=>rfl),CvB_row nr_TStored rfl (fun _ _ _ _=>rfl),(by simp [CvB,CvL,Cv,blkAt,geth,getM]),(by simp [CvB,CvL,Cv,blkAt,geth,getM]),CvB_dead,CvB_dead,trivial⟩
     simp only [tp]
     obtain ⟨f47,H⟩:=need_some.1 H
     replace f47:=g_iff.1 f47
     obtain ⟨f48,H⟩:=need_some.1 H
     replace f48:=g_iff.1 f48
     refine rg ct6t9_ok ?_
     simp only [go_sem,Nat.reduceLT,Nat.reduceAdd,ct6t9_31,body31,ct6t9_34,body34]
     repeat ((with_reducible refine And.intro ?_ ?_);focus (first|(with_reducible trivial)|omega|exact f47|exact f48|(intro g;have q:=f47 (by first|exact g|(rw [g];rfl)|simpa using g);first|exact q|exact ⟨q.1,q.2.1⟩|exact q.2.2|omega|exact ⟨g,q⟩|exact ⟨trivial,q⟩|exact ⟨g,q.1,q.2.1⟩|exact ⟨g,q.2.2⟩)|(intro g;have q:=f48 (by first|exact g|(rw [g];rfl)|simpa using g);first|exact q|exact ⟨q.1,q.2.1⟩|exact q.2.2|omega|exact ⟨g,q⟩|exact ⟨trivial,q⟩|exact ⟨g,q.1,q.2.1⟩|exact ⟨g,q.2.2⟩)|(intro g;(try have q0:=f47 (by first|exact g|(rw [g];rfl)|simpa using g));(try have q1:=f48 (by first|exact g|(rw [g];rfl)|simpa using g));and_intros<;>first|(with_reducible trivial)|assumption|exact nfc|(intro g2;rw [g,g2];rfl)|(intro g2;assumption)|(simp only [g,Bool.true_and,Bool.and_true,Bool.not_false,Bool.not_true];assumption)|grind)|(and_intros<;>first|(with_reducible trivial)|omega|assumption|exact nfc|first|exact rfl|exact trivial|exact fitI|exact .inr rfl|exact .inl rfl|exact fun x hx=>absurd hx (by omega))|grind))
     refine rg ctNo_ok ?_
     simp only [go_sem]
     obtain rfl:=Option.some.inj H
     first|rfl|simp only [Bool.and_false,Bool.false_and,Bool.and_true,Bool.true_and]
 ·cases hb
end Go.Proofs.Ytnclkplbeenmdaa
