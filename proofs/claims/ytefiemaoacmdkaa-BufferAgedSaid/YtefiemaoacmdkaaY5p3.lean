/-
  What BufferAged reaches.
-/
import Derived.Test.YtefiemaoacmdkaaY5p2
namespace Go.Proofs.Ytefiemaoacmdkaa
open Go.Am
set_option maxHeartbeats 4000000
set_option maxRecDepth 20000
set_option linter.unusedVariables false
set_option linter.unusedSimpArgs false
noncomputable def ct23t0:Ct:=tab [(18,pureC body18)]
theorem ct23t0_ok:CtOk Try.prog ct23t0:=tab_cons ok18 <| tab_nil
theorem ct23t0_18 (l:List AV) (h:List ABlk):ct23t0 18 l h=pureC body18 l h:=rfl
noncomputable def ct23t1:Ct:=tab [(81,pureC body81)]
theorem ct23t1_ok:CtOk Try.prog ct23t1:=tab_cons ok81 <| tab_nil
theorem ct23t1_81 (l:List AV) (h:List ABlk):ct23t1 81 l h=pureC body81 l h:=rfl
noncomputable def ct23t2 (gi:Nat):Ct:=tab [(65,genC (body65f gi))]
theorem ct23t2_ok (gi:Nat):CtOk Try.prog (ct23t2 gi):=tab_cons (ok65f gi) <| tab_nil
theorem ct23t2_65 (gi:Nat) (l:List AV) (h:List ABlk):(ct23t2 gi) 65 l h=genC (body65f gi) l h:=rfl
noncomputable def ct23t3:Ct:=tab [(56,pureC body56)]
theorem ct23t3_ok:CtOk Try.prog ct23t3:=tab_cons ok56 <| tab_nil
theorem ct23t3_56 (l:List AV) (h:List ABlk):ct23t3 56 l h=pureC body56 l h:=rfl
noncomputable def ct23t4:Ct:=tab [(58,pureC body58_1)]
theorem ct23t4_ok:CtOk Try.prog ct23t4:=tab_cons ok58_1 <| tab_nil
theorem ct23t4_58 (l:List AV) (h:List ABlk):ct23t4 58 l h=pureC body58_1 l h:=rfl
noncomputable def ct23t5:Ct:=tab [(60,delN 61 43)]
theorem ct23t5_ok:CtOk Try.prog ct23t5:=tab_cons ok60 <| tab_nil
theorem ct23t5_60 (l:List AV) (h:List ABlk):ct23t5 60 l h=delN 61 43 l h:=rfl
noncomputable def F23_L1 (r5:Int × Bool) (r8:TBuffer) (v1_1:Int) (v1_2:TStored):Option (Lp (Int × TStored) ((TStored) ⊕ (TFrame × TBuffer × Int))) :=
 bif (bLt v1_1 (((gd r8.List r5.1.toNat).Held).length:Nat)) then (need (inb v1_1 (((gd r8.List r5.1.toNat).Held).length)) <| (F56 (TStored.mk ((gd ((gd r8.List r5.1.toNat).Held) v1_1.toNat).Cat) ((gd ((gd r8.List r5.1.toNat).Held) v1_1.toNat).At) (TFrame.mk (THeader.mk ((((gd ((gd r8.List r5.1.toNat).Held) v1_1.toNat).Frame).Head).Kind) ((((gd ((gd r8.List r5.1.toNat).Held) v1_1.toNat).Frame).Head).Sub) ((((gd ((gd r8.List r5.1.toNat).Held) v1_1.toNat).Frame).Head).ToDs) ((((gd ((gd r8.List r5.1.toNat).Held) v1_1.toNat).Frame).Head).FromDs) ((((gd ((gd r8.List r5.1.toNat).Held) v1_1.toNat).Frame).Head).More) ((((gd ((gd r8.List r5.1.toNat).Held) v1_1.toNat).Frame).Head).Retry) ((((gd ((gd r8.List r5.1.toNat).Held) v1_1.toNat).Frame).Head).Sleep) ((((gd ((gd r8.List r5.1.toNat).Held) v1_1.toNat).Frame).Head).MoreData) ((((gd ((gd r8.List r5.1.toNat).Held) v1_1.toNat).Frame).Head).Protected) ((((gd ((gd r8.List r5.1.toNat).Held) v1_1.toNat).Frame).Head).Duration) (A6u8.mk (((((gd ((gd r8.List r5.1.toNat).Held) v1_1.toNat).Frame).Head).A1).x0) (((((gd ((gd r8.List r5.1.toNat).Held) v1_1.toNat).Frame).Head).A1).x1) (((((gd ((gd r8.List r5.1.toNat).Held) v1_1.toNat).Frame).Head).A1).x2) (((((gd ((gd r8.List r5.1.toNat).Held) v1_1.toNat).Frame).Head).A1).x3) (((((gd ((gd r8.List r5.1.toNat).Held) v1_1.toNat).Frame).Head).A1).x4) (((((gd ((gd r8.List r5.1.toNat).Held) v1_1.toNat).Frame).Head).A1).x5)) (A6u8.mk (((((gd ((gd r8.List r5.1.toNat).Held) v1_1.toNat).Frame).Head).A2).x0) (((((gd ((gd r8.List r5.1.toNat).Held) v1_1.toNat).Frame).Head).A2).x1) (((((gd ((gd r8.List r5.1.toNat).Held) v1_1.toNat).Frame).Head).A2).x2) (((((gd ((gd r8.List r5.1.toNat).Held) v1_1.toNat).Frame).Head).A2).x3) (((((gd ((gd r8.List r5.1.toNat).Held) v1_1.toNat).Frame).Head).A2).x4) (((((gd ((gd r8.List r5.1.toNat).Held) v1_1.toNat).Frame).Head).A2).x5)) (A6u8.mk (((((gd ((gd r8.List r5.1.toNat).Held) v1_1.toNat).Frame).Head).A3).x0) (((((gd ((gd r8.List r5.1.toNat).Held) v1_1.toNat).Frame).Head).A3).x1) (((((gd ((gd r8.List r5.1.toNat).Held) v1_1.toNat).Frame).Head).A3).x2) (((((gd ((gd r8.List r5.1.toNat).Held) v1_1.toNat).Frame).Head).A3).x3) (((((gd ((gd r8.List r5.1.toNat).Held) v1_1.toNat).Frame).Head).A3).x4) (((((gd ((gd r8.List r5.1.toNat).Held) v1_1.toNat).Frame).Head).A3).x5)) (A6u8.mk (((((gd ((gd r8.List r5.1.toNat).Held) v1_1.toNat).Frame).Head).A4).x0) (((((gd ((gd r8.List r5.1.toNat).Held) v1_1.toNat).Frame).Head).A4).x1) (((((gd ((gd r8.List r5.1.toNat).Held) v1_1.toNat).Frame).Head).A4).x2) (((((gd ((gd r8.List r5.1.toNat).Held) v1_1.toNat).Frame).Head).A4).x3) (((((gd ((gd r8.List r5.1.toNat).Held) v1_1.toNat).Frame).Head).A4).x4) (((((gd ((gd r8.List r5.1.toNat).Held) v1_1.toNat).Frame).Head).A4).x5)) ((((gd ((gd r8.List r5.1.toNat).Held) v1_1.toNat).Frame).Head).Seq) ((((gd ((gd r8.List r5.1.toNat).Held) v1_1.toNat).Frame).Head).Frag) ((((gd ((gd r8.List r5.1.toNat).Held) v1_1.toNat).Frame).Head).Tid) ((((gd ((gd r8.List r5.1.toNat).Held) v1_1.toNat).Frame).Head).Ack) ((((gd ((gd r8.List r5.1.toNat).Held) v1_1.toNat).Frame).Head).Amsdu) ((((gd ((gd r8.List r5.1.toNat).Held) v1_1.toNat).Frame).Head).Eosp)) (((gd ((gd r8.List r5.1.toNat).Held) v1_1.toNat).Frame).Body))) v1_2).bind fun r17=>bif (bLt 0 r17) then (need (inb v1_1 (((gd r8.List r5.1.toNat).Held).length)) <| some (.next (wr .i64 (v1_1+1),(TStored.mk ((gd ((gd r8.List r5.1.toNat).Held) v1_1.toNat).Cat) ((gd ((gd r8.List r5.1.toNat).Held) v1_1.toNat).At) (TFrame.mk (THeader.mk ((((gd ((gd r8.List r5.1.toNat).Held) v1_1.toNat).Frame).Head).Kind) ((((gd ((gd r8.List r5.1.toNat).Held) v1_1.toNat).Frame).Head).Sub) ((((gd ((gd r8.List r5.1.toNat).Held) v1_1.toNat).Frame).Head).ToDs) ((((gd ((gd r8.List r5.1.toNat).Held) v1_1.toNat).Frame).Head).FromDs) ((((gd ((gd r8.List r5.1.toNat).Held) v1_1.toNat).Frame).Head).More) ((((gd ((gd r8.List r5.1.toNat).Held) v1_1.toNat).Frame).Head).Retry) ((((gd ((gd r8.List r5.1.toNat).Held) v1_1.toNat).Frame).Head).Sleep) ((((gd ((gd r8.List r5.1.toNat).Held) v1_1.toNat).Frame).Head).MoreData) ((((gd ((gd r8.List r5.1.toNat).Held) v1_1.toNat).Frame).Head).Protected) ((((gd ((gd r8.List r5.1.toNat).Held) v1_1.toNat).Frame).Head).Duration) (A6u8.mk (((((gd ((gd r8.List r5.1.toNat).Held) v1_1.toNat).Frame).Head).A1).x0) (((((gd ((gd r8.List r5.1.toNat).Held) v1_1.toNat).Frame).Head).A1).x1) (((((gd ((gd r8.List r5.1.toNat).Held) v1_1.toNat).Frame).Head).A1).x2) (((((gd ((gd r8.List r5.1.toNat).Held) v1_1.toNat).Frame).Head).A1).x3) (((((gd ((gd r8.List r5.1.toNat).Held) v1_1.toNat).Frame).Head).A1).x4) (((((gd ((gd r8.List r5.1.toNat).Held) v1_1.toNat).Frame).Head).A1).x5)) (A6u8.mk (((((gd ((gd r8.List r5.1.toNat).Held) v1_1.toNat).Frame).Head).A2).x0) (((((gd ((gd r8.List r5.1.toNat).Held) v1_1.toNat).Frame).Head).A2).x1) (((((gd ((gd r8.List r5.1.toNat).Held) v1_1.toNat).Frame).Head).A2).x2) (((((gd ((gd r8.List r5.1.toNat).Held) v1_1.toNat).Frame).Head).A2).x3) (((((gd ((gd r8.List r5.1.toNat).Held) v1_1.toNat).Frame).Head).A2).x4) (((((gd ((gd r8.List r5.1.toNat).Held) v1_1.toNat).Frame).Head).A2).x5)) (A6u8.mk (((((gd ((gd r8.List r5.1.toNat).Held) v1_1.toNat).Frame).Head).A3).x0) (((((gd ((gd r8.List r5.1.toNat).Held) v1_1.toNat).Frame).Head).A3).x1) (((((gd ((gd r8.List r5.1.toNat).Held) v1_1.toNat).Frame).Head).A3).x2) (((((gd ((gd r8.List r5.1.toNat).Held) v1_1.toNat).Frame).Head).A3).x3) (((((gd ((gd r8.List r5.1.toNat).Held) v1_1.toNat).Frame).Head).A3).x4) (((((gd ((gd r8.List r5.1.toNat).Held) v1_1.toNat).Frame).Head).A3).x5)) (A6u8.mk (((((gd ((gd r8.List r5.1.toNat).Held) v1_1.toNat).Frame).Head).A4).x0) (((((gd ((gd r8.List r5.1.toNat).Held) v1_1.toNat).Frame).Head).A4).x1) (((((gd ((gd r8.List r5.1.toNat).Held) v1_1.toNat).Frame).Head).A4).x2) (((((gd ((gd r8.List r5.1.toNat).Held) v1_1.toNat).Frame).Head).A4).x3) (((((gd ((gd r8.List r5.1.toNat).Held) v1_1.toNat).Frame).Head).A4).x4) (((((gd ((gd r8.List r5.1.toNat).Held) v1_1.toNat).Frame).Head).A4).x5)) ((((gd ((gd r8.List r5.1.toNat).Held) v1_1.toNat).Frame).Head).Seq) ((((gd ((gd r8.List r5.1.toNat).Held) v1_1.toNat).Frame).Head).Frag) ((((gd ((gd r8.List r5.1.toNat).Held) v1_1.toNat).Frame).Head).Tid) ((((gd ((gd r8.List r5.1.toNat).Held) v1_1.toNat).Frame).Head).Ack) ((((gd ((gd r8.List r5.1.toNat).Held) v1_1.toNat).Frame).Head).Amsdu) ((((gd ((gd r8.List r5.1.toNat).Held) v1_1.toNat).Frame).Head).Eosp)) (((gd ((gd r8.List r5.1.toNat).Held) v1_1.toNat).Frame).Body)))))) else (some (.next (wr .i64 (v1_1+1),v1_2)))) else (some (.done (.inl v1_2)))
noncomputable def F23 (p0:TBuffer) (p1:Int):Option (TFrame × TBuffer × Int) :=
 (F18 p0).bind fun r1=>bif (!bEq r1 0) then (some ((TFrame.mk (THeader.mk 0 0 false false false false false false false 0 (A6u8.mk 0 0 0 0 0 0) (A6u8.mk 0 0 0 0 0 0) (A6u8.mk 0 0 0 0 0 0) (A6u8.mk 0 0 0 0 0 0) 0 0 0 0 false false) []),(TBuffer.mk 0 0 [] []),r1)) else (bif ((bLt p1 1) || (bLt 255 p1)) then (some ((TFrame.mk (THeader.mk 0 0 false false false false false false false 0 (A6u8.mk 0 0 0 0 0 0) (A6u8.mk 0 0 0 0 0 0) (A6u8.mk 0 0 0 0 0 0) (A6u8.mk 0 0 0 0 0 0) 0 0 0 0 false false) []),(TBuffer.mk 0 0 [] []),2)) else ((F81 p0 p1).bind fun r5=>bif (!r5.2) then (some ((TFrame.mk (THeader.mk 0 0 false false false false false false false 0 (A6u8.mk 0 0 0 0 0 0) (A6u8.mk 0 0 0 0 0 0) (A6u8.mk 0 0 0 0 0 0) (A6u8.mk 0 0 0 0 0 0) 0 0 0 0 false false) []),(TBuffer.mk 0 0 [] []),6)) else ((F65f r5.1.toNat p0).bind fun r8=>need (inb r5.1 r8.List.length) <| bif (!((gd r8.List r5.1.toNat).Asleep)) then (some ((TFrame.mk (THeader.mk 0 0 false false false false false false false 0 (A6u8.mk 0 0 0 0 0 0) (A6u8.mk 0 0 0 0 0 0) (A6u8.mk 0 0 0 0 0 0) (A6u8.mk 0 0 0 0 0 0) 0 0 0 0 false false) []),(TBuffer.mk 0 0 [] []),20)) else (bif (bEq (((gd r8.List r5.1.toNat).Held).length:Nat) 0) then (some ((TFrame.mk (THeader.mk 0 0 false false false false false false false 0 (A6u8.mk 0 0 0 0 0 0) (A6u8.mk 0 0 0 0 0 0) (A6u8.mk 0 0 0 0 0 0) (A6u8.mk 0 0 0 0 0 0) 0 0 0 0 false false) []),(TBuffer.mk 0 0 [] []),6)) else (bif (bLt (((gd r8.List r5.1.toNat).Held).length:Nat) 1) then (none) else (need (inb 0 (((gd r8.List r5.1.toNat).Held).length)) <| lp (loopD (fun s=>F23_L1 r5 r8 s.1 s.2) (1,(TStored.mk ((gd ((gd r8.List r5.1.toNat).Held) 0).Cat) ((gd ((gd r8.List r5.1.toNat).Held) 0).At) (TFrame.mk (THeader.mk ((((gd ((gd r8.List r5.1.toNat).Held) 0).Frame).Head).Kind) ((((gd ((gd r8.List r5.1.toNat).Held) 0).Frame).Head).Sub) ((((gd ((gd r8.List r5.1.toNat).Held) 0).Frame).Head).ToDs) ((((gd ((gd r8.List r5.1.toNat).Held) 0).Frame).Head).FromDs) ((((gd ((gd r8.List r5.1.toNat).Held) 0).Frame).Head).More) ((((gd ((gd r8.List r5.1.toNat).Held) 0).Frame).Head).Retry) ((((gd ((gd r8.List r5.1.toNat).Held) 0).Frame).Head).Sleep) ((((gd ((gd r8.List r5.1.toNat).Held) 0).Frame).Head).MoreData) ((((gd ((gd r8.List r5.1.toNat).Held) 0).Frame).Head).Protected) ((((gd ((gd r8.List r5.1.toNat).Held) 0).Frame).Head).Duration) (A6u8.mk (((((gd ((gd r8.List r5.1.toNat).Held) 0).Frame).Head).A1).x0) (((((gd ((gd r8.List r5.1.toNat).Held) 0).Frame).Head).A1).x1) (((((gd ((gd r8.List r5.1.toNat).Held) 0).Frame).Head).A1).x2) (((((gd ((gd r8.List r5.1.toNat).Held) 0).Frame).Head).A1).x3) (((((gd ((gd r8.List r5.1.toNat).Held) 0).Frame).Head).A1).x4) (((((gd ((gd r8.List r5.1.toNat).Held) 0).Frame).Head).A1).x5)) (A6u8.mk (((((gd ((gd r8.List r5.1.toNat).Held) 0).Frame).Head).A2).x0) (((((gd ((gd r8.List r5.1.toNat).Held) 0).Frame).Head).A2).x1) (((((gd ((gd r8.List r5.1.toNat).Held) 0).Frame).Head).A2).x2) (((((gd ((gd r8.List r5.1.toNat).Held) 0).Frame).Head).A2).x3) (((((gd ((gd r8.List r5.1.toNat).Held) 0).Frame).Head).A2).x4) (((((gd ((gd r8.List r5.1.toNat).Held) 0).Frame).Head).A2).x5)) (A6u8.mk (((((gd ((gd r8.List r5.1.toNat).Held) 0).Frame).Head).A3).x0) (((((gd ((gd r8.List r5.1.toNat).Held) 0).Frame).Head).A3).x1) (((((gd ((gd r8.List r5.1.toNat).Held) 0).Frame).Head).A3).x2) (((((gd ((gd r8.List r5.1.toNat).Held) 0).Frame).Head).A3).x3) (((((gd ((gd r8.List r5.1.toNat).Held) 0).Frame).Head).A3).x4) (((((gd ((gd r8.List r5.1.toNat).Held) 0).Frame).Head).A3).x5)) (A6u8.mk (((((gd ((gd r8.List r5.1.toNat).Held) 0).Frame).Head).A4).x0) (((((gd ((gd r8.List r5.1.toNat).Held) 0).Frame).Head).A4).x1) (((((gd ((gd r8.List r5.1.toNat).Held) 0).Frame).Head).A4).x2) (((((gd ((gd r8.List r5.1.toNat).Held) 0).Frame).Head).A4).x3) (((((gd ((gd r8.List r5.1.toNat).Held) 0).Frame).Head).A4).x4) (((((gd ((gd r8.List r5.1.toNat).Held) 0).Frame).Head).A4).x5)) ((((gd ((gd r8.List r5.1.toNat).Held) 0).Frame).Head).Seq) ((((gd ((gd r8.List r5.1.toNat).Held) 0).Frame).Head).Frag) ((((gd ((gd r8.List r5.1.toNat).Held) 0).Frame).Head).Tid) ((((gd ((gd r8.List r5.1.toNat).Held) 0).Frame).Head).Ack) ((((gd ((gd r8.List r5.1.toNat).Held) 0).Frame).Head).Amsdu) ((((gd ((gd r8.List r5.1.toNat).Held) 0).Frame).Head).Eosp)) (((gd ((gd r8.List r5.1.toNat).Held) 0).Frame).Body))))) (fun w1_5=>(F58_1 ((gd r8.List r5.1.toNat).Held) w1_5.Cat).bind fun r21=>need (inb r21 (((gd r8.List r5.1.toNat).Held).length)) <| need (delb r21 (wr .i64 (r21+1)) (((gd r8.List r5.1.toNat).Held).length)) <| (some (delL ((gd r8.List r5.1.toNat).Held) r21 (wr .i64 (r21+1)))).bind fun w25=>(some (r8.List.set r5.1.toNat (TSleeper.mk ((gd r8.List r5.1.toNat).Aid) ((gd r8.List r5.1.toNat).Asleep) w25))).bind fun w27=>some ((TFrame.mk (THeader.mk ((((gd ((gd r8.List r5.1.toNat).Held) r21.toNat).Frame).Head).Kind) ((((gd ((gd r8.List r5.1.toNat).Held) r21.toNat).Frame).Head).Sub) ((((gd ((gd r8.List r5.1.toNat).Held) r21.toNat).Frame).Head).ToDs) ((((gd ((gd r8.List r5.1.toNat).Held) r21.toNat).Frame).Head).FromDs) ((((gd ((gd r8.List r5.1.toNat).Held) r21.toNat).Frame).Head).More) ((((gd ((gd r8.List r5.1.toNat).Held) r21.toNat).Frame).Head).Retry) ((((gd ((gd r8.List r5.1.toNat).Held) r21.toNat).Frame).Head).Sleep) (bLt 0 (w25.length:Nat)) ((((gd ((gd r8.List r5.1.toNat).Held) r21.toNat).Frame).Head).Protected) ((((gd ((gd r8.List r5.1.toNat).Held) r21.toNat).Frame).Head).Duration) (A6u8.mk (((((gd ((gd r8.List r5.1.toNat).Held) r21.toNat).Frame).Head).A1).x0) (((((gd ((gd r8.List r5.1.toNat).Held) r21.toNat).Frame).Head).A1).x1) (((((gd ((gd r8.List r5.1.toNat).Held) r21.toNat).Frame).Head).A1).x2) (((((gd ((gd r8.List r5.1.toNat).Held) r21.toNat).Frame).Head).A1).x3) (((((gd ((gd r8.List r5.1.toNat).Held) r21.toNat).Frame).Head).A1).x4) (((((gd ((gd r8.List r5.1.toNat).Held) r21.toNat).Frame).Head).A1).x5)) (A6u8.mk (((((gd ((gd r8.List r5.1.toNat).Held) r21.toNat).Frame).Head).A2).x0) (((((gd ((gd r8.List r5.1.toNat).Held) r21.toNat).Frame).Head).A2).x1) (((((gd ((gd r8.List r5.1.toNat).Held) r21.toNat).Frame).Head).A2).x2) (((((gd ((gd r8.List r5.1.toNat).Held) r21.toNat).Frame).Head).A2).x3) (((((gd ((gd r8.List r5.1.toNat).Held) r21.toNat).Frame).Head).A2).x4) (((((gd ((gd r8.List r5.1.toNat).Held) r21.toNat).Frame).Head).A2).x5)) (A6u8.mk (((((gd ((gd r8.List r5.1.toNat).Held) r21.toNat).Frame).Head).A3).x0) (((((gd ((gd r8.List r5.1.toNat).Held) r21.toNat).Frame).Head).A3).x1) (((((gd ((gd r8.List r5.1.toNat).Held) r21.toNat).Frame).Head).A3).x2) (((((gd ((gd r8.List r5.1.toNat).Held) r21.toNat).Frame).Head).A3).x3) (((((gd ((gd r8.List r5.1.toNat).Held) r21.toNat).Frame).Head).A3).x4) (((((gd ((gd r8.List r5.1.toNat).Held) r21.toNat).Frame).Head).A3).x5)) (A6u8.mk (((((gd ((gd r8.List r5.1.toNat).Held) r21.toNat).Frame).Head).A4).x0) (((((gd ((gd r8.List r5.1.toNat).Held) r21.toNat).Frame).Head).A4).x1) (((((gd ((gd r8.List r5.1.toNat).Held) r21.toNat).Frame).Head).A4).x2) (((((gd ((gd r8.List r5.1.toNat).Held) r21.toNat).Frame).Head).A4).x3) (((((gd ((gd r8.List r5.1.toNat).Held) r21.toNat).Frame).Head).A4).x4) (((((gd ((gd r8.List r5.1.toNat).Held) r21.toNat).Frame).Head).A4).x5)) ((((gd ((gd r8.List r5.1.toNat).Held) r21.toNat).Frame).Head).Seq) ((((gd ((gd r8.List r5.1.toNat).Held) r21.toNat).Frame).Head).Frag) ((((gd ((gd r8.List r5.1.toNat).Held) r21.toNat).Frame).Head).Tid) ((((gd ((gd r8.List r5.1.toNat).Held) r21.toNat).Frame).Head).Ack) ((((gd ((gd r8.List r5.1.toNat).Held) r21.toNat).Frame).Head).Amsdu) ((((gd ((gd r8.List r5.1.toNat).Held) r21.toNat).Frame).Head).Eosp)) (((gd ((gd r8.List r5.1.toNat).Held) r21.toNat).Frame).Body)),(TBuffer.mk r8.Limit r8.Stay w27 r8.Group),0)) some))))))
noncomputable def body23:List AV->Nat->AR
 | [v0,v1],_=>.pure (aK 4 k_TBuffer v0/\iK .i64 v1/\(F23 (g_TBuffer (aL v0)) (iA v1)).isSome=true) (.tup [.agg (.int .u8 ((((gt (F23 (g_TBuffer (aL v0)) (iA v1))).1).Head).Kind)::.int .u8 ((((gt (F23 (g_TBuffer (aL v0)) (iA v1))).1).Head).Sub)::.bool ((((gt (F23 (g_TBuffer (aL v0)) (iA v1))).1).Head).ToDs)::.bool ((((gt (F23 (g_TBuffer (aL v0)) (iA v1))).1).Head).FromDs)::.bool ((((gt (F23 (g_TBuffer (aL v0)) (iA v1))).1).Head).More)::.bool ((((gt (F23 (g_TBuffer (aL v0)) (iA v1))).1).Head).Retry)::.bool ((((gt (F23 (g_TBuffer (aL v0)) (iA v1))).1).Head).Sleep)::.bool ((((gt (F23 (g_TBuffer (aL v0)) (iA v1))).1).Head).MoreData)::.bool ((((gt (F23 (g_TBuffer (aL v0)) (iA v1))).1).Head).Protected)::.int .i64 ((((gt (F23 (g_TBuffer (aL v0)) (iA v1))).1).Head).Duration)::.int .u8 (((((gt (F23 (g_TBuffer (aL v0)) (iA v1))).1).Head).A1).x0)::.int .u8 (((((gt (F23 (g_TBuffer (aL v0)) (iA v1))).1).Head).A1).x1)::.int .u8 (((((gt (F23 (g_TBuffer (aL v0)) (iA v1))).1).Head).A1).x2)::.int .u8 (((((gt (F23 (g_TBuffer (aL v0)) (iA v1))).1).Head).A1).x3)::.int .u8 (((((gt (F23 (g_TBuffer (aL v0)) (iA v1))).1).Head).A1).x4)::.int .u8 (((((gt (F23 (g_TBuffer (aL v0)) (iA v1))).1).Head).A1).x5)::.int .u8 (((((gt (F23 (g_TBuffer (aL v0)) (iA v1))).1).Head).A2).x0)::.int .u8 (((((gt (F23 (g_TBuffer (aL v0)) (iA v1))).1).Head).A2).x1)::.int .u8 (((((gt (F23 (g_TBuffer (aL v0)) (iA v1))).1).Head).A2).x2)::.int .u8 (((((gt (F23 (g_TBuffer (aL v0)) (iA v1))).1).Head).A2).x3)::.int .u8 (((((gt (F23 (g_TBuffer (aL v0)) (iA v1))).1).Head).A2).x4)::.int .u8 (((((gt (F23 (g_TBuffer (aL v0)) (iA v1))).1).Head).A2).x5)::.int .u8 (((((gt (F23 (g_TBuffer (aL v0)) (iA v1))).1).Head).A3).x0)::.int .u8 (((((gt (F23 (g_TBuffer (aL v0)) (iA v1))).1).Head).A3).x1)::.int .u8 (((((gt (F23 (g_TBuffer (aL v0)) (iA v1))).1).Head).A3).x2)::.int .u8 (((((gt (F23 (g_TBuffer (aL v0)) (iA v1))).1).Head).A3).x3)::.int .u8 (((((gt (F23 (g_TBuffer (aL v0)) (iA v1))).1).Head).A3).x4)::.int .u8 (((((gt (F23 (g_TBuffer (aL v0)) (iA v1))).1).Head).A3).x5)::.int .u8 (((((gt (F23 (g_TBuffer (aL v0)) (iA v1))).1).Head).A4).x0)::.int .u8 (((((gt (F23 (g_TBuffer (aL v0)) (iA v1))).1).Head).A4).x1)::.int .u8 (((((gt (F23 (g_TBuffer (aL v0)) (iA v1))).1).Head).A4).x2)::.int .u8 (((((gt (F23 (g_TBuffer (aL v0)) (iA v1))).1).Head).A4).x3)::.int .u8 (((((gt (F23 (g_TBuffer (aL v0)) (iA v1))).1).Head).A4).x4)::.int .u8 (((((gt (F23 (g_TBuffer (aL v0)) (iA v1))).1).Head).A4).x5)::.int .i64 ((((gt (F23 (g_TBuffer (aL v0)) (iA v1))).1).Head).Seq)::.int .i64 ((((gt (F23 (g_TBuffer (aL v0)) (iA v1))).1).Head).Frag)::.int .i64 ((((gt (F23 (g_TBuffer (aL v0)) (iA v1))).1).Head).Tid)::.int .u8 ((((gt (F23 (g_TBuffer (aL v0)) (iA v1))).1).Head).Ack)::.bool ((((gt (F23 (g_TBuffer (aL v0)) (iA v1))).1).Head).Amsdu)::.bool ((((gt (F23 (g_TBuffer (aL v0)) (iA v1))).1).Head).Eosp)::.ro 1 ((((gt (F23 (g_TBuffer (aL v0)) (iA v1))).1).Body).length) false (enR c_u8 (((gt (F23 (g_TBuffer (aL v0)) (iA v1))).1).Body))::[]),.agg [.int .i64 (((gt (F23 (g_TBuffer (aL v0)) (iA v1))).2.1).Limit),.int .i64 (((gt (F23 (g_TBuffer (aL v0)) (iA v1))).2.1).Stay),.ro 3 ((((gt (F23 (g_TBuffer (aL v0)) (iA v1))).2.1).List).length) false (enR c_TSleeper (((gt (F23 (g_TBuffer (aL v0)) (iA v1))).2.1).List)),.ro 43 ((((gt (F23 (g_TBuffer (aL v0)) (iA v1))).2.1).Group).length) false (enR c_TStored (((gt (F23 (g_TBuffer (aL v0)) (iA v1))).2.1).Group))],.int .i64 ((gt (F23 (g_TBuffer (aL v0)) (iA v1))).2.2)])
 | _,_=>.fail
theorem ok23:FnOk Try.prog 23 (genC body23):=by
 refine gen_fn body23 (rs:=[.cell 4 33,.cell 5 25,.tmp 6]) Try.func23 (by kernel_rfl) rfl rfl ?_
 intro l s ob v ns hb hob
 rcases hb with ⟨hb,rfl⟩|hb
 ·unfold body23 at hb
  split at hb
  ·rename_i v0 v1
   injection hb with q1 q2;subst q1 q2
   obtain ⟨hk0_0,hk1_0,hob⟩:=hob
   obtain ⟨r,H⟩:=Option.isSome_iff_exists.1 hob
   rw [H,gt_some]
   have hw0:=wA_TBuffer hk0_0
   have hw1:=iK_wk hk1_0
   generalize g_TBuffer (aL v0)=p0 at H hw0
   generalize iA v1=p1 at H hw1
   refine ⟨[.agg [.int .i64 p0.Limit,.int .i64 p0.Stay,.ro 3 p0.List.length false (enR c_TSleeper p0.List),.ro 43 p0.Group.length false (enR c_TStored p0.Group)],.int .i64 p1],.tup [.agg (.int .u8 r.1.Head.Kind::.int .u8 r.1.Head.Sub::.bool r.1.Head.ToDs::.bool r.1.Head.FromDs::.bool r.1.Head.More::.bool r.1.Head.Retry::.bool r.1.Head.Sleep::.bool r.1.Head.MoreData::.bool r.1.Head.Protected::.int .i64 r.1.Head.Duration::.int .u8 r.1.Head.A1.x0::.int .u8 r.1.Head.A1.x1::.int .u8 r.1.Head.A1.x2::.int .u8 r.1.Head.A1.x3::.int .u8 r.1.Head.A1.x4::.int .u8 r.1.Head.A1.x5::.int .u8 r.1.Head.A2.x0::.int .u8 r.1.Head.A2.x1::.int .u8 r.1.Head.A2.x2::.int .u8 r.1.Head.A2.x3::.int .u8 r.1.Head.A2.x4::.int .u8 r.1.Head.A2.x5::.int .u8 r.1.Head.A3.x0::.int .u8 r.1.Head.A3.x1::.int .u8 r.1.Head.A3.x2::.int .u8 r.1.Head.A3.x3::.int .u8 r.1.Head.A3.x4::.int .u8 r.1.Head.A3.x5::.int .u8 r.1.Head.A4.x0::.int .u8 r.1.Head.A4.x1::.int .u8 r.1.Head.A4.x2::.int .u8 r.1.Head.A4.x3::.int .u8 r.1.Head.A4.x4::.int .u8 r.1.Head.A4.x5::.int .i64 r.1.Head.Seq::.int .i64 r.1.Head.Frag::.int .i64 r.1.Head.Tid::.int .u8 r.1.Head.Ack::.bool r.1.Head.Amsdu::.bool r.1.Head.Eosp::.ro 1 r.1.Body.length false (enR c_u8 r.1.Body)::[]),.agg [.int .i64 r.2.1.Limit,.int .i64 r.2.1.Stay,.ro 3 r.2.1.List.length false (enR c_TSleeper r.2.1.List),.ro 43 r.2.1.Group.length false (enR c_TStored r.2.1.Group)],.int .i64 r.2.2],[],(fun E vs F=>FR_wk1 hw0.1 F (fun vs F=>FR_wk1 hw1.1 F (fun vs F=>F))),by simp only [ren,renL],trivial,?_⟩
   rw [Try.ntmps23]
   simp only [List.length_cons,List.length_nil,Nat.reduceAdd,Nat.reduceSub,List.replicate_succ,List.replicate_zero,List.cons_append,List.nil_append]
   unfold F23 at H
   try dsimp only at H
   refine sq ctNo_ok ?_
   simp only [go_sem,Nat.reduceAdd]
   refine seqM ?_
   refine regO ?_
   refine cutO shT_ok ctNo_ok 2 ?_
   simp only [kO_normal,List.take_succ_cons,List.take_zero,List.drop_succ_cons,List.drop_zero,go_sem,Nat.reduceLT,Nat.reduceAdd]
   repeat ((with_reducible refine And.intro ?_ ?_);focus exact an0)
   refine inlO (rs:=[.tmp 4,.tmp 5,.tmp 6]) Try.func51 (by kernel_rfl) rfl rfl Try.ntmps51 (caps:=[]) (tc:=[.agg [.int .i64 p0.Limit,.int .i64 p0.Stay,.ro 3 p0.List.length false (enR c_TSleeper p0.List),.ro 43 p0.Group.length false (enR c_TStored p0.Group)],.int .i64 p1]) rfl (by simp only [go_sem]) rfl ?_
   simp only [List.length_cons,List.length_nil,Nat.reduceAdd,Nat.reduceSub,List.replicate_succ,List.replicate_zero,List.cons_append,List.nil_append]
   refine sq ctNo_ok ?_
   simp only [go_sem,Nat.reduceAdd]
   refine seqM ?_
   refine seqM ?_
   obtain ⟨r1,e2,H⟩:=bsi H
   refine rg ct23t0_ok ?_
   simp only [go_sem,Nat.reduceLT,Nat.reduceAdd,ct23t0_18,body18,e2]
   repeat ((with_reducible refine And.intro ?_ ?_);focus exact an0)
   refine sq ctNo_ok ?_
   simp only [go_sem]
   refine condM rfl trivial (fun hc=>?_) (fun hc=>?_)
   ·have hk3:(bEq r1 0)=false:=by simpa using hc
    replace H:=cond_t hc H
    refine sq ctNo_ok ?_
    simp only [go_sem]
    refine rg ctNo_ok ?_
    simp only [go_sem]
    refine cutO shT_ok ctNo_ok 7 ?_
    simp only [kO_normal,List.take_succ_cons,List.take_zero,List.drop_succ_cons,List.drop_zero,go_sem,Nat.reduceLT,Nat.reduceAdd]
    repeat ((with_reducible refine And.intro ?_ ?_);focus exact an0)
    refine endO ?_
    refine seqM ?_
    refine blkM ?_
    refine sq ctNo_ok ?_
    simp only [go_sem]
    refine condM rfl trivial (fun hc=>?_) (fun hc=>?_)
    rotate_left
    ·simp [hk3] at hc
    refine sq ctNo_ok ?_
    simp only [go_sem,Nat.reduceAdd]
    repeat ((with_reducible refine And.intro ?_ ?_);focus exact an4)
    refine rg ctNo_ok ?_
    simp only [go_sem,Nat.reduceLT,Nat.reduceAdd]
    obtain rfl:=Option.some.inj H
    refine ⟨[0,1,2,3],?_,?_,[],?_,?_,rfl⟩
    ·simp only [go_sem]
     try exact at0
    ·simp only [go_sem]
     try exact at0
    ·simp only [go_sem]
     exact Cv_tup (CvL_cons (Cv_agg (CvL_cons Cv_int (CvL_cons Cv_int (CvL_cons Cv_bool (CvL_cons Cv_bool (CvL_cons Cv_bool (CvL_cons Cv_bool (CvL_cons Cv_bool (CvL_cons Cv_bool (CvL_cons Cv_bool (CvL_cons Cv_int (CvL_cons Cv_int (CvL_cons Cv_int (CvL_cons Cv_int (CvL_cons Cv_int (CvL_cons Cv_int (CvL_cons Cv_int (CvL_cons Cv_int (CvL_cons Cv_int (CvL_cons Cv_int (CvL_cons Cv_int (CvL_cons Cv_int (CvL_cons Cv_int (CvL_cons Cv_int (CvL_cons Cv_int (CvL_cons Cv_int (CvL_cons Cv_int (CvL_cons Cv_int (CvL_cons Cv_int (CvL_cons Cv_int (CvL_cons Cv_int (CvL_cons Cv_int (CvL_cons Cv_int (CvL_cons Cv_int (CvL_cons Cv_int (CvL_cons Cv_int (CvL_cons Cv_int (CvL_cons Cv_int (CvL_cons Cv_int (CvL_cons Cv_bool (CvL_cons Cv_bool (CvL_cons (Cv_ronil (α:=Int)) CvL_nil)))))))))))))))))))))))))))))))))))))))))) (CvL_cons (Cv_agg (CvL_cons Cv_int (CvL_cons Cv_int (CvL_cons (Cv_ronil (α:=TSleeper)) (CvL_cons (Cv_ronil (α:=TStored)) CvL_nil))))) (CvL_cons Cv_int CvL_nil)))
    ·simp only [go_sem,CvH]
   have hk3:(bEq r1 0)=true:=by simpa using hc
   replace H:=cond_f hc H
   refine rg ctNo_ok ?_
   simp only [go_sem]
   refine seqM ?_
   refine sq ctNo_ok ?_
   simp only [go_sem]
   repeat ((with_reducible refine And.intro ?_ ?_);focus exact an4)
   refine condM rfl trivial (fun hc=>?_) (fun hc=>?_)
   ·have hk4:((bLt p1 1) || (bLt 255 p1))=true:=by simpa using hc
    replace H:=cond_t hc H
    refine sq ctNo_ok ?_
    simp only [go_sem]
    refine rg ctNo_ok ?_
    simp only [go_sem]
    refine cutO shT_ok ctNo_ok 7 ?_
    simp only [kO_normal,List.take_succ_cons,List.take_zero,List.drop_succ_cons,List.drop_zero,go_sem,Nat.reduceLT,Nat.reduceAdd]
    repeat ((with_reducible refine And.intro ?_ ?_);focus exact an0)
    refine endO ?_
    refine seqM ?_
    refine blkM ?_
    refine sq ctNo_ok ?_
    simp only [go_sem,(by decide:bEq (2) (0)=false)]
    refine condM rfl trivial (fun hc=>?_) (fun hc=>?_)
    rotate_left
    ·cases hc
    refine sq ctNo_ok ?_
    simp only [go_sem,Nat.reduceAdd]
    repeat ((with_reducible refine And.intro ?_ ?_);focus exact an4)
    refine rg ctNo_ok ?_
    simp only [go_sem,Nat.reduceLT,Nat.reduceAdd]
    obtain rfl:=Option.some.inj H
    refine ⟨[0,1,2,3],?_,?_,[],?_,?_,rfl⟩
    ·simp only [go_sem]
     try exact at0
    ·simp only [go_sem]
     try exact at0
    ·simp only [go_sem]
     exact Cv_tup (CvL_cons (Cv_agg (CvL_cons Cv_int (CvL_cons Cv_int (CvL_cons Cv_bool (CvL_cons Cv_bool (CvL_cons Cv_bool (CvL_cons Cv_bool (CvL_cons Cv_bool (CvL_cons Cv_bool (CvL_cons Cv_bool (CvL_cons Cv_int (CvL_cons Cv_int (CvL_cons Cv_int (CvL_cons Cv_int (CvL_cons Cv_int (CvL_cons Cv_int (CvL_cons Cv_int (CvL_cons Cv_int (CvL_cons Cv_int (CvL_cons Cv_int (CvL_cons Cv_int (CvL_cons Cv_int (CvL_cons Cv_int (CvL_cons Cv_int (CvL_cons Cv_int (CvL_cons Cv_int (CvL_cons Cv_int (CvL_cons Cv_int (CvL_cons Cv_int (CvL_cons Cv_int (CvL_cons Cv_int (CvL_cons Cv_int (CvL_cons Cv_int (CvL_cons Cv_int (CvL_cons Cv_int (CvL_cons Cv_int (CvL_cons Cv_int (CvL_cons Cv_int (CvL_cons Cv_int (CvL_cons Cv_bool (CvL_cons Cv_bool (CvL_cons (Cv_ronil (α:=Int)) CvL_nil)))))))))))))))))))))))))))))))))))))))))) (CvL_cons (Cv_agg (CvL_cons Cv_int (CvL_cons Cv_int (CvL_cons (Cv_ronil (α:=TSleeper)) (CvL_cons (Cv_ronil (α:=TStored)) CvL_nil))))) (CvL_cons Cv_int CvL_nil)))
    ·simp only [go_sem,CvH]
   have hk4:((bLt p1 1) || (bLt 255 p1))=false:=by simpa using hc
   replace H:=cond_f hc H
   refine rg ctNo_ok ?_
   simp only [go_sem]
   refine seqM ?_
   obtain ⟨r5,e6,H⟩:=bsi H
   refine rg ct23t1_ok ?_
   simp only [go_sem,Nat.reduceLT,Nat.reduceAdd,ct23t1_81,body81,e6]
   repeat ((with_reducible refine And.intro ?_ ?_);focus exact an0)
   refine seqM ?_
   refine sq ctNo_ok ?_
   simp only [go_sem]
   refine condM rfl trivial (fun hc=>?_) (fun hc=>?_)
   ·have hk7:(r5.2)=false:=by simpa using hc
    replace H:=cond_t hc H
    refine sq ctNo_ok ?_
    simp only [go_sem]
    refine rg ctNo_ok ?_
    simp only [go_sem]
    refine cutO shT_ok ctNo_ok 7 ?_
    simp only [kO_normal,List.take_succ_cons,List.take_zero,List.drop_succ_cons,List.drop_zero,go_sem,Nat.reduceLT,Nat.reduceAdd]
    repeat ((with_reducible refine And.intro ?_ ?_);focus exact an0)
    refine endO ?_
    refine seqM ?_
    refine blkM ?_
    refine sq ctNo_ok ?_
    simp only [go_sem,(by decide:bEq (6) (0)=false)]
    refine condM rfl trivial (fun hc=>?_) (fun hc=>?_)
    rotate_left
    ·cases hc
    refine sq ctNo_ok ?_
    simp only [go_sem,Nat.reduceAdd]
    repeat ((with_reducible refine And.intro ?_ ?_);focus exact an4)
    refine rg ctNo_ok ?_
    simp only [go_sem,Nat.reduceLT,Nat.reduceAdd]
    obtain rfl:=Option.some.inj H
    refine ⟨[0,1,2,3],?_,?_,[],?_,?_,rfl⟩
    ·simp only [go_sem]
     try exact at0
    ·simp only [go_sem]
     try exact at0
    ·simp only [go_sem]
     exact Cv_tup (CvL_cons (Cv_agg (CvL_cons Cv_int (CvL_cons Cv_int (CvL_cons Cv_bool (CvL_cons Cv_bool (CvL_cons Cv_bool (CvL_cons Cv_bool (CvL_cons Cv_bool (CvL_cons Cv_bool (CvL_cons Cv_bool (CvL_cons Cv_int (CvL_cons Cv_int (CvL_cons Cv_int (CvL_cons Cv_int (CvL_cons Cv_int (CvL_cons Cv_int (CvL_cons Cv_int (CvL_cons Cv_int (CvL_cons Cv_int (CvL_cons Cv_int (CvL_cons Cv_int (CvL_cons Cv_int (CvL_cons Cv_int (CvL_cons Cv_int (CvL_cons Cv_int (CvL_cons Cv_int (CvL_cons Cv_int (CvL_cons Cv_int (CvL_cons Cv_int (CvL_cons Cv_int (CvL_cons Cv_int (CvL_cons Cv_int (CvL_cons Cv_int (CvL_cons Cv_int (CvL_cons Cv_int (CvL_cons Cv_int (CvL_cons Cv_int (CvL_cons Cv_int (CvL_cons Cv_int (CvL_cons Cv_bool (CvL_cons Cv_bool (CvL_cons (Cv_ronil (α:=Int)) CvL_nil)))))))))))))))))))))))))))))))))))))))))) (CvL_cons (Cv_agg (CvL_cons Cv_int (CvL_cons Cv_int (CvL_cons (Cv_ronil (α:=TSleeper)) (CvL_cons (Cv_ronil (α:=TStored)) CvL_nil))))) (CvL_cons Cv_int CvL_nil)))
    ·simp only [go_sem,CvH]
   have hk7:(r5.2)=true:=by simpa using hc
   replace H:=cond_f hc H
   refine rg ctNo_ok ?_
   simp only [go_sem]
   refine seqM ?_
   obtain ⟨r8,e9,H⟩:=bsi H
   refine rg (ct23t2_ok r5.1.toNat) ?_
   simp only [go_sem,Nat.reduceLT,Nat.reduceAdd,ct23t2_65,body65f,e9]
   repeat ((with_reducible refine And.intro ?_ ?_);focus exact an0)
   refine seqM ?_
   obtain ⟨f10,H⟩:=need_some.1 H
   replace f10:=inb_iff.1 f10
   refine draw_quiet shT_ok ctNo_ok (by kernel_rfl) (by kernel_rfl) ?_
   simp only [go_sem,Nat.reduceLeDiff,Nat.reduceLT,Nat.reduceAdd,f10]
   repeat ((with_reducible refine And.intro ?_ ?_);focus exact an4)
   refine rg ctNo_ok ?_
   simp only [go_sem]
   refine cutO shT_ok ctNo_ok 7 ?_
   simp only [kO_normal,List.take_succ_cons,List.take_zero,List.drop_succ_cons,List.drop_zero,go_sem,Nat.reduceLT,Nat.reduceAdd]
   repeat ((with_reducible refine And.intro ?_ ?_);focus exact an0)
   refine endO ?_
   refine seqM ?_
   refine blkM ?_
   refine sq ctNo_ok ?_
   simp only [go_sem,(by decide:bEq (0) (0)=true)]
   refine condM rfl trivial (fun hc=>?_) (fun hc=>?_)
   ·cases hc
   refine sq ctNo_ok ?_
   simp only [go_sem,Nat.reduceLeDiff,Nat.reduceLT,Nat.reduceAdd,Nat.reduceSub,upc_ii]
   repeat ((with_reducible refine And.intro ?_ ?_);focus exact an4)
   refine condM rfl trivial (fun hc=>?_) (fun hc=>?_)
   ·have hk11:((gd r8.List r5.1.toNat).Asleep)=false:=by simpa using hc
    replace H:=cond_t hc H
    refine sq ctNo_ok ?_
    simp only [go_sem,Nat.reduceAdd]
    repeat ((with_reducible refine And.intro ?_ ?_);focus exact an4)
    refine rg ctNo_ok ?_
    simp only [go_sem,Nat.reduceLT,Nat.reduceAdd]
    obtain rfl:=Option.some.inj H
    refine ⟨[0,1,2,3],?_,?_,[],?_,?_,rfl⟩
    ·simp only [go_sem]
     try exact at0
    ·simp only [go_sem,Nat.reduceBEq]
     try exact at0
    ·simp only [go_sem]
     exact Cv_tup (CvL_cons (Cv_agg (CvL_cons Cv_int (CvL_cons Cv_int (CvL_cons Cv_bool (CvL_cons Cv_bool (CvL_cons Cv_bool (CvL_cons Cv_bool (CvL_cons Cv_bool (CvL_cons Cv_bool (CvL_cons Cv_bool (CvL_cons Cv_int (CvL_cons Cv_int (CvL_cons Cv_int (CvL_cons Cv_int (CvL_cons Cv_int (CvL_cons Cv_int (CvL_cons Cv_int (CvL_cons Cv_int (CvL_cons Cv_int (CvL_cons Cv_int (CvL_cons Cv_int (CvL_cons Cv_int (CvL_cons Cv_int (CvL_cons Cv_int (CvL_cons Cv_int (CvL_cons Cv_int (CvL_cons Cv_int (CvL_cons Cv_int (CvL_cons Cv_int (CvL_cons Cv_int (CvL_cons Cv_int (CvL_cons Cv_int (CvL_cons Cv_int (CvL_cons Cv_int (CvL_cons Cv_int (CvL_cons Cv_int (CvL_cons Cv_int (CvL_cons Cv_int (CvL_cons Cv_int (CvL_cons Cv_bool (CvL_cons Cv_bool (CvL_cons (Cv_ronil (α:=Int)) CvL_nil)))))))))))))))))))))))))))))))))))))))))) (CvL_cons (Cv_agg (CvL_cons Cv_int (CvL_cons Cv_int (CvL_cons (Cv_ronil (α:=TSleeper)) (CvL_cons (Cv_ronil (α:=TStored)) CvL_nil))))) (CvL_cons Cv_int CvL_nil)))
    ·simp only [go_sem,CvH]
   have hk11:((gd r8.List r5.1.toNat).Asleep)=true:=by simpa using hc
   replace H:=cond_f hc H
   refine sq ctNo_ok ?_
   simp only [go_sem,Nat.reduceLT,Nat.reduceAdd,Nat.reduceSub,upc_ii]
   repeat ((with_reducible refine And.intro ?_ ?_);focus exact an0)
   refine condM rfl trivial (fun hc=>?_) (fun hc=>?_)
   ·have hk12:(bEq (((gd r8.List r5.1.toNat).Held).length:Nat) 0)=true:=by simpa using hc
    replace H:=cond_t hc H
    refine sq ctNo_ok ?_
    simp only [go_sem,Nat.reduceAdd]
    repeat ((with_reducible refine And.intro ?_ ?_);focus exact an4)
    refine rg ctNo_ok ?_
    simp only [go_sem,Nat.reduceLT,Nat.reduceAdd]
    obtain rfl:=Option.some.inj H
    refine ⟨[0,1,2,3],?_,?_,[],?_,?_,rfl⟩
    ·simp only [go_sem]
     try exact at0
    ·simp only [go_sem,Nat.reduceBEq]
     try exact at0
    ·simp only [go_sem]
     exact Cv_tup (CvL_cons (Cv_agg (CvL_cons Cv_int (CvL_cons Cv_int (CvL_cons Cv_bool (CvL_cons Cv_bool (CvL_cons Cv_bool (CvL_cons Cv_bool (CvL_cons Cv_bool (CvL_cons Cv_bool (CvL_cons Cv_bool (CvL_cons Cv_int (CvL_cons Cv_int (CvL_cons Cv_int (CvL_cons Cv_int (CvL_cons Cv_int (CvL_cons Cv_int (CvL_cons Cv_int (CvL_cons Cv_int (CvL_cons Cv_int (CvL_cons Cv_int (CvL_cons Cv_int (CvL_cons Cv_int (CvL_cons Cv_int (CvL_cons Cv_int (CvL_cons Cv_int (CvL_cons Cv_int (CvL_cons Cv_int (CvL_cons Cv_int (CvL_cons Cv_int (CvL_cons Cv_int (CvL_cons Cv_int (CvL_cons Cv_int (CvL_cons Cv_int (CvL_cons Cv_int (CvL_cons Cv_int (CvL_cons Cv_int (CvL_cons Cv_int (CvL_cons Cv_int (CvL_cons Cv_int (CvL_cons Cv_bool (CvL_cons Cv_bool (CvL_cons (Cv_ronil (α:=Int)) CvL_nil)))))))))))))))))))))))))))))))))))))))))) (CvL_cons (Cv_agg (CvL_cons Cv_int (CvL_cons Cv_int (CvL_cons (Cv_ronil (α:=TSleeper)) (CvL_cons (Cv_ronil (α:=TStored)) CvL_nil))))) (CvL_cons Cv_int CvL_nil)))
    ·simp only [go_sem,CvH]
   have hk12:(bEq (((gd r8.List r5.1.toNat).Held).length:Nat) 0)=false:=by simpa using hc
   replace H:=cond_f hc H
   refine rg ctNo_ok ?_
   simp only [go_sem]
   refine seqM ?_
   refine regO ?_
   refine cutO shT_ok ctNo_ok 4 ?_
   simp only [kO_normal,List.take_succ_cons,List.take_zero,List.drop_succ_cons,List.drop_zero,go_sem,Nat.reduceLT,Nat.reduceAdd,Nat.reduceSub,upc_ii]
   repeat ((with_reducible refine And.intro ?_ ?_);focus exact an0)
   refine inlO (rs:=[.cell 4 61]) Try.func55 (by kernel_rfl) rfl rfl Try.ntmps55 (caps:=[]) (tc:=[.sl 5 43 0 (((gd r8.List r5.1.toNat).Held).length) false,.fn 56 []]) rfl (by simp only [go_sem]) rfl ?_
   simp only [List.length_cons,List.length_nil,Nat.reduceAdd,Nat.reduceSub,List.replicate_succ,List.replicate_zero,List.cons_append,List.nil_append]
   refine sq ctNo_ok ?_
   simp only [go_sem,Nat.reduceAdd]
   refine seqM ?_
   refine sq ctNo_ok ?_
   simp only [go_sem]
   repeat ((with_reducible refine And.intro ?_ ?_);focus exact an0)
   refine condM rfl trivial (fun hc=>?_) (fun hc=>?_)
   ·have hk13:(bLt (((gd r8.List r5.1.toNat).Held).length:Nat) 1)=true:=by simpa using hc
    replace H:=cond_t hc H
    cases H
   have hk13:(bLt (((gd r8.List r5.1.toNat).Held).length:Nat) 1)=false:=by simpa using hc
   replace H:=cond_f hc H
   refine rg ctNo_ok ?_
   simp only [go_sem]
   refine seqM ?_
   obtain ⟨f14,H⟩:=need_some.1 H
   replace f14:=inb_iff.1 f14
   refine rg ctNo_ok ?_
   simp only [go_sem,Nat.reduceLT,Nat.reduceAdd,f14]
   repeat ((with_reducible refine And.intro ?_ ?_);focus exact an4)
   refine seqM ?_
   refine sq ctNo_ok ?_
   simp only [go_sem]
   refine blkM ?_
   refine loop_den (fun s:Int × TStored=>(.sl 5 43 0 (((gd r8.List r5.1.toNat).Held).length) false::.fn 56 []::.top::.top::.ptr 7 0 0 0::.ptr 8 0 0 0::.int .i64 s.1::tp 26 [])) (fun s=>[.dead,.lit 33 (.int .u8 0::.int .u8 0::.bool false::.bool false::.bool false::.bool false::.bool false::.bool false::.bool false::.int .i64 0::.int .u8 0::.int .u8 0::.int .u8 0::.int .u8 0::.int .u8 0::.int .u8 0::.int .u8 0::.int .u8 0::.int .u8 0::.int .u8 0::.int .u8 0::.int .u8 0::.int .u8 0::.int .u8 0::.int .u8 0::.int .u8 0::.int .u8 0::.int .u8 0::.int .u8 0::.int .u8 0::.int .u8 0::.int .u8 0::.int .u8 0::.int .u8 0::.int .i64 0::.int .i64 0::.int .i64 0::.int .u8 0::.bool false::.bool false::.ro 0 0 true (fun _ _=>.top)::[]),.lit 25 [.int .i64 0,.int .i64 0,.ro 0 0 true (fun _ _=>.top),.ro 0 0 true (fun _ _=>.top)],.lit 25 [.int .i64 r8.Limit,.int .i64 r8.Stay,.sl 4 3 0 r8.List.length false,.sl 6 43 0 r8.Group.length false],.row 57 3 r8.List.length (upc (enR c_TSleeper r8.List) r5.1.toNat 2 [.sl 5 43 0 (((gd r8.List r5.1.toNat).Held).length) false]),.row 61 43 (((gd r8.List r5.1.toNat).Held).length) (enR c_TStored ((gd r8.List r5.1.toNat).Held)),.row 61 43 r8.Group.length (enR c_TStored r8.Group),.lit 61 (.int .u8 0::.int .i64 0::.int .u8 0::.int .u8 0::.bool false::.bool false::.bool false::.bool false::.bool false::.bool false::.bool false::.int .i64 0::.int .u8 0::.int .u8 0::.int .u8 0::.int .u8 0::.int .u8 0::.int .u8 0::.int .u8 0::.int .u8 0::.int .u8 0::.int .u8 0::.int .u8 0::.int .u8 0::.int .u8 0::.int .u8 0::.int .u8 0::.int .u8 0::.int .u8 0::.int .u8 0::.int .u8 0::.int .u8 0::.int .u8 0::.int .u8 0::.int .u8 0::.int .u8 0::.int .i64 0::.int .i64 0::.int .i64 0::.int .u8 0::.bool false::.bool false::.ro 0 0 true (fun _ _=>.top)::[]),.lit 61 (.int .u8 s.2.Cat::.int .i64 s.2.At::.int .u8 s.2.Frame.Head.Kind::.int .u8 s.2.Frame.Head.Sub::.bool s.2.Frame.Head.ToDs::.bool s.2.Frame.Head.FromDs::.bool s.2.Frame.Head.More::.bool s.2.Frame.Head.Retry::.bool s.2.Frame.Head.Sleep::.bool s.2.Frame.Head.MoreData::.bool s.2.Frame.Head.Protected::.int .i64 s.2.Frame.Head.Duration::.int .u8 s.2.Frame.Head.A1.x0::.int .u8 s.2.Frame.Head.A1.x1::.int .u8 s.2.Frame.Head.A1.x2::.int .u8 s.2.Frame.Head.A1.x3::.int .u8 s.2.Frame.Head.A1.x4::.int .u8 s.2.Frame.Head.A1.x5::.int .u8 s.2.Frame.Head.A2.x0::.int .u8 s.2.Frame.Head.A2.x1::.int .u8 s.2.Frame.Head.A2.x2::.int .u8 s.2.Frame.Head.A2.x3::.int .u8 s.2.Frame.Head.A2.x4::.int .u8 s.2.Frame.Head.A2.x5::.int .u8 s.2.Frame.Head.A3.x0::.int .u8 s.2.Frame.Head.A3.x1::.int .u8 s.2.Frame.Head.A3.x2::.int .u8 s.2.Frame.Head.A3.x3::.int .u8 s.2.Frame.Head.A3.x4::.int .u8 s.2.Frame.Head.A3.x5::.int .u8 s.2.Frame.Head.A4.x0::.int .u8 s.2.Frame.Head.A4.x1::.int .u8 s.2.Frame.Head.A4.x2::.int .u8 s.2.Frame.Head.A4.x3::.int .u8 s.2.Frame.Head.A4.x4::.int .u8 s.2.Frame.Head.A4.x5::.int .i64 s.2.Frame.Head.Seq::.int .i64 s.2.Frame.Head.Frag::.int .i64 s.2.Frame.Head.Tid::.int .u8 s.2.Frame.Head.Ack::.bool s.2.Frame.Head.Amsdu::.bool s.2.Frame.Head.Eosp::.ro 1 s.2.Frame.Body.length false (enR c_u8 s.2.Frame.Body)::[])]) (fun e:TStored=>(tp 4 (.ptr 7 0 0 0::.ptr 8 0 0 0::tp 27 []))) (fun e=>[.dead,.lit 33 (.int .u8 0::.int .u8 0::.bool false::.bool false::.bool false::.bool false::.bool false::.bool false::.bool false::.int .i64 0::.int .u8 0::.int .u8 0::.int .u8 0::.int .u8 0::.int .u8 0::.int .u8 0::.int .u8 0::.int .u8 0::.int .u8 0::.int .u8 0::.int .u8 0::.int .u8 0::.int .u8 0::.int .u8 0::.int .u8 0::.int .u8 0::.int .u8 0::.int .u8 0::.int .u8 0::.int .u8 0::.int .u8 0::.int .u8 0::.int .u8 0::.int .u8 0::.int .i64 0::.int .i64 0::.int .i64 0::.int .u8 0::.bool false::.bool false::.ro 0 0 true (fun _ _=>.top)::[]),.lit 25 [.int .i64 0,.int .i64 0,.ro 0 0 true (fun _ _=>.top),.ro 0 0 true (fun _ _=>.top)],.lit 25 [.int .i64 r8.Limit,.int .i64 r8.Stay,.sl 4 3 0 r8.List.length false,.sl 6 43 0 r8.Group.length false],.row 57 3 r8.List.length (upc (enR c_TSleeper r8.List) r5.1.toNat 2 [.sl 5 43 0 (((gd r8.List r5.1.toNat).Held).length) false]),.row 61 43 (((gd r8.List r5.1.toNat).Held).length) (enR c_TStored ((gd r8.List r5.1.toNat).Held)),.row 61 43 r8.Group.length (enR c_TStored r8.Group),.lit 61 (.int .u8 0::.int .i64 0::.int .u8 0::.int .u8 0::.bool false::.bool false::.bool false::.bool false::.bool false::.bool false::.bool false::.int .i64 0::.int .u8 0::.int .u8 0::.int .u8 0::.int .u8 0::.int .u8 0::.int .u8 0::.int .u8 0::.int .u8 0::.int .u8 0::.int .u8 0::.int .u8 0::.int .u8 0::.int .u8 0::.int .u8 0::.int .u8 0::.int .u8 0::.int .u8 0::.int .u8 0::.int .u8 0::.int .u8 0::.int .u8 0::.int .u8 0::.int .u8 0::.int .u8 0::.int .i64 0::.int .i64 0::.int .i64 0::.int .u8 0::.bool false::.bool false::.ro 0 0 true (fun _ _=>.top)::[]),.lit 61 (.int .u8 e.Cat::.int .i64 e.At::.int .u8 e.Frame.Head.Kind::.int .u8 e.Frame.Head.Sub::.bool e.Frame.Head.ToDs::.bool e.Frame.Head.FromDs::.bool e.Frame.Head.More::.bool e.Frame.Head.Retry::.bool e.Frame.Head.Sleep::.bool e.Frame.Head.MoreData::.bool e.Frame.Head.Protected::.int .i64 e.Frame.Head.Duration::.int .u8 e.Frame.Head.A1.x0::.int .u8 e.Frame.Head.A1.x1::.int .u8 e.Frame.Head.A1.x2::.int .u8 e.Frame.Head.A1.x3::.int .u8 e.Frame.Head.A1.x4::.int .u8 e.Frame.Head.A1.x5::.int .u8 e.Frame.Head.A2.x0::.int .u8 e.Frame.Head.A2.x1::.int .u8 e.Frame.Head.A2.x2::.int .u8 e.Frame.Head.A2.x3::.int .u8 e.Frame.Head.A2.x4::.int .u8 e.Frame.Head.A2.x5::.int .u8 e.Frame.Head.A3.x0::.int .u8 e.Frame.Head.A3.x1::.int .u8 e.Frame.Head.A3.x2::.int .u8 e.Frame.Head.A3.x3::.int .u8 e.Frame.Head.A3.x4::.int .u8 e.Frame.Head.A3.x5::.int .u8 e.Frame.Head.A4.x0::.int .u8 e.Frame.Head.A4.x1::.int .u8 e.Frame.Head.A4.x2::.int .u8 e.Frame.Head.A4.x3::.int .u8 e.Frame.Head.A4.x4::.int .u8 e.Frame.Head.A4.x5::.int .i64 e.Frame.Head.Seq::.int .i64 e.Frame.Head.Frag::.int .i64 e.Frame.Head.Tid::.int .u8 e.Frame.Head.Ack::.bool e.Frame.Head.Amsdu::.bool e.Frame.Head.Eosp::.ro 1 e.Frame.Body.length false (enR c_u8 e.Frame.Body)::[])]) H ?_ (fun s o H hn1_1 hn2_1=>?_) (fun w1_5 H=>?_)
   ·refine SubF_of ⟨[some 0,some 1,some 2,some 3,some 4,some 5,some 6,some 7,some 8],?_,?_,by rfl,by rfl⟩
    ·simp [CvL,Cv,getM,tp]
    ·exact ⟨CvB_dead,cv,cv,cv,(CvB_focG (i:=r5.1.toNat) (L:=r8.List) nr_TSleeper (fun x y hx=>by simp only [upc_ne hx]) (fun y hy=>match y,hy with|0,_=>by simp [upc_ii,getL,Cv,enR,c_TSleeper]|1,_=>by simp [upc_ii,getL,Cv,enR,c_TSleeper]|2,_=>by simp [upc_ii,getL,Cv,getM,enR,c_TSleeper]|(y+3),h=>absurd h (by omega))),(CvB_same nfA),(CvB_same nfA),cv,cv,trivial⟩
   ·obtain ⟨v1_1,v1_2⟩:=s
    unfold F23_L1 at H
    try dsimp only at H ⊢
    try simp only [tp]
    refine seqM ?_
    refine sq ctNo_ok ?_
    simp only [go_sem,Nat.reduceAdd]
    repeat ((with_reducible refine And.intro ?_ ?_);focus exact an0)
    refine condM' rfl trivial (fun hc=>?_) (fun hc=>?_)
    ·have hk15:(bLt v1_1 (((gd r8.List r5.1.toNat).Held).length:Nat))=false:=by simpa using hc
     replace H:=cond_f hc H
     refine rg ctNo_ok ?_
     simp only [go_sem]
     refine ⟨_,(Option.some.inj H).symm,?_⟩
     refine SubF_of ⟨[some 0,some 1,some 2,some 3,some 4,some 5,some 6,some 7,some 8],?_,?_,by rfl,by rfl⟩
     ·simp [CvL,Cv,getM]
     ·exact ⟨CvB_dead,cv,cv,cv,(CvB_focG (i:=r5.1.toNat) (L:=r8.List) nr_TSleeper (fun x y hx=>by simp only [upc_ne hx]) (fun y hy=>match y,hy with|0,_=>by simp [upc_ii,getL,Cv,enR,c_TSleeper]|1,_=>by simp [upc_ii,getL,Cv,enR,c_TSleeper]|2,_=>by simp [upc_ii,getL,Cv,getM,enR,c_TSleeper]|(y+3),h=>absurd h (by omega))),(CvB_same nfA),(CvB_same nfA),cv,cv,trivial⟩
    have hk15:(bLt v1_1 (((gd r8.List r5.1.toNat).Held).length:Nat))=true:=by simpa using hc
    replace H:=cond_t hc H
    refine rg ctNo_ok ?_
    simp only [go_sem]
    refine seqM ?_
    refine blkM ?_
    refine seqM ?_
    obtain ⟨f16,H⟩:=need_some.1 H
    replace f16:=inb_iff.1 f16
    obtain ⟨r17,e18,H⟩:=bsi H
    refine draw_quiet shT_ok ct23t3_ok (by kernel_rfl) (by kernel_rfl) ?_
    simp only [go_sem,Nat.reduceLT,Nat.reduceAdd,ct23t3_56,body56,f16,e18]
    repeat ((with_reducible refine And.intro ?_ ?_);focus exact an0)
    refine condM' rfl trivial (fun hc=>?_) (fun hc=>?_)
    ·have hk19:(bLt 0 r17)=false:=by simpa using hc
     replace H:=cond_f hc H
     refine rg ctNo_ok ?_
     simp only [go_sem]
     refine rg ctNo_ok ?_
     simp only [go_sem]
     refine ⟨_,(Option.some.inj H).symm,?_⟩
     refine SubF_of ⟨[some 0,some 1,some 2,some 3,some 4,some 5,some 6,some 7,some 8],?_,?_,by rfl,by rfl⟩
     ·simp [CvL,Cv,getM]
     ·exact ⟨CvB_dead,cv,cv,cv,(CvB_focG (i:=r5.1.toNat) (L:=r8.List) nr_TSleeper (fun x y hx=>by simp only [upc_ne hx]) (fun y hy=>match y,hy with|0,_=>by simp [upc_ii,getL,Cv,enR,c_TSleeper]|1,_=>by simp [upc_ii,getL,Cv,enR,c_TSleeper]|2,_=>by simp [upc_ii,getL,Cv,getM,enR,c_TSleeper]|(y+3),h=>absurd h (by omega))),(CvB_same nfA),(CvB_same nfA),cv,cv,trivial⟩
    have hk19:(bLt 0 r17)=true:=by simpa using hc
    replace H:=cond_t hc H
    obtain ⟨f20,H⟩:=need_some.1 H
    replace f20:=inb_iff.1 f20
    refine rg ctNo_ok ?_
    simp only [go_sem,Nat.reduceLT,Nat.reduceAdd,f20]
    repeat ((with_reducible refine And.intro ?_ ?_);focus exact an4)
    refine rg ctNo_ok ?_
    simp only [go_sem]
    refine ⟨_,(Option.some.inj H).symm,?_⟩
    refine SubF_of ⟨[some 0,some 1,some 2,some 3,some 4,some 5,some 6,some 7,some 8],?_,?_,by rfl,by rfl⟩
    ·simp [CvL,Cv,getM]
    ·exact ⟨CvB_dead,cv,cv,cv,(CvB_focG (i:=r5.1.toNat) (L:=r8.List) nr_TSleeper (fun x y hx=>by simp only [upc_ne hx]) (fun y hy=>match y,hy with|0,_=>by simp [upc_ii,getL,Cv,enR,c_TSleeper]|1,_=>by simp [upc_ii,getL,Cv,enR,c_TSleeper]|2,_=>by simp [upc_ii,getL,Cv,getM,enR,c_TSleeper]|(y+3),h=>absurd h (by omega))),(CvB_same nfA),(CvB_same nfA),cv,cv,trivial⟩
   ·try dsimp only at H ⊢
    try simp only [tp]
    try simp only [m_normal]
    refine sq ctNo_ok ?_
    simp only [go_sem,Nat.reduceLT,Nat.reduceAdd]
    repeat ((with_reducible refine And.intro ?_ ?_);focus exact an4)
    refine rg ctNo_ok ?_
    simp only [go_sem,Nat.reduceLT,Nat.reduceAdd]
    refine cutO shT_ok ctNo_ok 3 ?_
    simp only [kO_normal,List.take_succ_cons,List.take_zero,List.drop_succ_cons,List.drop_zero,go_sem,Nat.reduceLeDiff,Nat.reduceLT,Nat.reduceAdd]
    repeat ((with_reducible refine And.intro ?_ ?_);focus exact an0)
    refine endO ?_
    refine seqM ?_
    obtain ⟨r21,e22,H⟩:=bsi H
    refine rg ct23t4_ok ?_
    simp only [go_sem,Nat.reduceLT,Nat.reduceAdd,Nat.reduceSub,upc_ii,ct23t4_58,body58_1,e22]
    repeat ((with_reducible refine And.intro ?_ ?_);focus exact an0)
    refine seqM ?_
    obtain ⟨f23,H⟩:=need_some.1 H
    replace f23:=inb_iff.1 f23
    refine rg ctNo_ok ?_
    simp only [go_sem,Nat.reduceLT,Nat.reduceAdd,Nat.reduceSub,reduceCtorEq,upc_ii,f23]
    repeat ((with_reducible refine And.intro ?_ ?_);focus exact an4)
    refine seqM ?_
    obtain ⟨f24,H⟩:=need_some.1 H
    replace f24:=delb_iff.1 f24
    refine rg ct23t5_ok ?_
    simp only [go_sem,Nat.reduceLT,Nat.reduceAdd,Nat.reduceSub,upc_ii,ct23t5_60,delN,f24]
    repeat ((with_reducible refine And.intro ?_ ?_);focus exact an0)
    refine seqM ?_
    obtain ⟨w25,hw26,H⟩:=bsi H
    replace hw26:=Option.some.inj hw26
    have lhw26:w25.length=((gd r8.List r5.1.toNat).Held).length - ((wr .i64 (r21+1)).toNat - r21.toNat):=by rw [← hw26];exact (del_len f24 cl)
    refine subF_mean (t2:=(tp 4 (.ptr 1 0 0 0::.ptr 2 0 0 0::.top::.ptr 3 0 0 0::.ptr 4 3 r5.1.toNat 0::tp 75 []))) (h2:=[.dead,.lit 33 (.int .u8 ((((gd ((gd r8.List r5.1.toNat).Held) r21.toNat).Frame).Head).Kind)::.int .u8 ((((gd ((gd r8.List r5.1.toNat).Held) r21.toNat).Frame).Head).Sub)::.bool ((((gd ((gd r8.List r5.1.toNat).Held) r21.toNat).Frame).Head).ToDs)::.bool ((((gd ((gd r8.List r5.1.toNat).Held) r21.toNat).Frame).Head).FromDs)::.bool ((((gd ((gd r8.List r5.1.toNat).Held) r21.toNat).Frame).Head).More)::.bool ((((gd ((gd r8.List r5.1.toNat).Held) r21.toNat).Frame).Head).Retry)::.bool ((((gd ((gd r8.List r5.1.toNat).Held) r21.toNat).Frame).Head).Sleep)::.bool ((((gd ((gd r8.List r5.1.toNat).Held) r21.toNat).Frame).Head).MoreData)::.bool ((((gd ((gd r8.List r5.1.toNat).Held) r21.toNat).Frame).Head).Protected)::.int .i64 ((((gd ((gd r8.List r5.1.toNat).Held) r21.toNat).Frame).Head).Duration)::.int .u8 (((((gd ((gd r8.List r5.1.toNat).Held) r21.toNat).Frame).Head).A1).x0)::.int .u8 (((((gd ((gd r8.List r5.1.toNat).Held) r21.toNat).Frame).Head).A1).x1)::.int .u8 (((((gd ((gd r8.List r5.1.toNat).Held) r21.toNat).Frame).Head).A1).x2)::.int .u8 (((((gd ((gd r8.List r5.1.toNat).Held) r21.toNat).Frame).Head).A1).x3)::.int .u8 (((((gd ((gd r8.List r5.1.toNat).Held) r21.toNat).Frame).Head).A1).x4)::.int .u8 (((((gd ((gd r8.List r5.1.toNat).Held) r21.toNat).Frame).Head).A1).x5)::.int .u8 (((((gd ((gd r8.List r5.1.toNat).Held) r21.toNat).Frame).Head).A2).x0)::.int .u8 (((((gd ((gd r8.List r5.1.toNat).Held) r21.toNat).Frame).Head).A2).x1)::.int .u8 (((((gd ((gd r8.List r5.1.toNat).Held) r21.toNat).Frame).Head).A2).x2)::.int .u8 (((((gd ((gd r8.List r5.1.toNat).Held) r21.toNat).Frame).Head).A2).x3)::.int .u8 (((((gd ((gd r8.List r5.1.toNat).Held) r21.toNat).Frame).Head).A2).x4)::.int .u8 (((((gd ((gd r8.List r5.1.toNat).Held) r21.toNat).Frame).Head).A2).x5)::.int .u8 (((((gd ((gd r8.List r5.1.toNat).Held) r21.toNat).Frame).Head).A3).x0)::.int .u8 (((((gd ((gd r8.List r5.1.toNat).Held) r21.toNat).Frame).Head).A3).x1)::.int .u8 (((((gd ((gd r8.List r5.1.toNat).Held) r21.toNat).Frame).Head).A3).x2)::.int .u8 (((((gd ((gd r8.List r5.1.toNat).Held) r21.toNat).Frame).Head).A3).x3)::.int .u8 (((((gd ((gd r8.List r5.1.toNat).Held) r21.toNat).Frame).Head).A3).x4)::.int .u8 (((((gd ((gd r8.List r5.1.toNat).Held) r21.toNat).Frame).Head).A3).x5)::.int .u8 (((((gd ((gd r8.List r5.1.toNat).Held) r21.toNat).Frame).Head).A4).x0)::.int .u8 (((((gd ((gd r8.List r5.1.toNat).Held) r21.toNat).Frame).Head).A4).x1)::.int .u8 (((((gd ((gd r8.List r5.1.toNat).Held) r21.toNat).Frame).Head).A4).x2)::.int .u8 (((((gd ((gd r8.List r5.1.toNat).Held) r21.toNat).Frame).Head).A4).x3)::.int .u8 (((((gd ((gd r8.List r5.1.toNat).Held) r21.toNat).Frame).Head).A4).x4)::.int .u8 (((((gd ((gd r8.List r5.1.toNat).Held) r21.toNat).Frame).Head).A4).x5)::.int .i64 ((((gd ((gd r8.List r5.1.toNat).Held) r21.toNat).Frame).Head).Seq)::.int .i64 ((((gd ((gd r8.List r5.1.toNat).Held) r21.toNat).Frame).Head).Frag)::.int .i64 ((((gd ((gd r8.List r5.1.toNat).Held) r21.toNat).Frame).Head).Tid)::.int .u8 ((((gd ((gd r8.List r5.1.toNat).Held) r21.toNat).Frame).Head).Ack)::.bool ((((gd ((gd r8.List r5.1.toNat).Held) r21.toNat).Frame).Head).Amsdu)::.bool ((((gd ((gd r8.List r5.1.toNat).Held) r21.toNat).Frame).Head).Eosp)::.ro 1 ((((gd ((gd r8.List r5.1.toNat).Held) r21.toNat).Frame).Body).length) false (enR c_u8 (((gd ((gd r8.List r5.1.toNat).Held) r21.toNat).Frame).Body))::[]),.lit 25 [.int .i64 0,.int .i64 0,.ro 0 0 true (fun _ _=>.top),.ro 0 0 true (fun _ _=>.top)],.lit 25 [.int .i64 r8.Limit,.int .i64 r8.Stay,.sl 4 3 0 r8.List.length false,.sl 6 43 0 r8.Group.length false],.row 57 3 r8.List.length (upc (enR c_TSleeper r8.List) r5.1.toNat 0 [.int .i64 ((gd r8.List r5.1.toNat).Aid),.bool ((gd r8.List r5.1.toNat).Asleep),.sl 10 43 0 w25.length false]),.dead,.row 61 43 r8.Group.length (enR c_TStored r8.Group),.lit 61 (.int .u8 w1_5.Cat::.int .i64 w1_5.At::.int .u8 w1_5.Frame.Head.Kind::.int .u8 w1_5.Frame.Head.Sub::.bool w1_5.Frame.Head.ToDs::.bool w1_5.Frame.Head.FromDs::.bool w1_5.Frame.Head.More::.bool w1_5.Frame.Head.Retry::.bool w1_5.Frame.Head.Sleep::.bool w1_5.Frame.Head.MoreData::.bool w1_5.Frame.Head.Protected::.int .i64 w1_5.Frame.Head.Duration::.int .u8 w1_5.Frame.Head.A1.x0::.int .u8 w1_5.Frame.Head.A1.x1::.int .u8 w1_5.Frame.Head.A1.x2::.int .u8 w1_5.Frame.Head.A1.x3::.int .u8 w1_5.Frame.Head.A1.x4::.int .u8 w1_5.Frame.Head.A1.x5::.int .u8 w1_5.Frame.Head.A2.x0::.int .u8 w1_5.Frame.Head.A2.x1::.int .u8 w1_5.Frame.Head.A2.x2::.int .u8 w1_5.Frame.Head.A2.x3::.int .u8 w1_5.Frame.Head.A2.x4::.int .u8 w1_5.Frame.Head.A2.x5::.int .u8 w1_5.Frame.Head.A3.x0::.int .u8 w1_5.Frame.Head.A3.x1::.int .u8 w1_5.Frame.Head.A3.x2::.int .u8 w1_5.Frame.Head.A3.x3::.int .u8 w1_5.Frame.Head.A3.x4::.int .u8 w1_5.Frame.Head.A3.x5::.int .u8 w1_5.Frame.Head.A4.x0::.int .u8 w1_5.Frame.Head.A4.x1::.int .u8 w1_5.Frame.Head.A4.x2::.int .u8 w1_5.Frame.Head.A4.x3::.int .u8 w1_5.Frame.Head.A4.x4::.int .u8 w1_5.Frame.Head.A4.x5::.int .i64 w1_5.Frame.Head.Seq::.int .i64 w1_5.Frame.Head.Frag::.int .i64 w1_5.Frame.Head.Tid::.int .u8 w1_5.Frame.Head.Ack::.bool w1_5.Frame.Head.Amsdu::.bool w1_5.Frame.Head.Eosp::.ro 1 w1_5.Frame.Body.length false (enR c_u8 w1_5.Frame.Body)::[]),.lit 61 (.int .u8 w1_5.Cat::.int .i64 w1_5.At::.int .u8 w1_5.Frame.Head.Kind::.int .u8 w1_5.Frame.Head.Sub::.bool w1_5.Frame.Head.ToDs::.bool w1_5.Frame.Head.FromDs::.bool w1_5.Frame.Head.More::.bool w1_5.Frame.Head.Retry::.bool w1_5.Frame.Head.Sleep::.bool w1_5.Frame.Head.MoreData::.bool w1_5.Frame.Head.Protected::.int .i64 w1_5.Frame.Head.Duration::.int .u8 w1_5.Frame.Head.A1.x0::.int .u8 w1_5.Frame.Head.A1.x1::.int .u8 w1_5.Frame.Head.A1.x2::.int .u8 w1_5.Frame.Head.A1.x3::.int .u8 w1_5.Frame.Head.A1.x4::.int .u8 w1_5.Frame.Head.A1.x5::.int .u8 w1_5.Frame.Head.A2.x0::.int .u8 w1_5.Frame.Head.A2.x1::.int .u8 w1_5.Frame.Head.A2.x2::.int .u8 w1_5.Frame.Head.A2.x3::.int .u8 w1_5.Frame.Head.A2.x4::.int .u8 w1_5.Frame.Head.A2.x5::.int .u8 w1_5.Frame.Head.A3.x0::.int .u8 w1_5.Frame.Head.A3.x1::.int .u8 w1_5.Frame.Head.A3.x2::.int .u8 w1_5.Frame.Head.A3.x3::.int .u8 w1_5.Frame.Head.A3.x4::.int .u8 w1_5.Frame.Head.A3.x5::.int .u8 w1_5.Frame.Head.A4.x0::.int .u8 w1_5.Frame.Head.A4.x1::.int .u8 w1_5.Frame.Head.A4.x2::.int .u8 w1_5.Frame.Head.A4.x3::.int .u8 w1_5.Frame.Head.A4.x4::.int .u8 w1_5.Frame.Head.A4.x5::.int .i64 w1_5.Frame.Head.Seq::.int .i64 w1_5.Frame.Head.Frag::.int .i64 w1_5.Frame.Head.Tid::.int .u8 w1_5.Frame.Head.Ack::.bool w1_5.Frame.Head.Amsdu::.bool w1_5.Frame.Head.Eosp::.ro 1 w1_5.Frame.Body.length false (enR c_u8 w1_5.Frame.Body)::[]),.lit 5 [.int .u8 w1_5.Cat],.row 61 43 w25.length (enR c_TStored w25)]) ?_ ?_
    ·refine SubF_of ⟨[some 0,some 1,some 2,some 3,some 4,some 5,some 6,some 7,some 8,some 9,some 10],?_,?_,by rfl,by rfl⟩
     ·simp [CvL,Cv,getM,tp]
     ·exact ⟨CvB_dead,(by simp [CvB,CvL,Cv,blkAt,geth]),(by simp [CvB,CvL,Cv,blkAt,geth]),(by simp [CvB,CvL,Cv,blkAt,geth,getM]),(CvB_focG2 (i:=r5.1.toNat) (L:=r8.List) nr_TSleeper (fun x y hx=>by simp only [upc_ne hx]) (fun x y hx=>by simp only [upc_ne hx]) (fun y hy=>match y,hy with|0,_=>by simp [upc_ii,getL,Cv,enR,c_TSleeper,lhw26]|1,_=>by simp [upc_ii,getL,Cv,enR,c_TSleeper,lhw26]|2,_=>by simp [upc_ii,getL,Cv,getM,enR,c_TSleeper,lhw26]|(y+3),h=>absurd h (by omega))),CvB_dead,CvB_row nr_TStored rfl (fun _ _ _ _=>rfl),(by simp [CvB,CvL,Cv,blkAt,geth]),(by simp [CvB,CvL,Cv,blkAt,geth]),(by simp [CvB,CvL,Cv,blkAt,geth]),CvB_row nr_TStored lhw26 (hw26 ▸ (del_row f24 cl (fun _ _ _ _=>rfl))),trivial⟩
    simp only [tp]
    refine rg ctNo_ok ?_
    simp only [go_sem,Nat.reduceLeDiff,Nat.reduceLT,Nat.reduceAdd,Nat.reduceSub,reduceCtorEq,upc_ii]
    repeat ((with_reducible refine And.intro ?_ ?_);focus exact an0)
    refine seqM ?_
    refine draw_rule shT_ok ctNo_ok 0 (by kernel_rfl) (by kernel_rfl) ?_
    intro an han
    simp only [d_nil,d_cons,nxtD,xrD,xoD,roEq,minL,List.append_nil,refsOp,refs,mask,maskF,place,placeF,okLog,pairOk,hit,inL,slotsF,nrH,nrB,nrL,nr,List.replicate_zero,Nat.sub_self,Nat.add_zero,Nat.zero_add,Nat.reduceSub,Nat.lt_add_one,go_sem,Nat.reduceLeDiff,Nat.reduceLT,Nat.reduceAdd,Nat.reduceSub,Nat.reduceBEq]
    repeat ((with_reducible refine And.intro ?_ ?_);focus exact an5)
    refine fz2_mean [10] [4] ?_ ?_
    ·simp only [go_sem,Nat.reduceBEq,Nat.reduceAdd,fzObHF2,fzObB2]
     first|exact (foc_ob (L:=r8.List) (i:=r5.1.toNat) (fun a y=>nrefL_getL (nr_TSleeper a) y) (fun x y hx=>by simp only [upc_ne hx]) (fun y hy=>match y,hy with|0,_=>(by (simp [upc_ii,getL,fzOb,inL,geth,rowOb,enR,c_TSleeper];all_goals (first|(with_reducible trivial)|(intros;exact nrefL_getL (NRf.h _) _)|(intros;exact nfc))))|1,_=>(by (simp [upc_ii,getL,fzOb,inL,geth,rowOb,enR,c_TSleeper];all_goals (first|(with_reducible trivial)|(intros;exact nrefL_getL (NRf.h _) _)|(intros;exact nfc))))|2,_=>(by (simp [upc_ii,getL,fzOb,inL,geth,rowOb,enR,c_TSleeper];all_goals (first|(with_reducible trivial)|(intros;exact nrefL_getL (NRf.h _) _)|(intros;exact nfc))))|(y+3),h=>absurd h (by omega)))|(and_intros<;>first|exact (foc_ob (L:=r8.List) (i:=r5.1.toNat) (fun a y=>nrefL_getL (nr_TSleeper a) y) (fun x y hx=>by simp only [upc_ne hx]) (fun y hy=>match y,hy with|0,_=>(by (simp [upc_ii,getL,fzOb,enR,c_TSleeper];all_goals (first|(with_reducible trivial)|(intros;exact nrefL_getL (NRf.h _) _)|(intros;exact nfc))))|1,_=>(by (simp [upc_ii,getL,fzOb,enR,c_TSleeper];all_goals (first|(with_reducible trivial)|(intros;exact nrefL_getL (NRf.h _) _)|(intros;exact nfc))))|2,_=>(by (simp [upc_ii,getL,fzOb,inL,geth,rowOb,enR,c_TSleeper];all_goals (first|(with_reducible trivial)|(intros;exact nrefL_getL (NRf.h _) _)|(intros;exact nfc))))|(y+3),h=>absurd h (by omega)))|(with_reducible trivial)|omega|exact nfc|trivial)
    simp only [go_sem,Nat.reduceBEq,Nat.reduceAdd,fzH2,fzHF2,fzB2]
    obtain ⟨w27,hw28,H⟩:=bsi H
    replace hw28:=Option.some.inj hw28
    have lhw28:w27.length=r8.List.length:=by rw [← hw28];exact (by simp only [List.length_set])
    refine subF_mean (t2:=(tp 4 (.ptr 1 0 0 0::.ptr 2 0 0 0::.int .i64 0::tp 77 []))) (h2:=[.dead,.lit 33 (.int .u8 ((((gd ((gd r8.List r5.1.toNat).Held) r21.toNat).Frame).Head).Kind)::.int .u8 ((((gd ((gd r8.List r5.1.toNat).Held) r21.toNat).Frame).Head).Sub)::.bool ((((gd ((gd r8.List r5.1.toNat).Held) r21.toNat).Frame).Head).ToDs)::.bool ((((gd ((gd r8.List r5.1.toNat).Held) r21.toNat).Frame).Head).FromDs)::.bool ((((gd ((gd r8.List r5.1.toNat).Held) r21.toNat).Frame).Head).More)::.bool ((((gd ((gd r8.List r5.1.toNat).Held) r21.toNat).Frame).Head).Retry)::.bool ((((gd ((gd r8.List r5.1.toNat).Held) r21.toNat).Frame).Head).Sleep)::.bool (bLt 0 (w25.length:Nat))::.bool ((((gd ((gd r8.List r5.1.toNat).Held) r21.toNat).Frame).Head).Protected)::.int .i64 ((((gd ((gd r8.List r5.1.toNat).Held) r21.toNat).Frame).Head).Duration)::.int .u8 (((((gd ((gd r8.List r5.1.toNat).Held) r21.toNat).Frame).Head).A1).x0)::.int .u8 (((((gd ((gd r8.List r5.1.toNat).Held) r21.toNat).Frame).Head).A1).x1)::.int .u8 (((((gd ((gd r8.List r5.1.toNat).Held) r21.toNat).Frame).Head).A1).x2)::.int .u8 (((((gd ((gd r8.List r5.1.toNat).Held) r21.toNat).Frame).Head).A1).x3)::.int .u8 (((((gd ((gd r8.List r5.1.toNat).Held) r21.toNat).Frame).Head).A1).x4)::.int .u8 (((((gd ((gd r8.List r5.1.toNat).Held) r21.toNat).Frame).Head).A1).x5)::.int .u8 (((((gd ((gd r8.List r5.1.toNat).Held) r21.toNat).Frame).Head).A2).x0)::.int .u8 (((((gd ((gd r8.List r5.1.toNat).Held) r21.toNat).Frame).Head).A2).x1)::.int .u8 (((((gd ((gd r8.List r5.1.toNat).Held) r21.toNat).Frame).Head).A2).x2)::.int .u8 (((((gd ((gd r8.List r5.1.toNat).Held) r21.toNat).Frame).Head).A2).x3)::.int .u8 (((((gd ((gd r8.List r5.1.toNat).Held) r21.toNat).Frame).Head).A2).x4)::.int .u8 (((((gd ((gd r8.List r5.1.toNat).Held) r21.toNat).Frame).Head).A2).x5)::.int .u8 (((((gd ((gd r8.List r5.1.toNat).Held) r21.toNat).Frame).Head).A3).x0)::.int .u8 (((((gd ((gd r8.List r5.1.toNat).Held) r21.toNat).Frame).Head).A3).x1)::.int .u8 (((((gd ((gd r8.List r5.1.toNat).Held) r21.toNat).Frame).Head).A3).x2)::.int .u8 (((((gd ((gd r8.List r5.1.toNat).Held) r21.toNat).Frame).Head).A3).x3)::.int .u8 (((((gd ((gd r8.List r5.1.toNat).Held) r21.toNat).Frame).Head).A3).x4)::.int .u8 (((((gd ((gd r8.List r5.1.toNat).Held) r21.toNat).Frame).Head).A3).x5)::.int .u8 (((((gd ((gd r8.List r5.1.toNat).Held) r21.toNat).Frame).Head).A4).x0)::.int .u8 (((((gd ((gd r8.List r5.1.toNat).Held) r21.toNat).Frame).Head).A4).x1)::.int .u8 (((((gd ((gd r8.List r5.1.toNat).Held) r21.toNat).Frame).Head).A4).x2)::.int .u8 (((((gd ((gd r8.List r5.1.toNat).Held) r21.toNat).Frame).Head).A4).x3)::.int .u8 (((((gd ((gd r8.List r5.1.toNat).Held) r21.toNat).Frame).Head).A4).x4)::.int .u8 (((((gd ((gd r8.List r5.1.toNat).Held) r21.toNat).Frame).Head).A4).x5)::.int .i64 ((((gd ((gd r8.List r5.1.toNat).Held) r21.toNat).Frame).Head).Seq)::.int .i64 ((((gd ((gd r8.List r5.1.toNat).Held) r21.toNat).Frame).Head).Frag)::.int .i64 ((((gd ((gd r8.List r5.1.toNat).Held) r21.toNat).Frame).Head).Tid)::.int .u8 ((((gd ((gd r8.List r5.1.toNat).Held) r21.toNat).Frame).Head).Ack)::.bool ((((gd ((gd r8.List r5.1.toNat).Held) r21.toNat).Frame).Head).Amsdu)::.bool ((((gd ((gd r8.List r5.1.toNat).Held) r21.toNat).Frame).Head).Eosp)::.ro 1 ((((gd ((gd r8.List r5.1.toNat).Held) r21.toNat).Frame).Body).length) false (enR c_u8 (((gd ((gd r8.List r5.1.toNat).Held) r21.toNat).Frame).Body))::[]),.lit 25 [.int .i64 r8.Limit,.int .i64 r8.Stay,.sl 4 3 0 w27.length false,.sl 6 43 0 r8.Group.length false],.lit 25 [.int .i64 r8.Limit,.int .i64 r8.Stay,.sl 4 3 0 w27.length false,.sl 6 43 0 r8.Group.length false],.row 57 3 w27.length (enR c_TSleeper w27),.dead,.row 61 43 r8.Group.length (enR c_TStored r8.Group),.lit 61 (.int .u8 w1_5.Cat::.int .i64 w1_5.At::.int .u8 w1_5.Frame.Head.Kind::.int .u8 w1_5.Frame.Head.Sub::.bool w1_5.Frame.Head.ToDs::.bool w1_5.Frame.Head.FromDs::.bool w1_5.Frame.Head.More::.bool w1_5.Frame.Head.Retry::.bool w1_5.Frame.Head.Sleep::.bool w1_5.Frame.Head.MoreData::.bool w1_5.Frame.Head.Protected::.int .i64 w1_5.Frame.Head.Duration::.int .u8 w1_5.Frame.Head.A1.x0::.int .u8 w1_5.Frame.Head.A1.x1::.int .u8 w1_5.Frame.Head.A1.x2::.int .u8 w1_5.Frame.Head.A1.x3::.int .u8 w1_5.Frame.Head.A1.x4::.int .u8 w1_5.Frame.Head.A1.x5::.int .u8 w1_5.Frame.Head.A2.x0::.int .u8 w1_5.Frame.Head.A2.x1::.int .u8 w1_5.Frame.Head.A2.x2::.int .u8 w1_5.Frame.Head.A2.x3::.int .u8 w1_5.Frame.Head.A2.x4::.int .u8 w1_5.Frame.Head.A2.x5::.int .u8 w1_5.Frame.Head.A3.x0::.int .u8 w1_5.Frame.Head.A3.x1::.int .u8 w1_5.Frame.Head.A3.x2::.int .u8 w1_5.Frame.Head.A3.x3::.int .u8 w1_5.Frame.Head.A3.x4::.int .u8 w1_5.Frame.Head.A3.x5::.int .u8 w1_5.Frame.Head.A4.x0::.int .u8 w1_5.Frame.Head.A4.x1::.int .u8 w1_5.Frame.Head.A4.x2::.int .u8 w1_5.Frame.Head.A4.x3::.int .u8 w1_5.Frame.Head.A4.x4::.int .u8 w1_5.Frame.Head.A4.x5::.int .i64 w1_5.Frame.Head.Seq::.int .i64 w1_5.Frame.Head.Frag::.int .i64 w1_5.Frame.Head.Tid::.int .u8 w1_5.Frame.Head.Ack::.bool w1_5.Frame.Head.Amsdu::.bool w1_5.Frame.Head.Eosp::.ro 1 w1_5.Frame.Body.length false (enR c_u8 w1_5.Frame.Body)::[]),.lit 61 (.int .u8 w1_5.Cat::.int .i64 w1_5.At::.int .u8 w1_5.Frame.Head.Kind::.int .u8 w1_5.Frame.Head.Sub::.bool w1_5.Frame.Head.ToDs::.bool w1_5.Frame.Head.FromDs::.bool w1_5.Frame.Head.More::.bool w1_5.Frame.Head.Retry::.bool w1_5.Frame.Head.Sleep::.bool w1_5.Frame.Head.MoreData::.bool w1_5.Frame.Head.Protected::.int .i64 w1_5.Frame.Head.Duration::.int .u8 w1_5.Frame.Head.A1.x0::.int .u8 w1_5.Frame.Head.A1.x1::.int .u8 w1_5.Frame.Head.A1.x2::.int .u8 w1_5.Frame.Head.A1.x3::.int .u8 w1_5.Frame.Head.A1.x4::.int .u8 w1_5.Frame.Head.A1.x5::.int .u8 w1_5.Frame.Head.A2.x0::.int .u8 w1_5.Frame.Head.A2.x1::.int .u8 w1_5.Frame.Head.A2.x2::.int .u8 w1_5.Frame.Head.A2.x3::.int .u8 w1_5.Frame.Head.A2.x4::.int .u8 w1_5.Frame.Head.A2.x5::.int .u8 w1_5.Frame.Head.A3.x0::.int .u8 w1_5.Frame.Head.A3.x1::.int .u8 w1_5.Frame.Head.A3.x2::.int .u8 w1_5.Frame.Head.A3.x3::.int .u8 w1_5.Frame.Head.A3.x4::.int .u8 w1_5.Frame.Head.A3.x5::.int .u8 w1_5.Frame.Head.A4.x0::.int .u8 w1_5.Frame.Head.A4.x1::.int .u8 w1_5.Frame.Head.A4.x2::.int .u8 w1_5.Frame.Head.A4.x3::.int .u8 w1_5.Frame.Head.A4.x4::.int .u8 w1_5.Frame.Head.A4.x5::.int .i64 w1_5.Frame.Head.Seq::.int .i64 w1_5.Frame.Head.Frag::.int .i64 w1_5.Frame.Head.Tid::.int .u8 w1_5.Frame.Head.Ack::.bool w1_5.Frame.Head.Amsdu::.bool w1_5.Frame.Head.Eosp::.ro 1 w1_5.Frame.Body.length false (enR c_u8 w1_5.Frame.Body)::[]),.lit 5 [.int .u8 w1_5.Cat],.dead]) ?_ ?_
    ·refine SubF_of ⟨[some 0,some 1,some 2,some 3,some 4,some 5,some 6,some 7,some 8,some 9,some 10],?_,?_,by rfl,by rfl⟩
     ·simp [CvL,Cv,getM,tp]
     ·exact ⟨CvB_dead,(by simp [CvB,CvL,Cv,blkAt,geth]),(by simp [CvB,CvL,Cv,blkAt,geth,getM,lhw28]),(by simp [CvB,CvL,Cv,blkAt,geth,getM,lhw28]),CvB_row nr_TSleeper lhw28 (hw28 ▸ (foc_row (L:=r8.List) (i:=r5.1.toNat) (fun a y=>nrefL_getL (nr_TSleeper a) y) (fun x y hx=>by simp only [upc_ne hx]) (fun y hy=>match y,hy with|0,_=>by simp [upc_ii,getL,fzV,enR,c_TSleeper]|1,_=>by simp [upc_ii,getL,fzV,enR,c_TSleeper]|2,_=>by simp [upc_ii,getL,fzV,inL,geth,enR,c_TSleeper,sub_enR0]|(y+3),h=>absurd h (by omega)))),CvB_dead,CvB_row nr_TStored rfl (fun _ _ _ _=>rfl),(by simp [CvB,CvL,Cv,blkAt,geth]),(by simp [CvB,CvL,Cv,blkAt,geth]),(by simp [CvB,CvL,Cv,blkAt,geth]),CvB_dead,trivial⟩
    simp only [tp]
    refine rg ctNo_ok ?_
    simp only [go_sem,Nat.reduceLT,Nat.reduceAdd]
    obtain rfl:=Option.some.inj H
    refine ⟨[4,6,1,2,3,7,8,9],?_,?_,[],?_,?_,rfl⟩
    ·simp only [go_sem,Nat.reduceBEq]
     try exact at0
    ·simp only [go_sem,Nat.reduceBEq]
     try exact at0
    ·simp only [go_sem,Nat.reduceBEq]
     exact Cv_tup (CvL_cons (Cv_agg (CvL_cons Cv_int (CvL_cons Cv_int (CvL_cons Cv_bool (CvL_cons Cv_bool (CvL_cons Cv_bool (CvL_cons Cv_bool (CvL_cons Cv_bool (CvL_cons Cv_bool (CvL_cons Cv_bool (CvL_cons Cv_int (CvL_cons Cv_int (CvL_cons Cv_int (CvL_cons Cv_int (CvL_cons Cv_int (CvL_cons Cv_int (CvL_cons Cv_int (CvL_cons Cv_int (CvL_cons Cv_int (CvL_cons Cv_int (CvL_cons Cv_int (CvL_cons Cv_int (CvL_cons Cv_int (CvL_cons Cv_int (CvL_cons Cv_int (CvL_cons Cv_int (CvL_cons Cv_int (CvL_cons Cv_int (CvL_cons Cv_int (CvL_cons Cv_int (CvL_cons Cv_int (CvL_cons Cv_int (CvL_cons Cv_int (CvL_cons Cv_int (CvL_cons Cv_int (CvL_cons Cv_int (CvL_cons Cv_int (CvL_cons Cv_int (CvL_cons Cv_int (CvL_cons Cv_bool (CvL_cons Cv_bool (CvL_cons (Cv_nf (by simp only [nref])) CvL_nil)))))))))))))))))))))))))))))))))))))))))) (CvL_cons (Cv_agg (CvL_cons Cv_int (CvL_cons Cv_int (CvL_cons (ro_row (by first|rfl|simp) (fun _ _ _ _=>rfl)) (CvL_cons (ro_row (by first|rfl|simp) (fun _ _ _ _=>rfl)) CvL_nil))))) (CvL_cons Cv_int CvL_nil)))
    ·simp only [go_sem,CvH]
  ·cases hb
 ·unfold body23 at hb
  split at hb<;>cases hb
noncomputable def F38 (p0:TFrame):Option (Int) :=
 bif (!bEq (p0.Body.length:Nat) 2) then (some (-1)) else (need (inb 0 p0.Body.length) <| need (inb 1 p0.Body.length) <| some (orI .i64 (shlI .i64 (wr .i64 (gd p0.Body 0)) 8) (wr .i64 (gd p0.Body 1))))
noncomputable def body38:List AV->AR
 | [v0]=>.pure (aK 41 k_TFrame v0/\(F38 (g_TFrame (aL v0))).isSome=true) (.int .i64 (gt (F38 (g_TFrame (aL v0)))))
 | _=>.fail
theorem ok38:FnOk Try.prog 38 (pureC body38):=by
 refine pure_fnM body38 (rs:=[.tmp 2]) Try.func38 (by kernel_rfl) rfl rfl ?_
 intro l ob v hb hob
 unfold body38 at hb
 split at hb
 ·rename_i v0
  injection hb with q1 q2;subst q1 q2
  obtain ⟨hk0_0,hob⟩:=hob
  obtain ⟨r,H⟩:=Option.isSome_iff_exists.1 hob
  rw [H,gt_some]
  have hw0:=wA_TFrame hk0_0
  generalize g_TFrame (aL v0)=p0 at H hw0
  refine ⟨[.agg (.int .u8 p0.Head.Kind::.int .u8 p0.Head.Sub::.bool p0.Head.ToDs::.bool p0.Head.FromDs::.bool p0.Head.More::.bool p0.Head.Retry::.bool p0.Head.Sleep::.bool p0.Head.MoreData::.bool p0.Head.Protected::.int .i64 p0.Head.Duration::.int .u8 p0.Head.A1.x0::.int .u8 p0.Head.A1.x1::.int .u8 p0.Head.A1.x2::.int .u8 p0.Head.A1.x3::.int .u8 p0.Head.A1.x4::.int .u8 p0.Head.A1.x5::.int .u8 p0.Head.A2.x0::.int .u8 p0.Head.A2.x1::.int .u8 p0.Head.A2.x2::.int .u8 p0.Head.A2.x3::.int .u8 p0.Head.A2.x4::.int .u8 p0.Head.A2.x5::.int .u8 p0.Head.A3.x0::.int .u8 p0.Head.A3.x1::.int .u8 p0.Head.A3.x2::.int .u8 p0.Head.A3.x3::.int .u8 p0.Head.A3.x4::.int .u8 p0.Head.A3.x5::.int .u8 p0.Head.A4.x0::.int .u8 p0.Head.A4.x1::.int .u8 p0.Head.A4.x2::.int .u8 p0.Head.A4.x3::.int .u8 p0.Head.A4.x4::.int .u8 p0.Head.A4.x5::.int .i64 p0.Head.Seq::.int .i64 p0.Head.Frag::.int .i64 p0.Head.Tid::.int .u8 p0.Head.Ack::.bool p0.Head.Amsdu::.bool p0.Head.Eosp::.ro 1 p0.Body.length false (enR c_u8 p0.Body)::[])],_,(fun E vs F=>FR_wk1 hw0.1 F (fun vs F=>F)),rfl,rfl,?_⟩
  rw [Try.ntmps38]
  simp only [List.length_cons,List.length_nil,Nat.reduceAdd,Nat.reduceSub,List.replicate_succ,List.replicate_zero,List.cons_append,List.nil_append]
  unfold F38 at H
  try dsimp only at H
  refine sq ctNo_ok ?_
  simp only [go_sem]
  refine seqM ?_
  refine sq ctNo_ok ?_
  simp only [go_sem,Nat.reduceLT,Nat.reduceAdd]
  repeat ((with_reducible refine And.intro ?_ ?_);focus exact an0)
  refine condM rfl trivial (fun hc=>?_) (fun hc=>?_)
  ·have hk1:(bEq (p0.Body.length:Nat) 2)=false:=by simpa using hc
   replace H:=cond_t hc H
   refine sq ctNo_ok ?_
   simp only [go_sem]
   refine rg ctNo_ok ?_
   simp only [go_sem]
   obtain rfl:=Option.some.inj H
   first|rfl|simp only [Bool.and_false,Bool.false_and,Bool.and_true,Bool.true_and]
  have hk1:(bEq (p0.Body.length:Nat) 2)=true:=by simpa using hc
  replace H:=cond_f hc H
  refine rg ctNo_ok ?_
  simp only [go_sem]
  refine seqM ?_
  obtain ⟨f2,H⟩:=need_some.1 H
  replace f2:=inb_iff.1 f2
  obtain ⟨f3,H⟩:=need_some.1 H
  replace f3:=inb_iff.1 f3
  refine draw_quiet shT_ok ctNo_ok (by kernel_rfl) (by kernel_rfl) ?_
  simp only [go_sem,Nat.reduceLT,Nat.reduceAdd,Int.reduceToNat,f2,f3]
  repeat ((with_reducible refine And.intro ?_ ?_);focus exact an4)
  refine rg ctNo_ok ?_
  simp only [go_sem]
  obtain rfl:=Option.some.inj H
  first|rfl|simp only [Bool.and_false,Bool.false_and,Bool.and_true,Bool.true_and]
 ·cases hb
noncomputable def ct20t0:Ct:=tab [(12,genC body12)]
theorem ct20t0_ok:CtOk Try.prog ct20t0:=tab_cons ok12 <| tab_nil
theorem ct20t0_12 (l:List AV) (h:List ABlk):ct20t0 12 l h=genC body12 l h:=rfl
noncomputable def ct20t1:Ct:=tab [(40,genC body40)]
theorem ct20t1_ok:CtOk Try.prog ct20t1:=tab_cons ok40 <| tab_nil
theorem ct20t1_40 (l:List AV) (h:List ABlk):ct20t1 40 l h=genC body40 l h:=rfl
noncomputable def ct20t2:Ct:=tab [(50,genC body50)]
theorem ct20t2_ok:CtOk Try.prog ct20t2:=tab_cons ok50 <| tab_nil
theorem ct20t2_50 (l:List AV) (h:List ABlk):ct20t2 50 l h=genC body50 l h:=rfl
noncomputable def ct20t3:Ct:=tab [(24,frC (genC body24)),(37,edC body37)]
theorem ct20t3_ok:CtOk Try.prog ct20t3:=tab_cons (fr_ok ok24) <| tab_cons ok37 <| tab_nil
theorem ct20t3_24 (l:List AV) (h:List ABlk):ct20t3 24 l h=frC (genC body24) l h:=rfl
theorem ct20t3_37 (l:List AV) (h:List ABlk):ct20t3 37 l h=edC body37 l h:=rfl
noncomputable def ct20t4:Ct:=tab [(23,genC body23)]
theorem ct20t4_ok:CtOk Try.prog ct20t4:=tab_cons ok23 <| tab_nil
theorem ct20t4_23 (l:List AV) (h:List ABlk):ct20t4 23 l h=genC body23 l h:=rfl
noncomputable def ct20t5:Ct:=tab [(38,pureC body38)]
theorem ct20t5_ok:CtOk Try.prog ct20t5:=tab_cons ok38 <| tab_nil
theorem ct20t5_38 (l:List AV) (h:List ABlk):ct20t5 38 l h=pureC body38 l h:=rfl
noncomputable def F20:Option (Bool) :=
 (F12 2 100).bind fun r1=>(F40 r1.1 7).bind fun r3=>(F50 r3.1 7).bind fun r5=>(F37 1).bind fun r7=>(F24 r5.1 7 1 (TFrame.mk (THeader.mk r7.Head.Kind r7.Head.Sub r7.Head.ToDs r7.Head.FromDs r7.Head.More r7.Head.Retry r7.Head.Sleep r7.Head.MoreData r7.Head.Protected r7.Head.Duration (A6u8.mk r7.Head.A1.x0 r7.Head.A1.x1 r7.Head.A1.x2 r7.Head.A1.x3 r7.Head.A1.x4 r7.Head.A1.x5) (A6u8.mk r7.Head.A2.x0 r7.Head.A2.x1 r7.Head.A2.x2 r7.Head.A2.x3 r7.Head.A2.x4 r7.Head.A2.x5) (A6u8.mk r7.Head.A3.x0 r7.Head.A3.x1 r7.Head.A3.x2 r7.Head.A3.x3 r7.Head.A3.x4 r7.Head.A3.x5) (A6u8.mk r7.Head.A4.x0 r7.Head.A4.x1 r7.Head.A4.x2 r7.Head.A4.x3 r7.Head.A4.x4 r7.Head.A4.x5) r7.Head.Seq r7.Head.Frag r7.Head.Tid r7.Head.Ack r7.Head.Amsdu r7.Head.Eosp) r7.Body) 10).bind fun r9=>(F37 2).bind fun r11=>(F24 r9.2.2.1 7 2 (TFrame.mk (THeader.mk r11.Head.Kind r11.Head.Sub r11.Head.ToDs r11.Head.FromDs r11.Head.More r11.Head.Retry r11.Head.Sleep r11.Head.MoreData r11.Head.Protected r11.Head.Duration (A6u8.mk r11.Head.A1.x0 r11.Head.A1.x1 r11.Head.A1.x2 r11.Head.A1.x3 r11.Head.A1.x4 r11.Head.A1.x5) (A6u8.mk r11.Head.A2.x0 r11.Head.A2.x1 r11.Head.A2.x2 r11.Head.A2.x3 r11.Head.A2.x4 r11.Head.A2.x5) (A6u8.mk r11.Head.A3.x0 r11.Head.A3.x1 r11.Head.A3.x2 r11.Head.A3.x3 r11.Head.A3.x4 r11.Head.A3.x5) (A6u8.mk r11.Head.A4.x0 r11.Head.A4.x1 r11.Head.A4.x2 r11.Head.A4.x3 r11.Head.A4.x4 r11.Head.A4.x5) r11.Head.Seq r11.Head.Frag r11.Head.Tid r11.Head.Ack r11.Head.Amsdu r11.Head.Eosp) r11.Body) 11).bind fun r13=>(F37 3).bind fun r15=>(F24 r13.2.2.1 7 1 (TFrame.mk (THeader.mk r15.Head.Kind r15.Head.Sub r15.Head.ToDs r15.Head.FromDs r15.Head.More r15.Head.Retry r15.Head.Sleep r15.Head.MoreData r15.Head.Protected r15.Head.Duration (A6u8.mk r15.Head.A1.x0 r15.Head.A1.x1 r15.Head.A1.x2 r15.Head.A1.x3 r15.Head.A1.x4 r15.Head.A1.x5) (A6u8.mk r15.Head.A2.x0 r15.Head.A2.x1 r15.Head.A2.x2 r15.Head.A2.x3 r15.Head.A2.x4 r15.Head.A2.x5) (A6u8.mk r15.Head.A3.x0 r15.Head.A3.x1 r15.Head.A3.x2 r15.Head.A3.x3 r15.Head.A3.x4 r15.Head.A3.x5) (A6u8.mk r15.Head.A4.x0 r15.Head.A4.x1 r15.Head.A4.x2 r15.Head.A4.x3 r15.Head.A4.x4 r15.Head.A4.x5) r15.Head.Seq r15.Head.Frag r15.Head.Tid r15.Head.Ack r15.Head.Amsdu r15.Head.Eosp) r15.Body) 12).bind fun r17=>(F23 r17.2.2.1 7).bind fun r19=>need (bif (((((((((((bEq r1.2 0) && (bEq r3.2 0)) && (bEq r5.2 0)) && (bEq r9.2.2.2 0)) && (bEq r13.2.2.2 0)) && (bEq r17.2.2.2 0)) && (bEq r19.2.2 0)) && (bEq (r9.2.1.length:Nat) 0)) && (bEq (r13.2.1.length:Nat) 0)) && (bEq (r17.1.length:Nat) 0)) && (bEq (r17.2.1.length:Nat) 1)) then inb 0 r17.2.1.length else true) <| need (bif (((((((((((bEq r1.2 0) && (bEq r3.2 0)) && (bEq r5.2 0)) && (bEq r9.2.2.2 0)) && (bEq r13.2.2.2 0)) && (bEq r17.2.2.2 0)) && (bEq r19.2.2 0)) && (bEq (r9.2.1.length:Nat) 0)) && (bEq (r13.2.1.length:Nat) 0)) && (bEq (r17.1.length:Nat) 0)) && (bEq (r17.2.1.length:Nat) 1)) then ((F38 (TFrame.mk (THeader.mk (((gd r17.2.1 0).Head).Kind) (((gd r17.2.1 0).Head).Sub) (((gd r17.2.1 0).Head).ToDs) (((gd r17.2.1 0).Head).FromDs) (((gd r17.2.1 0).Head).More) (((gd r17.2.1 0).Head).Retry) (((gd r17.2.1 0).Head).Sleep) (((gd r17.2.1 0).Head).MoreData) (((gd r17.2.1 0).Head).Protected) (((gd r17.2.1 0).Head).Duration) (A6u8.mk ((((gd r17.2.1 0).Head).A1).x0) ((((gd r17.2.1 0).Head).A1).x1) ((((gd r17.2.1 0).Head).A1).x2) ((((gd r17.2.1 0).Head).A1).x3) ((((gd r17.2.1 0).Head).A1).x4) ((((gd r17.2.1 0).Head).A1).x5)) (A6u8.mk ((((gd r17.2.1 0).Head).A2).x0) ((((gd r17.2.1 0).Head).A2).x1) ((((gd r17.2.1 0).Head).A2).x2) ((((gd r17.2.1 0).Head).A2).x3) ((((gd r17.2.1 0).Head).A2).x4) ((((gd r17.2.1 0).Head).A2).x5)) (A6u8.mk ((((gd r17.2.1 0).Head).A3).x0) ((((gd r17.2.1 0).Head).A3).x1) ((((gd r17.2.1 0).Head).A3).x2) ((((gd r17.2.1 0).Head).A3).x3) ((((gd r17.2.1 0).Head).A3).x4) ((((gd r17.2.1 0).Head).A3).x5)) (A6u8.mk ((((gd r17.2.1 0).Head).A4).x0) ((((gd r17.2.1 0).Head).A4).x1) ((((gd r17.2.1 0).Head).A4).x2) ((((gd r17.2.1 0).Head).A4).x3) ((((gd r17.2.1 0).Head).A4).x4) ((((gd r17.2.1 0).Head).A4).x5)) (((gd r17.2.1 0).Head).Seq) (((gd r17.2.1 0).Head).Frag) (((gd r17.2.1 0).Head).Tid) (((gd r17.2.1 0).Head).Ack) (((gd r17.2.1 0).Head).Amsdu) (((gd r17.2.1 0).Head).Eosp)) ((gd r17.2.1 0).Body))).isSome) else true) <| need (bif ((((((((((((bEq r1.2 0) && (bEq r3.2 0)) && (bEq r5.2 0)) && (bEq r9.2.2.2 0)) && (bEq r13.2.2.2 0)) && (bEq r17.2.2.2 0)) && (bEq r19.2.2 0)) && (bEq (r9.2.1.length:Nat) 0)) && (bEq (r13.2.1.length:Nat) 0)) && (bEq (r17.1.length:Nat) 0)) && (bEq (r17.2.1.length:Nat) 1)) && (bEq (gt (F38 (TFrame.mk (THeader.mk (((gd r17.2.1 0).Head).Kind) (((gd r17.2.1 0).Head).Sub) (((gd r17.2.1 0).Head).ToDs) (((gd r17.2.1 0).Head).FromDs) (((gd r17.2.1 0).Head).More) (((gd r17.2.1 0).Head).Retry) (((gd r17.2.1 0).Head).Sleep) (((gd r17.2.1 0).Head).MoreData) (((gd r17.2.1 0).Head).Protected) (((gd r17.2.1 0).Head).Duration) (A6u8.mk ((((gd r17.2.1 0).Head).A1).x0) ((((gd r17.2.1 0).Head).A1).x1) ((((gd r17.2.1 0).Head).A1).x2) ((((gd r17.2.1 0).Head).A1).x3) ((((gd r17.2.1 0).Head).A1).x4) ((((gd r17.2.1 0).Head).A1).x5)) (A6u8.mk ((((gd r17.2.1 0).Head).A2).x0) ((((gd r17.2.1 0).Head).A2).x1) ((((gd r17.2.1 0).Head).A2).x2) ((((gd r17.2.1 0).Head).A2).x3) ((((gd r17.2.1 0).Head).A2).x4) ((((gd r17.2.1 0).Head).A2).x5)) (A6u8.mk ((((gd r17.2.1 0).Head).A3).x0) ((((gd r17.2.1 0).Head).A3).x1) ((((gd r17.2.1 0).Head).A3).x2) ((((gd r17.2.1 0).Head).A3).x3) ((((gd r17.2.1 0).Head).A3).x4) ((((gd r17.2.1 0).Head).A3).x5)) (A6u8.mk ((((gd r17.2.1 0).Head).A4).x0) ((((gd r17.2.1 0).Head).A4).x1) ((((gd r17.2.1 0).Head).A4).x2) ((((gd r17.2.1 0).Head).A4).x3) ((((gd r17.2.1 0).Head).A4).x4) ((((gd r17.2.1 0).Head).A4).x5)) (((gd r17.2.1 0).Head).Seq) (((gd r17.2.1 0).Head).Frag) (((gd r17.2.1 0).Head).Tid) (((gd r17.2.1 0).Head).Ack) (((gd r17.2.1 0).Head).Amsdu) (((gd r17.2.1 0).Head).Eosp)) ((gd r17.2.1 0).Body)))) 1)) then ((F38 r19.1).isSome) else true) <| need (bif (((((((((((((((bEq r1.2 0) && (bEq r3.2 0)) && (bEq r5.2 0)) && (bEq r9.2.2.2 0)) && (bEq r13.2.2.2 0)) && (bEq r17.2.2.2 0)) && (bEq r19.2.2 0)) && (bEq (r9.2.1.length:Nat) 0)) && (bEq (r13.2.1.length:Nat) 0)) && (bEq (r17.1.length:Nat) 0)) && (bEq (r17.2.1.length:Nat) 1)) && (bEq (gt (F38 (TFrame.mk (THeader.mk (((gd r17.2.1 0).Head).Kind) (((gd r17.2.1 0).Head).Sub) (((gd r17.2.1 0).Head).ToDs) (((gd r17.2.1 0).Head).FromDs) (((gd r17.2.1 0).Head).More) (((gd r17.2.1 0).Head).Retry) (((gd r17.2.1 0).Head).Sleep) (((gd r17.2.1 0).Head).MoreData) (((gd r17.2.1 0).Head).Protected) (((gd r17.2.1 0).Head).Duration) (A6u8.mk ((((gd r17.2.1 0).Head).A1).x0) ((((gd r17.2.1 0).Head).A1).x1) ((((gd r17.2.1 0).Head).A1).x2) ((((gd r17.2.1 0).Head).A1).x3) ((((gd r17.2.1 0).Head).A1).x4) ((((gd r17.2.1 0).Head).A1).x5)) (A6u8.mk ((((gd r17.2.1 0).Head).A2).x0) ((((gd r17.2.1 0).Head).A2).x1) ((((gd r17.2.1 0).Head).A2).x2) ((((gd r17.2.1 0).Head).A2).x3) ((((gd r17.2.1 0).Head).A2).x4) ((((gd r17.2.1 0).Head).A2).x5)) (A6u8.mk ((((gd r17.2.1 0).Head).A3).x0) ((((gd r17.2.1 0).Head).A3).x1) ((((gd r17.2.1 0).Head).A3).x2) ((((gd r17.2.1 0).Head).A3).x3) ((((gd r17.2.1 0).Head).A3).x4) ((((gd r17.2.1 0).Head).A3).x5)) (A6u8.mk ((((gd r17.2.1 0).Head).A4).x0) ((((gd r17.2.1 0).Head).A4).x1) ((((gd r17.2.1 0).Head).A4).x2) ((((gd r17.2.1 0).Head).A4).x3) ((((gd r17.2.1 0).Head).A4).x4) ((((gd r17.2.1 0).Head).A4).x5)) (((gd r17.2.1 0).Head).Seq) (((gd r17.2.1 0).Head).Frag) (((gd r17.2.1 0).Head).Tid) (((gd r17.2.1 0).Head).Ack) (((gd r17.2.1 0).Head).Amsdu) (((gd r17.2.1 0).Head).Eosp)) ((gd r17.2.1 0).Body)))) 1)) && (bEq (gt (F38 r19.1)) 2)) && r19.1.Head.MoreData) && (bEq (r19.2.1.List.length:Nat) 1)) then inb 0 r19.2.1.List.length else true) <| some ((((((((((((((((bEq r1.2 0) && (bEq r3.2 0)) && (bEq r5.2 0)) && (bEq r9.2.2.2 0)) && (bEq r13.2.2.2 0)) && (bEq r17.2.2.2 0)) && (bEq r19.2.2 0)) && (bEq (r9.2.1.length:Nat) 0)) && (bEq (r13.2.1.length:Nat) 0)) && (bEq (r17.1.length:Nat) 0)) && (bEq (r17.2.1.length:Nat) 1)) && (bEq (gt (F38 (TFrame.mk (THeader.mk (((gd r17.2.1 0).Head).Kind) (((gd r17.2.1 0).Head).Sub) (((gd r17.2.1 0).Head).ToDs) (((gd r17.2.1 0).Head).FromDs) (((gd r17.2.1 0).Head).More) (((gd r17.2.1 0).Head).Retry) (((gd r17.2.1 0).Head).Sleep) (((gd r17.2.1 0).Head).MoreData) (((gd r17.2.1 0).Head).Protected) (((gd r17.2.1 0).Head).Duration) (A6u8.mk ((((gd r17.2.1 0).Head).A1).x0) ((((gd r17.2.1 0).Head).A1).x1) ((((gd r17.2.1 0).Head).A1).x2) ((((gd r17.2.1 0).Head).A1).x3) ((((gd r17.2.1 0).Head).A1).x4) ((((gd r17.2.1 0).Head).A1).x5)) (A6u8.mk ((((gd r17.2.1 0).Head).A2).x0) ((((gd r17.2.1 0).Head).A2).x1) ((((gd r17.2.1 0).Head).A2).x2) ((((gd r17.2.1 0).Head).A2).x3) ((((gd r17.2.1 0).Head).A2).x4) ((((gd r17.2.1 0).Head).A2).x5)) (A6u8.mk ((((gd r17.2.1 0).Head).A3).x0) ((((gd r17.2.1 0).Head).A3).x1) ((((gd r17.2.1 0).Head).A3).x2) ((((gd r17.2.1 0).Head).A3).x3) ((((gd r17.2.1 0).Head).A3).x4) ((((gd r17.2.1 0).Head).A3).x5)) (A6u8.mk ((((gd r17.2.1 0).Head).A4).x0) ((((gd r17.2.1 0).Head).A4).x1) ((((gd r17.2.1 0).Head).A4).x2) ((((gd r17.2.1 0).Head).A4).x3) ((((gd r17.2.1 0).Head).A4).x4) ((((gd r17.2.1 0).Head).A4).x5)) (((gd r17.2.1 0).Head).Seq) (((gd r17.2.1 0).Head).Frag) (((gd r17.2.1 0).Head).Tid) (((gd r17.2.1 0).Head).Ack) (((gd r17.2.1 0).Head).Amsdu) (((gd r17.2.1 0).Head).Eosp)) ((gd r17.2.1 0).Body)))) 1)) && (bEq (gt (F38 r19.1)) 2)) && r19.1.Head.MoreData) && (bEq (r19.2.1.List.length:Nat) 1)) && (bEq (((gd r19.2.1.List 0).Held).length:Nat) 1))
noncomputable def body20:List AV->AR
 | []=>.pure ((F20).isSome=true) (.bool (gt F20))
 | _=>.fail
theorem ok20:FnOk Try.prog 20 (pureC body20):=by
 refine pure_fnM body20 (rs:=[.tmp 0]) Try.func20 (by kernel_rfl) rfl rfl ?_
 intro l ob v hb hob
 unfold body20 at hb
 split at hb
 ·injection hb with q1 q2;subst q1 q2
  obtain ⟨r,H⟩:=Option.isSome_iff_exists.1 hob
  rw [H,gt_some]
  refine ⟨[],_,(fun E vs F=>F),rfl,rfl,?_⟩
  rw [Try.ntmps20]
  simp only [List.length_nil,Nat.reduceSub,List.replicate_succ,List.replicate_zero,List.nil_append]
  unfold F20 at H
  try dsimp only at H
  refine sq ctNo_ok ?_
  simp only [go_sem]
  refine seqM ?_
  obtain ⟨r1,e2,H⟩:=bsi H
  refine rg ct20t0_ok ?_
  simp only [go_sem,Nat.reduceLT,Nat.reduceAdd,ct20t0_12,body12,e2]
  repeat ((with_reducible refine And.intro ?_ ?_);focus exact an0)
  refine seqM ?_
  obtain ⟨r3,e4,H⟩:=bsi H
  refine rg ct20t1_ok ?_
  simp only [go_sem,Nat.reduceLT,Nat.reduceAdd,ct20t1_40,body40,e4]
  repeat ((with_reducible refine And.intro ?_ ?_);focus exact an0)
  refine seqM ?_
  obtain ⟨r5,e6,H⟩:=bsi H
  refine rg ct20t2_ok ?_
  simp only [go_sem,Nat.reduceLT,Nat.reduceAdd,ct20t2_50,body50,e6]
  repeat ((with_reducible refine And.intro ?_ ?_);focus exact an0)
  refine seqM ?_
  obtain ⟨r7,e8,H⟩:=bsi H
  obtain ⟨r9,e10,H⟩:=bsi H
  refine draw_rule shT_ok ct20t3_ok 1 (by kernel_rfl) (by kernel_rfl) ?_
  intro an han
  simp only [d_nil,d_cons,nxtD,xrD,xoD,roEq,minL,List.append_nil,refsOp,refs,refsL,mask,maskF,place,placeF,okLog,pairOk,hit,inL,slotsF,ren,renL,rnN,nrH,nrB,nrL,nr,List.replicate_zero,List.replicate_succ,Nat.sub_self,Nat.add_zero,Nat.zero_add,Nat.reduceSub,Nat.lt_add_one,go_sem,Nat.reduceLeDiff,Nat.reduceLT,Nat.reduceAdd,Nat.reduceSub,Nat.reduceBEq,frC,obR,fzL,fzV,fzH,fzHF,fzB,fzOb,fzObL,fzObH,fzObB,rowOb,refsL,refs,inL,ct20t3_24,body24,ct20t3_37,body37,e8,e10]
  repeat ((with_reducible refine And.intro ?_ ?_);focus exact an5)
  refine seqM ?_
  obtain ⟨r11,e12,H⟩:=bsi H
  obtain ⟨r13,e14,H⟩:=bsi H
  refine draw_rule shT_ok ct20t3_ok 1 (by kernel_rfl) (by kernel_rfl) ?_
  intro an han
  simp only [d_nil,d_cons,nxtD,xrD,xoD,roEq,minL,List.append_nil,refsOp,refs,refsL,mask,maskF,place,placeF,okLog,pairOk,hit,inL,slotsF,ren,renL,rnN,nrH,nrB,nrL,nr,List.replicate_zero,List.replicate_succ,Nat.sub_self,Nat.add_zero,Nat.zero_add,Nat.reduceSub,Nat.lt_add_one,go_sem,Nat.reduceLeDiff,Nat.reduceLT,Nat.reduceAdd,Nat.reduceSub,Nat.reduceBEq,frC,obR,fzL,fzV,fzH,fzHF,fzB,fzOb,fzObL,fzObH,fzObB,rowOb,refsL,refs,inL,ct20t3_24,body24,ct20t3_37,body37,e12,e14]
  repeat ((with_reducible refine And.intro ?_ ?_);focus exact an5)
  refine seqM ?_
  obtain ⟨r15,e16,H⟩:=bsi H
  obtain ⟨r17,e18,H⟩:=bsi H
  refine draw_rule shT_ok ct20t3_ok 1 (by kernel_rfl) (by kernel_rfl) ?_
  intro an han
  simp only [d_nil,d_cons,nxtD,xrD,xoD,roEq,minL,List.append_nil,refsOp,refs,refsL,mask,maskF,place,placeF,okLog,pairOk,hit,inL,slotsF,ren,renL,rnN,nrH,nrB,nrL,nr,List.replicate_zero,List.replicate_succ,Nat.sub_self,Nat.add_zero,Nat.zero_add,Nat.reduceSub,Nat.lt_add_one,go_sem,Nat.reduceLeDiff,Nat.reduceLT,Nat.reduceAdd,Nat.reduceSub,Nat.reduceBEq,frC,obR,fzL,fzV,fzH,fzHF,fzB,fzOb,fzObL,fzObH,fzObB,rowOb,refsL,refs,inL,ct20t3_24,body24,ct20t3_37,body37,e16,e18]
  repeat ((with_reducible refine And.intro ?_ ?_);focus exact an5)
  refine seqM ?_
  obtain ⟨r19,e20,H⟩:=bsi H
  refine rg ct20t4_ok ?_
  simp only [go_sem,Nat.reduceLT,Nat.reduceAdd,ct20t4_23,body23,e20]
  repeat ((with_reducible refine And.intro ?_ ?_);focus exact an0)
  refine sq ctNo_ok ?_
  simp only [go_sem]
  repeat ((with_reducible refine And.intro ?_ ?_);focus exact an4)
  refine seqM ?_
  obtain ⟨f21,H⟩:=need_some.1 H
  replace f21:=g_iff.1 f21
  replace f21:=fun g=>inb_iff.1 (f21 g)
  obtain ⟨f22,H⟩:=need_some.1 H
  replace f22:=g_iff.1 f22
  obtain ⟨f23,H⟩:=need_some.1 H
  replace f23:=g_iff.1 f23
  obtain ⟨f24,H⟩:=need_some.1 H
  replace f24:=g_iff.1 f24
  replace f24:=fun g=>inb_iff.1 (f24 g)
  refine rg ct20t5_ok ?_
  simp only [go_sem,Nat.reduceLeDiff,Nat.reduceLT,Nat.reduceAdd,reduceCtorEq,ct20t5_38,body38]
  repeat ((with_reducible refine And.intro ?_ ?_);focus (first|(with_reducible trivial)|omega|exact f21|exact f22|exact f23|exact f24|(intro g;have q:=f21 (by first|exact g|(rw [g];rfl)|simpa using g);first|exact q|exact ⟨q.1,q.2.1⟩|exact q.2.2|omega|exact ⟨g,q⟩|exact ⟨trivial,q⟩|exact ⟨g,q.1,q.2.1⟩|exact ⟨g,q.2.2⟩)|(intro g;have q:=f22 (by first|exact g|(rw [g];rfl)|simpa using g);first|exact q|exact ⟨q.1,q.2.1⟩|exact q.2.2|omega|exact ⟨g,q⟩|exact ⟨trivial,q⟩|exact ⟨g,q.1,q.2.1⟩|exact ⟨g,q.2.2⟩)|(intro g;have q:=f23 (by first|exact g|(rw [g];rfl)|simpa using g);first|exact q|exact ⟨q.1,q.2.1⟩|exact q.2.2|omega|exact ⟨g,q⟩|exact ⟨trivial,q⟩|exact ⟨g,q.1,q.2.1⟩|exact ⟨g,q.2.2⟩)|(intro g;have q:=f24 (by first|exact g|(rw [g];rfl)|simpa using g);first|exact q|exact ⟨q.1,q.2.1⟩|exact q.2.2|omega|exact ⟨g,q⟩|exact ⟨trivial,q⟩|exact ⟨g,q.1,q.2.1⟩|exact ⟨g,q.2.2⟩)|(intro g;(try have q0:=f21 (by first|exact g|(rw [g];rfl)|simpa using g));(try have q1:=f22 (by first|exact g|(rw [g];rfl)|simpa using g));(try have q2:=f23 (by first|exact g|(rw [g];rfl)|simpa using g));(try have q3:=f24 (by first|exact g|(rw [g];rfl)|simpa using g));and_intros<;>first|(with_reducible trivial)|assumption|exact nfc|(intro g2;rw [g,g2];rfl)|(intro g2;assumption)|(simp only [g,Bool.true_and,Bool.and_true,Bool.not_false,Bool.not_true];assumption)|grind)|(and_intros<;>first|(with_reducible trivial)|omega|assumption|exact nfc|first|exact rfl|exact trivial|exact fitI|exact .inr rfl|exact .inl rfl|exact fun x hx=>absurd hx (by omega))|grind))
  refine rg ctNo_ok ?_
  simp only [go_sem]
  obtain rfl:=Option.some.inj H
  first|rfl|simp only [Bool.and_false,Bool.false_and,Bool.and_true,Bool.true_and]
 ·cases hb
noncomputable def F44 (p0:TFrame):Option (Bool) :=
 some (bLt 2400 (p0.Body.length:Nat))
noncomputable def body44:List AV->AR
 | [v0]=>.pure (aK 41 k_TFrame v0/\(F44 (g_TFrame (aL v0))).isSome=true) (.bool (gt (F44 (g_TFrame (aL v0)))))
 | _=>.fail
theorem ok44:FnOk Try.prog 44 (pureC body44):=by
 refine pure_fnM body44 (rs:=[.tmp 2]) Try.func44 (by kernel_rfl) rfl rfl ?_
 intro l ob v hb hob
 unfold body44 at hb
 split at hb
 ·rename_i v0
  injection hb with q1 q2;subst q1 q2
  obtain ⟨hk0_0,hob⟩:=hob
  obtain ⟨r,H⟩:=Option.isSome_iff_exists.1 hob
  rw [H,gt_some]
  have hw0:=wA_TFrame hk0_0
  generalize g_TFrame (aL v0)=p0 at H hw0
  refine ⟨[.agg (.int .u8 p0.Head.Kind::.int .u8 p0.Head.Sub::.bool p0.Head.ToDs::.bool p0.Head.FromDs::.bool p0.Head.More::.bool p0.Head.Retry::.bool p0.Head.Sleep::.bool p0.Head.MoreData::.bool p0.Head.Protected::.int .i64 p0.Head.Duration::.int .u8 p0.Head.A1.x0::.int .u8 p0.Head.A1.x1::.int .u8 p0.Head.A1.x2::.int .u8 p0.Head.A1.x3::.int .u8 p0.Head.A1.x4::.int .u8 p0.Head.A1.x5::.int .u8 p0.Head.A2.x0::.int .u8 p0.Head.A2.x1::.int .u8 p0.Head.A2.x2::.int .u8 p0.Head.A2.x3::.int .u8 p0.Head.A2.x4::.int .u8 p0.Head.A2.x5::.int .u8 p0.Head.A3.x0::.int .u8 p0.Head.A3.x1::.int .u8 p0.Head.A3.x2::.int .u8 p0.Head.A3.x3::.int .u8 p0.Head.A3.x4::.int .u8 p0.Head.A3.x5::.int .u8 p0.Head.A4.x0::.int .u8 p0.Head.A4.x1::.int .u8 p0.Head.A4.x2::.int .u8 p0.Head.A4.x3::.int .u8 p0.Head.A4.x4::.int .u8 p0.Head.A4.x5::.int .i64 p0.Head.Seq::.int .i64 p0.Head.Frag::.int .i64 p0.Head.Tid::.int .u8 p0.Head.Ack::.bool p0.Head.Amsdu::.bool p0.Head.Eosp::.ro 1 p0.Body.length false (enR c_u8 p0.Body)::[])],_,(fun E vs F=>FR_wk1 hw0.1 F (fun vs F=>F)),rfl,rfl,?_⟩
  rw [Try.ntmps44]
  simp only [List.length_cons,List.length_nil,Nat.reduceAdd,Nat.reduceSub,List.replicate_succ,List.replicate_zero,List.cons_append,List.nil_append]
  unfold F44 at H
  try dsimp only at H
  refine sq ctNo_ok ?_
  simp only [go_sem]
  refine sq ctNo_ok ?_
  simp only [go_sem,Nat.reduceLT,Nat.reduceAdd]
  repeat ((with_reducible refine And.intro ?_ ?_);focus exact an0)
  refine rg ctNo_ok ?_
  simp only [go_sem]
  obtain rfl:=Option.some.inj H
  first|rfl|simp only [Bool.and_false,Bool.false_and,Bool.and_true,Bool.true_and]
 ·cases hb
noncomputable def ct43t0:Ct:=tab [(44,pureC body44)]
theorem ct43t0_ok:CtOk Try.prog ct43t0:=tab_cons ok44 <| tab_nil
theorem ct43t0_44 (l:List AV) (h:List ABlk):ct43t0 44 l h=pureC body44 l h:=rfl
noncomputable def F43_L1 (p0:List TStored) (v1_1:Int):Option (Lp (Int) ((Unit) ⊕ (Bool))) :=
 bif (bLt v1_1 (p0.length:Nat)) then (need (inb v1_1 p0.length) <| (F44 (TFrame.mk (THeader.mk ((((gd p0 v1_1.toNat).Frame).Head).Kind) ((((gd p0 v1_1.toNat).Frame).Head).Sub) ((((gd p0 v1_1.toNat).Frame).Head).ToDs) ((((gd p0 v1_1.toNat).Frame).Head).FromDs) ((((gd p0 v1_1.toNat).Frame).Head).More) ((((gd p0 v1_1.toNat).Frame).Head).Retry) ((((gd p0 v1_1.toNat).Frame).Head).Sleep) ((((gd p0 v1_1.toNat).Frame).Head).MoreData) ((((gd p0 v1_1.toNat).Frame).Head).Protected) ((((gd p0 v1_1.toNat).Frame).Head).Duration) (A6u8.mk (((((gd p0 v1_1.toNat).Frame).Head).A1).x0) (((((gd p0 v1_1.toNat).Frame).Head).A1).x1) (((((gd p0 v1_1.toNat).Frame).Head).A1).x2) (((((gd p0 v1_1.toNat).Frame).Head).A1).x3) (((((gd p0 v1_1.toNat).Frame).Head).A1).x4) (((((gd p0 v1_1.toNat).Frame).Head).A1).x5)) (A6u8.mk (((((gd p0 v1_1.toNat).Frame).Head).A2).x0) (((((gd p0 v1_1.toNat).Frame).Head).A2).x1) (((((gd p0 v1_1.toNat).Frame).Head).A2).x2) (((((gd p0 v1_1.toNat).Frame).Head).A2).x3) (((((gd p0 v1_1.toNat).Frame).Head).A2).x4) (((((gd p0 v1_1.toNat).Frame).Head).A2).x5)) (A6u8.mk (((((gd p0 v1_1.toNat).Frame).Head).A3).x0) (((((gd p0 v1_1.toNat).Frame).Head).A3).x1) (((((gd p0 v1_1.toNat).Frame).Head).A3).x2) (((((gd p0 v1_1.toNat).Frame).Head).A3).x3) (((((gd p0 v1_1.toNat).Frame).Head).A3).x4) (((((gd p0 v1_1.toNat).Frame).Head).A3).x5)) (A6u8.mk (((((gd p0 v1_1.toNat).Frame).Head).A4).x0) (((((gd p0 v1_1.toNat).Frame).Head).A4).x1) (((((gd p0 v1_1.toNat).Frame).Head).A4).x2) (((((gd p0 v1_1.toNat).Frame).Head).A4).x3) (((((gd p0 v1_1.toNat).Frame).Head).A4).x4) (((((gd p0 v1_1.toNat).Frame).Head).A4).x5)) ((((gd p0 v1_1.toNat).Frame).Head).Seq) ((((gd p0 v1_1.toNat).Frame).Head).Frag) ((((gd p0 v1_1.toNat).Frame).Head).Tid) ((((gd p0 v1_1.toNat).Frame).Head).Ack) ((((gd p0 v1_1.toNat).Frame).Head).Amsdu) ((((gd p0 v1_1.toNat).Frame).Head).Eosp)) (((gd p0 v1_1.toNat).Frame).Body))).bind fun r4=>bif r4 then (some (.done (.inr true))) else (some (.next (wr .i64 (v1_1+1))))) else (some (.done (.inl ())))
noncomputable def F43 (p0:List TStored):Option (Bool) :=
 bif (bLt 70 (p0.length:Nat)) then (some true) else (lp (loopD (fun s=>F43_L1 p0 s) 0) (fun _=>some false) some)
noncomputable def body43:List AV->AR
 | [v0]=>.pure (lK k_TStored 43 v0/\(F43 (lA g_TStored v0)).isSome=true) (.bool (gt (F43 (lA g_TStored v0))))
 | _=>.fail
theorem ok43:FnOk Try.prog 43 (pureC body43):=by
 refine pure_fnM body43 (rs:=[.tmp 2]) Try.func43 (by kernel_rfl) rfl rfl ?_
 intro l ob v hb hob
 unfold body43 at hb
 split at hb
 ·rename_i v0
  injection hb with q1 q2;subst q1 q2
  obtain ⟨hk0_0,hob⟩:=hob
  obtain ⟨r,H⟩:=Option.isSome_iff_exists.1 hob
  rw [H,gt_some]
  have hw0:=lK_wk (fun r h=>w_TStored h) hk0_0
  generalize lA g_TStored v0=p0 at H hw0
  refine ⟨[.ro 43 p0.length false (enR c_TStored p0)],_,(fun E vs F=>FR_wk1 hw0.1 F (fun vs F=>F)),rfl,rfl,?_⟩
  rw [Try.ntmps43]
  simp only [List.length_cons,List.length_nil,Nat.reduceAdd,Nat.reduceSub,List.replicate_succ,List.replicate_zero,List.cons_append,List.nil_append]
  unfold F43 at H
  try dsimp only at H
  refine sq ctNo_ok ?_
  simp only [go_sem]
  refine seqM ?_
  refine sq ctNo_ok ?_
  simp only [go_sem]
  repeat ((with_reducible refine And.intro ?_ ?_);focus exact an0)
  refine condM rfl trivial (fun hc=>?_) (fun hc=>?_)
  ·have hk1:(bLt 70 (p0.length:Nat))=true:=by simpa using hc
   replace H:=cond_t hc H
   refine sq ctNo_ok ?_
   simp only [go_sem]
   refine rg ctNo_ok ?_
   simp only [go_sem]
   obtain rfl:=Option.some.inj H
   first|rfl|simp only [Bool.and_false,Bool.false_and,Bool.and_true,Bool.true_and]
  have hk1:(bLt 70 (p0.length:Nat))=false:=by simpa using hc
  replace H:=cond_f hc H
  refine rg ctNo_ok ?_
  simp only [go_sem]
  refine seqM ?_
  refine sq ctNo_ok ?_
  simp only [go_sem]
  refine blkM ?_
  refine loop_den (fun s:Int=>(.ro 43 p0.length false (enR c_TStored p0)::.top::.top::.int .i64 s::tp 15 [])) (fun s=>[]) (fun e:Unit=>(tp 19 [])) (fun e=>[]) H ?_ (fun v1_1 o H hn1_1 hn2_1=>?_) (fun e H=>?_)
  ·refine SubF_of ⟨[],?_,?_,by rfl,by rfl⟩
   ·simp [CvL,Cv,tp]
   ·trivial
  ·unfold F43_L1 at H
   try dsimp only at H ⊢
   try simp only [tp]
   refine seqM ?_
   refine sq ctNo_ok ?_
   simp only [go_sem]
   repeat ((with_reducible refine And.intro ?_ ?_);focus exact an0)
   refine condM' rfl trivial (fun hc=>?_) (fun hc=>?_)
   ·have hk2:(bLt v1_1 (p0.length:Nat))=false:=by simpa using hc
    replace H:=cond_f hc H
    refine rg ctNo_ok ?_
    simp only [go_sem]
    refine ⟨_,(Option.some.inj H).symm,?_⟩
    refine SubF_of ⟨[],?_,?_,by rfl,by rfl⟩
    ·simp [CvL,Cv]
    ·trivial
   have hk2:(bLt v1_1 (p0.length:Nat))=true:=by simpa using hc
   replace H:=cond_t hc H
   refine rg ctNo_ok ?_
   simp only [go_sem]
   refine seqM ?_
   refine blkM ?_
   refine seqM ?_
   obtain ⟨f3,H⟩:=need_some.1 H
   replace f3:=inb_iff.1 f3
   obtain ⟨r4,e5,H⟩:=bsi H
   refine rg ct43t0_ok ?_
   simp only [go_sem,Nat.reduceLT,Nat.reduceAdd,reduceCtorEq,ct43t0_44,body44,f3,e5]
   repeat ((with_reducible refine And.intro ?_ ?_);focus exact an0)
   refine condM rfl trivial (fun hc=>?_) (fun hc=>?_)
   ·have hk6:(r4)=true:=by simpa using hc
    replace H:=cond_t hc H
    refine sq ctNo_ok ?_
    simp only [go_sem]
    refine rg ctNo_ok ?_
    simp only [go_sem]
    have H:=hn2_1 _ (Option.some.inj H).symm
    obtain rfl:=Option.some.inj H
    first|rfl|simp only [Bool.and_false,Bool.false_and,Bool.and_true,Bool.true_and]
   have hk6:(r4)=false:=by simpa using hc
   replace H:=cond_f hc H
   refine rg ctNo_ok ?_
   simp only [go_sem]
   refine rg ctNo_ok ?_
   simp only [go_sem]
   refine ⟨_,(Option.some.inj H).symm,?_⟩
   refine SubF_of ⟨[],?_,?_,by rfl,by rfl⟩
   ·simp [CvL,Cv]
   ·trivial
  ·try dsimp only at H ⊢
   try simp only [tp]
   try simp only [m_normal]
   refine sq ctNo_ok ?_
   simp only [go_sem]
   refine rg ctNo_ok ?_
   simp only [go_sem]
   obtain rfl:=Option.some.inj H
   first|rfl|simp only [Bool.and_false,Bool.false_and,Bool.and_true,Bool.true_and]
 ·cases hb
noncomputable def ct11t0:Ct:=tab [(43,pureC body43),(44,pureC body44)]
theorem ct11t0_ok:CtOk Try.prog ct11t0:=tab_cons ok43 <| tab_cons ok44 <| tab_nil
theorem ct11t0_43 (l:List AV) (h:List ABlk):ct11t0 43 l h=pureC body43 l h:=rfl
theorem ct11t0_44 (l:List AV) (h:List ABlk):ct11t0 44 l h=pureC body44 l h:=rfl
noncomputable def ct11t1:Ct:=tab [(43,pureC body43)]
theorem ct11t1_ok:CtOk Try.prog ct11t1:=tab_cons ok43 <| tab_nil
theorem ct11t1_43 (l:List AV) (h:List ABlk):ct11t1 43 l h=pureC body43 l h:=rfl
noncomputable def F11_L1 (p0:TBuffer) (v1_1:Int):Option (Lp (Int) ((Unit) ⊕ (Bool))) :=
 bif (bLt v1_1 (p0.List.length:Nat)) then (need (inb v1_1 p0.List.length) <| (F43 ((gd p0.List v1_1.toNat).Held)).bind fun r6=>bif r6 then (some (.done (.inr true))) else (some (.next (wr .i64 (v1_1+1))))) else (some (.done (.inl ())))
noncomputable def F11 (p0:TBuffer) (p1:TFrame):Option (Bool) :=
 need (bif (!(bLt 40 (p0.List.length:Nat))) then ((F43 p0.Group).isSome) else true) <| need (bif (!((bLt 40 (p0.List.length:Nat)) || (gt (F43 p0.Group)))) then ((F44 p1).isSome) else true) <| bif (((bLt 40 (p0.List.length:Nat)) || (gt (F43 p0.Group))) || (gt (F44 p1))) then (some true) else (lp (loopD (fun s=>F11_L1 p0 s) 0) (fun _=>some false) some)
noncomputable def body11:List AV->AR
 | [v0,v1]=>.pure (aK 4 k_TBuffer v0/\aK 41 k_TFrame v1/\(F11 (g_TBuffer (aL v0)) (g_TFrame (aL v1))).isSome=true) (.bool (gt (F11 (g_TBuffer (aL v0)) (g_TFrame (aL v1)))))
 | _=>.fail
theorem ok11:FnOk Try.prog 11 (pureC body11):=by
 refine pure_fnM body11 (rs:=[.tmp 4]) Try.func11 (by kernel_rfl) rfl rfl ?_
 intro l ob v hb hob
 unfold body11 at hb
 split at hb
 ·rename_i v0 v1
  injection hb with q1 q2;subst q1 q2
  obtain ⟨hk0_0,hk1_0,hob⟩:=hob
  obtain ⟨r,H⟩:=Option.isSome_iff_exists.1 hob
  rw [H,gt_some]
  have hw0:=wA_TBuffer hk0_0
  have hw1:=wA_TFrame hk1_0
  generalize g_TBuffer (aL v0)=p0 at H hw0
  generalize g_TFrame (aL v1)=p1 at H hw1
  refine ⟨[.agg [.int .i64 p0.Limit,.int .i64 p0.Stay,.ro 3 p0.List.length false (enR c_TSleeper p0.List),.ro 43 p0.Group.length false (enR c_TStored p0.Group)],.agg (.int .u8 p1.Head.Kind::.int .u8 p1.Head.Sub::.bool p1.Head.ToDs::.bool p1.Head.FromDs::.bool p1.Head.More::.bool p1.Head.Retry::.bool p1.Head.Sleep::.bool p1.Head.MoreData::.bool p1.Head.Protected::.int .i64 p1.Head.Duration::.int .u8 p1.Head.A1.x0::.int .u8 p1.Head.A1.x1::.int .u8 p1.Head.A1.x2::.int .u8 p1.Head.A1.x3::.int .u8 p1.Head.A1.x4::.int .u8 p1.Head.A1.x5::.int .u8 p1.Head.A2.x0::.int .u8 p1.Head.A2.x1::.int .u8 p1.Head.A2.x2::.int .u8 p1.Head.A2.x3::.int .u8 p1.Head.A2.x4::.int .u8 p1.Head.A2.x5::.int .u8 p1.Head.A3.x0::.int .u8 p1.Head.A3.x1::.int .u8 p1.Head.A3.x2::.int .u8 p1.Head.A3.x3::.int .u8 p1.Head.A3.x4::.int .u8 p1.Head.A3.x5::.int .u8 p1.Head.A4.x0::.int .u8 p1.Head.A4.x1::.int .u8 p1.Head.A4.x2::.int .u8 p1.Head.A4.x3::.int .u8 p1.Head.A4.x4::.int .u8 p1.Head.A4.x5::.int .i64 p1.Head.Seq::.int .i64 p1.Head.Frag::.int .i64 p1.Head.Tid::.int .u8 p1.Head.Ack::.bool p1.Head.Amsdu::.bool p1.Head.Eosp::.ro 1 p1.Body.length false (enR c_u8 p1.Body)::[])],_,(fun E vs F=>FR_wk1 hw0.1 F (fun vs F=>FR_wk1 hw1.1 F (fun vs F=>F))),rfl,rfl,?_⟩
  rw [Try.ntmps11]
  simp only [List.length_cons,List.length_nil,Nat.reduceAdd,Nat.reduceSub,List.replicate_succ,List.replicate_zero,List.cons_append,List.nil_append]
  unfold F11 at H
  try dsimp only at H
  refine sq ctNo_ok ?_
  simp only [go_sem]
  refine seqM ?_
  refine seqM ?_
  obtain ⟨f1,H⟩:=need_some.1 H
  replace f1:=g_iff.1 f1
  obtain ⟨f2,H⟩:=need_some.1 H
  replace f2:=g_iff.1 f2
  refine rg ct11t0_ok ?_
  simp only [go_sem,Nat.reduceLeDiff,Nat.reduceLT,Nat.reduceAdd,ct11t0_43,body43,ct11t0_44,body44]
  repeat ((with_reducible refine And.intro ?_ ?_);focus (first|(with_reducible trivial)|omega|exact f1|exact f2|(intro g;have q:=f1 (by first|exact g|(rw [g];rfl)|simpa using g);first|exact q|exact ⟨q.1,q.2.1⟩|exact q.2.2|omega|exact ⟨g,q⟩|exact ⟨trivial,q⟩|exact ⟨g,q.1,q.2.1⟩|exact ⟨g,q.2.2⟩)|(intro g;have q:=f2 (by first|exact g|(rw [g];rfl)|simpa using g);first|exact q|exact ⟨q.1,q.2.1⟩|exact q.2.2|omega|exact ⟨g,q⟩|exact ⟨trivial,q⟩|exact ⟨g,q.1,q.2.1⟩|exact ⟨g,q.2.2⟩)|(intro g;(try have q0:=f1 (by first|exact g|(rw [g];rfl)|simpa using g));(try have q1:=f2 (by first|exact g|(rw [g];rfl)|simpa using g));and_intros<;>first|(with_reducible trivial)|assumption|exact nfc|(intro g2;rw [g,g2];rfl)|(intro g2;assumption)|(simp only [g,Bool.true_and,Bool.and_true,Bool.not_false,Bool.not_true];assumption)|grind)|(and_intros<;>first|(with_reducible trivial)|omega|assumption|exact nfc|first|exact rfl|exact trivial|exact fitI|exact .inr rfl|exact .inl rfl|exact fun x hx=>absurd hx (by omega))|grind))
  refine condM rfl trivial (fun hc=>?_) (fun hc=>?_)
  ·have hk3:(((bLt 40 (p0.List.length:Nat)) || (gt (F43 p0.Group))) || (gt (F44 p1)))=true:=by simpa using hc
   replace H:=cond_t hc H
   refine sq ctNo_ok ?_
   simp only [go_sem]
   refine rg ctNo_ok ?_
   simp only [go_sem]
   obtain rfl:=Option.some.inj H
   first|rfl|simp only [Bool.and_false,Bool.false_and,Bool.and_true,Bool.true_and]
  have hk3:(((bLt 40 (p0.List.length:Nat)) || (gt (F43 p0.Group))) || (gt (F44 p1)))=false:=by simpa using hc
  replace H:=cond_f hc H
  refine rg ctNo_ok ?_
  simp only [go_sem]
  refine seqM ?_
  refine sq ctNo_ok ?_
  simp only [go_sem]
  refine blkM ?_
  refine loop_den (fun s:Int=>(.top::.top::.ptr 0 0 0 0::.top::.top::.int .i64 s::tp 27 [])) (fun s=>[.lit 25 [.int .i64 p0.Limit,.int .i64 p0.Stay,.ro 3 p0.List.length false (enR c_TSleeper p0.List),.ro 43 p0.Group.length false (enR c_TStored p0.Group)],.dead]) (fun e:Unit=>(tp 33 [])) (fun e=>[.dead,.dead]) H ?_ (fun v1_1 o H hn1_1 hn2_1=>?_) (fun e H=>?_)
  ·refine SubF_of ⟨[some 0,some 1],?_,?_,by rfl,by rfl⟩
   ·simp [CvL,Cv,getM,tp]
   ·exact ⟨cv,CvB_dead,trivial⟩
  ·unfold F11_L1 at H
   try dsimp only at H ⊢
   try simp only [tp]
   refine seqM ?_
   refine sq ctNo_ok ?_
   simp only [go_sem,Nat.reduceLeDiff,Nat.reduceLT,Nat.reduceAdd]
   repeat ((with_reducible refine And.intro ?_ ?_);focus exact an0)
   refine condM' rfl trivial (fun hc=>?_) (fun hc=>?_)
   ·have hk4:(bLt v1_1 (p0.List.length:Nat))=false:=by simpa using hc
    replace H:=cond_f hc H
    refine rg ctNo_ok ?_
    simp only [go_sem]
    refine ⟨_,(Option.some.inj H).symm,?_⟩
    refine SubF_of ⟨[some 0,some 1],?_,?_,by rfl,by rfl⟩
    ·simp [CvL,Cv]
    ·exact ⟨CvB_dead,CvB_dead,trivial⟩
   have hk4:(bLt v1_1 (p0.List.length:Nat))=true:=by simpa using hc
   replace H:=cond_t hc H
   refine rg ctNo_ok ?_
   simp only [go_sem]
   refine seqM ?_
   refine blkM ?_
   refine seqM ?_
   obtain ⟨f5,H⟩:=need_some.1 H
   replace f5:=inb_iff.1 f5
   obtain ⟨r6,e7,H⟩:=bsi H
   refine rg ct11t1_ok ?_
   simp only [go_sem,Nat.reduceLeDiff,Nat.reduceLT,Nat.reduceAdd,ct11t1_43,body43,f5,e7]
   repeat ((with_reducible refine And.intro ?_ ?_);focus exact an0)
   refine condM rfl trivial (fun hc=>?_) (fun hc=>?_)
   ·have hk8:(r6)=true:=by simpa using hc
    replace H:=cond_t hc H
    refine sq ctNo_ok ?_
    simp only [go_sem]
    refine rg ctNo_ok ?_
    simp only [go_sem]
    have H:=hn2_1 _ (Option.some.inj H).symm
    obtain rfl:=Option.some.inj H
    first|rfl|simp only [Bool.and_false,Bool.false_and,Bool.and_true,Bool.true_and]
   have hk8:(r6)=false:=by simpa using hc
   replace H:=cond_f hc H
   refine rg ctNo_ok ?_
   simp only [go_sem]
   refine rg ctNo_ok ?_
   simp only [go_sem]
   refine ⟨_,(Option.some.inj H).symm,?_⟩
   refine SubF_of ⟨[some 0,some 1],?_,?_,by rfl,by rfl⟩
   ·simp [CvL,Cv,getM]
   ·exact ⟨cv,CvB_dead,trivial⟩
  ·try dsimp only at H ⊢
   try simp only [tp]
   try simp only [m_normal]
   refine sq ctNo_ok ?_
   simp only [go_sem]
   refine rg ctNo_ok ?_
   simp only [go_sem]
   obtain rfl:=Option.some.inj H
   first|rfl|simp only [Bool.and_false,Bool.false_and,Bool.and_true,Bool.true_and]
 ·cases hb
end Go.Proofs.Ytefiemaoacmdkaa
