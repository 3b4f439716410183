/-
  What ForwardFloods reaches.
-/
import Derived.Test.YtbahnppiobafoaaY7p2
namespace Go.Proofs.Ytbahnppiobafoaa
open Go.Am
set_option linter.unusedVariables false
set_option linter.unusedSimpArgs false
/-! hotspot/hotspotlaw41.ForwardFloods -/
noncomputable def ct7t0 : Ct := tab [(26, pureC body26)]
theorem ct7t0_ok : CtOk Try.prog ct7t0 := tab_cons ok26 <| tab_nil
theorem ct7t0_26 (l : List AV) (h : List ABlk) : ct7t0 26 l h = pureC body26 l h := rfl
noncomputable def ct7t1 : Ct := tab [(29, genC body29)]
theorem ct7t1_ok : CtOk Try.prog ct7t1 := tab_cons ok29 <| tab_nil
theorem ct7t1_29 (l : List AV) (h : List ABlk) : ct7t1 29 l h = genC body29 l h := rfl
noncomputable def ct7t2 : Ct := tab [(31, pureC body31), (32, frC (genC body32)), (34, pureC body34)]
theorem ct7t2_ok : CtOk Try.prog ct7t2 := tab_cons ok31 <| tab_cons (fr_ok ok32) <| tab_cons ok34 <| tab_nil
theorem ct7t2_31 (l : List AV) (h : List ABlk) : ct7t2 31 l h = pureC body31 l h := rfl
theorem ct7t2_32 (l : List AV) (h : List ABlk) : ct7t2 32 l h = frC (genC body32) l h := rfl
theorem ct7t2_34 (l : List AV) (h : List ABlk) : ct7t2 34 l h = pureC body34 l h := rfl
noncomputable def ct7t3 : Ct := tab [(20, genC body20)]
theorem ct7t3_ok : CtOk Try.prog ct7t3 := tab_cons ok20 <| tab_nil
theorem ct7t3_20 (l : List AV) (h : List ABlk) : ct7t3 20 l h = genC body20 l h := rfl
noncomputable def F7_L2 (p0 : List Bool) (v1_3 : Int) (v2_1 : List Bool) (v2_2 : Int) (v2_3 : Int) : Option (Lp ((List Bool) × Int × Int) (((List Bool) × Int) ⊕ (Bool))) :=
  bif (bLt v2_3 8) then (need (inb v2_2 p0.length) <| need (inb v2_2 p0.length) <| need (inb v1_3 8) <| need (inb v2_3 8) <| need (decide (v1_3.toNat * 8 + v2_3.toNat < v2_1.length)) <| need (inb v2_3 8) <| need (inb v1_3 8) <| need (decide (v2_3.toNat * 8 + v1_3.toNat < v2_1.length)) <| some (.next (((v2_1.set (v1_3.toNat * 8 + v2_3.toNat) (gd p0 v2_2.toNat)).set (v2_3.toNat * 8 + v1_3.toNat) (gd p0 v2_2.toNat)), wr .i64 (v2_2 + 1), wr .i64 (v2_3 + 1)))) else (some (.done (.inl (v2_1, v2_2))))
noncomputable def F7_L1 (p0 : List Bool) (v1_1 : List Bool) (v1_2 : Int) (v1_3 : Int) : Option (Lp ((List Bool) × Int × Int) ((List Bool) ⊕ (Bool))) :=
  bif (bLt v1_3 8) then (lp (loopD (fun s => F7_L2 p0 v1_3 s.1 s.2.1 s.2.2) (v1_1, v1_2, wr .i64 (v1_3 + 1))) (fun e2 => some (.next (e2.1, e2.2, wr .i64 (v1_3 + 1)))) (fun r => some (.done (.inr r)))) else (some (.done (.inl v1_1)))
noncomputable def F7_L3 (p1 : Int) (w1_4 : List Bool) (r23 : TForward × TMeshFrame × Int) (v3_1 : List Ttravel) (v3_2 : Int) : Option (Lp ((List Ttravel) × Int) ((List Ttravel) ⊕ (Bool))) :=
  bif (bLt v3_2 8) then (need (inb (wr .i64 (p1.tmod 8)) 8) <| need (inb v3_2 8) <| need (decide (((wr .i64 (p1.tmod 8)).toNat) * 8 + v3_2.toNat < w1_4.length)) <| bif (gd w1_4 (((wr .i64 (p1.tmod 8)).toNat) * 8 + v3_2.toNat)) then (need (capb 88 (v3_1.length + 1)) <| some (.next ((v3_1 ++ [(Ttravel.mk v3_2 (TMeshFrame.mk (A6u8.mk r23.2.1.From.x0 r23.2.1.From.x1 r23.2.1.From.x2 r23.2.1.From.x3 r23.2.1.From.x4 r23.2.1.From.x5) (A6u8.mk r23.2.1.To.x0 r23.2.1.To.x1 r23.2.1.To.x2 r23.2.1.To.x3 r23.2.1.To.x4 r23.2.1.To.x5) (A6u8.mk r23.2.1.Enter.x0 r23.2.1.Enter.x1 r23.2.1.Enter.x2 r23.2.1.Enter.x3 r23.2.1.Enter.x4 r23.2.1.Enter.x5) (A6u8.mk r23.2.1.Leave.x0 r23.2.1.Leave.x1 r23.2.1.Leave.x2 r23.2.1.Leave.x3 r23.2.1.Leave.x4 r23.2.1.Leave.x5) (A6u8.mk r23.2.1.Source.x0 r23.2.1.Source.x1 r23.2.1.Source.x2 r23.2.1.Source.x3 r23.2.1.Source.x4 r23.2.1.Source.x5) (A6u8.mk r23.2.1.Target.x0 r23.2.1.Target.x1 r23.2.1.Target.x2 r23.2.1.Target.x3 r23.2.1.Target.x4 r23.2.1.Target.x5) r23.2.1.Seq r23.2.1.Ttl r23.2.1.Data))]), wr .i64 (v3_2 + 1)))) else (some (.next (v3_1, wr .i64 (v3_2 + 1))))) else (some (.done (.inl v3_1)))
noncomputable def F7_L5 (p2 : List Int) (v4_2 : List Ttravel) (v4_4 : Int) : Option (Lp (Unit) ((Int) ⊕ (Bool))) :=
  bif ((bLt v4_4 (p2.length : Nat)) && (bLe 0 (gd p2 v4_4.toNat))) then (need (inb v4_4 p2.length) <| need (!(bEq (v4_2.length : Nat) 0)) <| some (.done (.inl ((gd p2 v4_4.toNat).tmod (v4_2.length : Nat))))) else (some (.done (.inl 0)))
noncomputable def F7_L6 (v4_2 : List Ttravel) (v4_3 : List Int) (w5_2 : Int) (r47 : TForward × Int × TMeshFrame × Int) : Option (Lp (Unit) ((List Int) ⊕ (Bool))) :=
  bif ((bEq r47.2.1 1) || (bEq r47.2.1 3)) then (need (inb ((gd v4_2 w5_2.toNat).to_) 8) <| need (inb ((gd v4_2 w5_2.toNat).to_) v4_3.length) <| need (inb ((gd v4_2 w5_2.toNat).to_) 8) <| need (inb ((gd v4_2 w5_2.toNat).to_) v4_3.length) <| some (.done (.inl (v4_3.set (((gd v4_2 w5_2.toNat).to_).toNat) (wr .i64 ((gd v4_3 (((gd v4_2 w5_2.toNat).to_).toNat)) + 1)))))) else (some (.done (.inl v4_3)))
noncomputable def F7_L7 (w1_4 : List Bool) (v4_2 : List Ttravel) (w5_2 : Int) (r47 : TForward × Int × TMeshFrame × Int) (v7_1 : List Ttravel) (v7_2 : Int) : Option (Lp ((List Ttravel) × Int) ((List Ttravel) ⊕ (Bool))) :=
  bif ((bLt v7_2 8) && (bEq r47.2.1 3)) then (need (inb ((gd v4_2 w5_2.toNat).to_) 8) <| need (inb v7_2 8) <| need (decide ((((gd v4_2 w5_2.toNat).to_).toNat) * 8 + v7_2.toNat < w1_4.length)) <| bif (gd w1_4 ((((gd v4_2 w5_2.toNat).to_).toNat) * 8 + v7_2.toNat)) then (need (capb 88 (v7_1.length + 1)) <| some (.next ((v7_1 ++ [(Ttravel.mk v7_2 (TMeshFrame.mk (A6u8.mk r47.2.2.1.From.x0 r47.2.2.1.From.x1 r47.2.2.1.From.x2 r47.2.2.1.From.x3 r47.2.2.1.From.x4 r47.2.2.1.From.x5) (A6u8.mk r47.2.2.1.To.x0 r47.2.2.1.To.x1 r47.2.2.1.To.x2 r47.2.2.1.To.x3 r47.2.2.1.To.x4 r47.2.2.1.To.x5) (A6u8.mk r47.2.2.1.Enter.x0 r47.2.2.1.Enter.x1 r47.2.2.1.Enter.x2 r47.2.2.1.Enter.x3 r47.2.2.1.Enter.x4 r47.2.2.1.Enter.x5) (A6u8.mk r47.2.2.1.Leave.x0 r47.2.2.1.Leave.x1 r47.2.2.1.Leave.x2 r47.2.2.1.Leave.x3 r47.2.2.1.Leave.x4 r47.2.2.1.Leave.x5) (A6u8.mk r47.2.2.1.Source.x0 r47.2.2.1.Source.x1 r47.2.2.1.Source.x2 r47.2.2.1.Source.x3 r47.2.2.1.Source.x4 r47.2.2.1.Source.x5) (A6u8.mk r47.2.2.1.Target.x0 r47.2.2.1.Target.x1 r47.2.2.1.Target.x2 r47.2.2.1.Target.x3 r47.2.2.1.Target.x4 r47.2.2.1.Target.x5) r47.2.2.1.Seq r47.2.2.1.Ttl r47.2.2.1.Data))]), wr .i64 (v7_2 + 1)))) else (some (.next (v7_1, wr .i64 (v7_2 + 1))))) else (some (.done (.inl v7_1)))
noncomputable def F7_L4 (p2 : List Int) (w1_4 : List Bool) (v4_1 : List TForward) (v4_2 : List Ttravel) (v4_3 : List Int) (v4_4 : Int) : Option (Lp ((List TForward) × (List Ttravel) × (List Int) × Int) ((List Int) ⊕ (Bool))) :=
  bif (bLt 0 (v4_2.length : Nat)) then (bif (bLt 100 v4_4) then (some (.done (.inr false))) else (need (bif (bLt v4_4 (p2.length : Nat)) then inb v4_4 p2.length else true) <| lp (loopD (fun s => F7_L5 p2 v4_2 v4_4) ()) (fun w5_2 => need (inb w5_2 v4_2.length) <| need (slb 0 w5_2 v4_2.length) <| need (capb 88 w5_2.toNat) <| need (slb (wr .i64 (w5_2 + 1)) (v4_2.length : Nat) v4_2.length) <| need (capb 88 (w5_2.toNat + (v4_2.length - (wr .i64 (w5_2 + 1)).toNat))) <| (some (([] ++ (List.take w5_2.toNat v4_2)) ++ (List.take (v4_2.length - (wr .i64 (w5_2 + 1)).toNat) (List.drop ((wr .i64 (w5_2 + 1)).toNat) v4_2)))).bind fun w41 => (some (List.drop (wr .i64 (w5_2 + 1)).toNat v4_2)).bind fun w43 => need (inb ((gd v4_2 w5_2.toNat).to_) 8) <| need (inb ((gd v4_2 w5_2.toNat).to_) v4_1.length) <| (F20 (TForward.mk (A6u8.mk (((gd v4_1 (((gd v4_2 w5_2.toNat).to_).toNat)).Own).x0) (((gd v4_1 (((gd v4_2 w5_2.toNat).to_).toNat)).Own).x1) (((gd v4_1 (((gd v4_2 w5_2.toNat).to_).toNat)).Own).x2) (((gd v4_1 (((gd v4_2 w5_2.toNat).to_).toNat)).Own).x3) (((gd v4_1 (((gd v4_2 w5_2.toNat).to_).toNat)).Own).x4) (((gd v4_1 (((gd v4_2 w5_2.toNat).to_).toNat)).Own).x5)) ((gd v4_1 (((gd v4_2 w5_2.toNat).to_).toNat)).Seq) ((gd v4_1 (((gd v4_2 w5_2.toNat).to_).toNat)).Seen) ((gd v4_1 (((gd v4_2 w5_2.toNat).to_).toNat)).Nexts)) (TMeshFrame.mk (A6u8.mk ((((gd v4_2 w5_2.toNat).m).From).x0) ((((gd v4_2 w5_2.toNat).m).From).x1) ((((gd v4_2 w5_2.toNat).m).From).x2) ((((gd v4_2 w5_2.toNat).m).From).x3) ((((gd v4_2 w5_2.toNat).m).From).x4) ((((gd v4_2 w5_2.toNat).m).From).x5)) (A6u8.mk ((((gd v4_2 w5_2.toNat).m).To).x0) ((((gd v4_2 w5_2.toNat).m).To).x1) ((((gd v4_2 w5_2.toNat).m).To).x2) ((((gd v4_2 w5_2.toNat).m).To).x3) ((((gd v4_2 w5_2.toNat).m).To).x4) ((((gd v4_2 w5_2.toNat).m).To).x5)) (A6u8.mk ((((gd v4_2 w5_2.toNat).m).Enter).x0) ((((gd v4_2 w5_2.toNat).m).Enter).x1) ((((gd v4_2 w5_2.toNat).m).Enter).x2) ((((gd v4_2 w5_2.toNat).m).Enter).x3) ((((gd v4_2 w5_2.toNat).m).Enter).x4) ((((gd v4_2 w5_2.toNat).m).Enter).x5)) (A6u8.mk ((((gd v4_2 w5_2.toNat).m).Leave).x0) ((((gd v4_2 w5_2.toNat).m).Leave).x1) ((((gd v4_2 w5_2.toNat).m).Leave).x2) ((((gd v4_2 w5_2.toNat).m).Leave).x3) ((((gd v4_2 w5_2.toNat).m).Leave).x4) ((((gd v4_2 w5_2.toNat).m).Leave).x5)) (A6u8.mk ((((gd v4_2 w5_2.toNat).m).Source).x0) ((((gd v4_2 w5_2.toNat).m).Source).x1) ((((gd v4_2 w5_2.toNat).m).Source).x2) ((((gd v4_2 w5_2.toNat).m).Source).x3) ((((gd v4_2 w5_2.toNat).m).Source).x4) ((((gd v4_2 w5_2.toNat).m).Source).x5)) (A6u8.mk ((((gd v4_2 w5_2.toNat).m).Target).x0) ((((gd v4_2 w5_2.toNat).m).Target).x1) ((((gd v4_2 w5_2.toNat).m).Target).x2) ((((gd v4_2 w5_2.toNat).m).Target).x3) ((((gd v4_2 w5_2.toNat).m).Target).x4) ((((gd v4_2 w5_2.toNat).m).Target).x5)) (((gd v4_2 w5_2.toNat).m).Seq) (((gd v4_2 w5_2.toNat).m).Ttl) (((gd v4_2 w5_2.toNat).m).Data))).bind fun r47 => bif (!bEq r47.2.2.2 0) then (some (.done (.inr false))) else (need (inb ((gd v4_2 w5_2.toNat).to_) 8) <| need (inb ((gd v4_2 w5_2.toNat).to_) v4_1.length) <| lp (loopD (fun s => F7_L6 v4_2 v4_3 w5_2 r47) ()) (fun w6_2 => lp (loopD (fun s => F7_L7 w1_4 v4_2 w5_2 r47 s.1 s.2) (w41, 0)) (fun w7_3 => some (.next ((v4_1.set (((gd v4_2 w5_2.toNat).to_).toNat) r47.1), w7_3, w6_2, wr .i64 (v4_4 + 1)))) (fun r => some (.done (.inr r)))) (fun r => some (.done (.inr r))))) (fun r => some (.done (.inr r))))) else (some (.done (.inl v4_3)))
noncomputable def F7_L10 (w1_4 : List Bool) (v9_2 : Int) (v10_1 : List Bool) (v10_2 : Int) : Option (Lp ((List Bool) × Int) ((List Bool) ⊕ (Bool))) :=
  bif (bLt v10_2 8) then (need (inb v9_2 8) <| need (inb v9_2 v10_1.length) <| need (bif (gd v10_1 v9_2.toNat) then inb v9_2 8 else true) <| need (bif (gd v10_1 v9_2.toNat) then inb v10_2 8 else true) <| need (bif (gd v10_1 v9_2.toNat) then decide (v9_2.toNat * 8 + v10_2.toNat < w1_4.length) else true) <| bif ((gd v10_1 v9_2.toNat) && (gd w1_4 (v9_2.toNat * 8 + v10_2.toNat))) then (need (inb v10_2 8) <| need (inb v10_2 v10_1.length) <| some (.next ((v10_1.set v10_2.toNat true), wr .i64 (v10_2 + 1)))) else (some (.next (v10_1, wr .i64 (v10_2 + 1))))) else (some (.done (.inl v10_1)))
noncomputable def F7_L9 (w1_4 : List Bool) (v9_1 : List Bool) (v9_2 : Int) : Option (Lp ((List Bool) × Int) ((List Bool) ⊕ (Bool))) :=
  bif (bLt v9_2 8) then (lp (loopD (fun s => F7_L10 w1_4 v9_2 s.1 s.2) (v9_1, 0)) (fun w10_3 => some (.next (w10_3, wr .i64 (v9_2 + 1)))) (fun r => some (.done (.inr r)))) else (some (.done (.inl v9_1)))
noncomputable def F7_L8 (w1_4 : List Bool) (v8_1 : List Bool) (v8_2 : Int) : Option (Lp ((List Bool) × Int) ((List Bool) ⊕ (Bool))) :=
  bif (bLt v8_2 8) then (lp (loopD (fun s => F7_L9 w1_4 s.1 s.2) (v8_1, 0)) (fun w9_3 => some (.next (w9_3, wr .i64 (v8_2 + 1)))) (fun r => some (.done (.inr r)))) else (some (.done (.inl v8_1)))
noncomputable def F7_L11 (p1 : Int) (w4_5 : List Int) (w8_3 : List Bool) (v11_1 : Int) : Option (Lp (Int) ((Unit) ⊕ (Bool))) :=
  bif (bLt v11_1 8) then (need (inb v11_1 8) <| need (inb v11_1 w8_3.length) <| bif ((gd w8_3 v11_1.toNat) && (!bEq v11_1 (wr .i64 (p1.tmod 8)))) then (need (inb v11_1 8) <| need (inb v11_1 w4_5.length) <| bif (!bEq (gd w4_5 v11_1.toNat) 1) then (some (.done (.inr false))) else (some (.next (wr .i64 (v11_1 + 1))))) else (need (inb v11_1 8) <| need (inb v11_1 w4_5.length) <| bif (!bEq (gd w4_5 v11_1.toNat) 0) then (some (.done (.inr false))) else (some (.next (wr .i64 (v11_1 + 1)))))) else (some (.done (.inl ())))
noncomputable def F7 (p0 : List Bool) (p1 : Int) (p2 : List Int) : Option (Bool) :=
  (F26).bind fun r1 => bif (((!bEq (p0.length : Nat) 28) || (bLt 200 (p2.length : Nat))) || (!r1)) then (some r1) else ((some (List.replicate 64 false : List Bool)).bind fun w3 => lp (loopD (fun s => F7_L1 p0 s.1 s.2.1 s.2.2) (w3, 0, 0)) (fun w1_4 => (F29).bind fun r13 => (some [r13.x0, r13.x1, r13.x2, r13.x3, r13.x4, r13.x5, r13.x6, r13.x7]).bind fun w15 => need (inb (wr .i64 (p1.tmod 8)) 8) <| need (inb (wr .i64 (p1.tmod 8)) w15.length) <| (F34).bind fun r19 => (F31 (wr .i64 (p1.tmod 8))).bind fun r21 => (F32 (TForward.mk (A6u8.mk (((gd w15 ((wr .i64 (p1.tmod 8)).toNat)).Own).x0) (((gd w15 ((wr .i64 (p1.tmod 8)).toNat)).Own).x1) (((gd w15 ((wr .i64 (p1.tmod 8)).toNat)).Own).x2) (((gd w15 ((wr .i64 (p1.tmod 8)).toNat)).Own).x3) (((gd w15 ((wr .i64 (p1.tmod 8)).toNat)).Own).x4) (((gd w15 ((wr .i64 (p1.tmod 8)).toNat)).Own).x5)) ((gd w15 ((wr .i64 (p1.tmod 8)).toNat)).Seq) ((gd w15 ((wr .i64 (p1.tmod 8)).toNat)).Seen) ((gd w15 ((wr .i64 (p1.tmod 8)).toNat)).Nexts)) r19 r21 r19 [1, 2]).bind fun r23 => need (inb (wr .i64 (p1.tmod 8)) 8) <| need (inb (wr .i64 (p1.tmod 8)) w15.length) <| bif (!bEq r23.2.2 0) then (some false) else (lp (loopD (fun s => F7_L3 p1 w1_4 r23 s.1 s.2) ([], 0)) (fun w3_3 => (some (List.replicate 8 0 : List Int)).bind fun w31 => lp (loopD (fun s => F7_L4 p2 w1_4 s.1 s.2.1 s.2.2.1 s.2.2.2) ((w15.set ((wr .i64 (p1.tmod 8)).toNat) r23.1), w3_3, w31, 0)) (fun w4_5 => (some (List.replicate 8 false : List Bool)).bind fun w59 => need (inb (wr .i64 (p1.tmod 8)) 8) <| need (inb (wr .i64 (p1.tmod 8)) w59.length) <| lp (loopD (fun s => F7_L8 w1_4 s.1 s.2) ((w59.set ((wr .i64 (p1.tmod 8)).toNat) true), 0)) (fun w8_3 => lp (loopD (fun s => F7_L11 p1 w4_5 w8_3 s) 0) (fun _ => some r1) some) some) some) some)) some)
noncomputable def body7 : List AV -> AR
  | [v0, v1, v2] => .pure (lK k_b 1 v0 /\ iK .u8 v1 /\ lK k_i64 1 v2 /\ (F7 (lA g_b v0) (iA v1) (lA g_i64 v2)).isSome = true) (.bool (gt (F7 (lA g_b v0) (iA v1) (lA g_i64 v2))))
  | _ => .fail
set_option maxHeartbeats 4000000 in
set_option maxRecDepth 20000 in
theorem ok7 : FnOk Try.prog 7 (pureC body7) := by
  refine pure_fnM body7 (rs := [.tmp 6]) Try.func7 (by kernel_rfl) rfl rfl ?_
  intro l ob v hb hob
  unfold body7 at hb
  split at hb
  · rename_i v0 v1 v2
    injection hb with q1 q2; subst q1 q2
    obtain ⟨hk0_0, hk1_0, hk2_0, hob⟩ := hob
    obtain ⟨r, H⟩ := Option.isSome_iff_exists.1 hob
    rw [H, gt_some]
    have hw0 := lK_wk (fun r h => w_b h) hk0_0
    have hw1 := iK_wk hk1_0
    have hw2 := lK_wk (fun r h => w_i64 h) hk2_0
    generalize lA g_b v0 = p0 at H hw0
    generalize iA v1 = p1 at H hw1
    generalize lA g_i64 v2 = p2 at H hw2
    refine ⟨[.ro 1 p0.length false (enR c_b p0), .int .u8 p1, .ro 1 p2.length false (enR c_i64 p2)], _, (fun E vs F => FR_wk1 hw0.1 F (fun vs F => FR_wk1 hw1.1 F (fun vs F => FR_wk1 hw2.1 F (fun vs F => F)))), rfl, rfl, ?_⟩
    rw [Try.ntmps7]
    simp only [List.length_cons, List.length_nil, Nat.reduceAdd, Nat.reduceSub, List.replicate_succ, List.replicate_zero, List.cons_append, List.nil_append]
    unfold F7 at H
    try dsimp only at H
    refine sq ctNo_ok ?_
    simp only [go_sem, Nat.reduceLeDiff, Nat.reduceLT, Nat.reduceAdd, Nat.reduceMul, Nat.reduceSub, Nat.reduceEqDiff, Nat.reduceBEq, Int.reduceToNat, reduceCtorEq]
    refine seqM ?_
    obtain ⟨r1, e2, H⟩ := bsi H
    refine rg ct7t0_ok ?_
    simp only [go_sem, Nat.reduceLeDiff, Nat.reduceLT, Nat.reduceAdd, Nat.reduceMul, Nat.reduceSub, Nat.reduceEqDiff, Nat.reduceBEq, Int.reduceToNat, reduceCtorEq, ct7t0_26, body26, e2]
    repeat ((with_reducible refine And.intro ?_ ?_); focus exact an0)
    refine seqM ?_
    refine sq ctNo_ok ?_
    simp only [go_sem, Nat.reduceLeDiff, Nat.reduceLT, Nat.reduceAdd, Nat.reduceMul, Nat.reduceSub, Nat.reduceEqDiff, Nat.reduceBEq, Int.reduceToNat, reduceCtorEq]
    repeat ((with_reducible refine And.intro ?_ ?_); focus exact an6)
    refine condM rfl trivial (fun hc => ?_) (fun hc => ?_)
    · replace H := cond_t hc H
      refine sq ctNo_ok ?_
      simp only [go_sem, Nat.reduceLeDiff, Nat.reduceLT, Nat.reduceAdd, Nat.reduceMul, Nat.reduceSub, Nat.reduceEqDiff, Nat.reduceBEq, Int.reduceToNat, reduceCtorEq]
      refine rg ctNo_ok ?_
      simp only [go_sem, Nat.reduceLeDiff, Nat.reduceLT, Nat.reduceAdd, Nat.reduceMul, Nat.reduceSub, Nat.reduceEqDiff, Nat.reduceBEq, Int.reduceToNat, reduceCtorEq]
      obtain rfl := Option.some.inj H
      first | rfl | simp only [Bool.and_false, Bool.false_and, Bool.and_true, Bool.true_and]
    replace H := cond_f hc H
    refine rg ctNo_ok ?_
    simp only [go_sem, Nat.reduceLeDiff, Nat.reduceLT, Nat.reduceAdd, Nat.reduceMul, Nat.reduceSub, Nat.reduceEqDiff, Nat.reduceBEq, Int.reduceToNat, reduceCtorEq]
    refine seqM ?_
    refine regO ?_
    refine cutO shT_ok ctNo_ok 0 ?_
    simp only [kO_normal, List.take_succ_cons, List.take_zero, List.drop_succ_cons, List.drop_zero, go_sem, Nat.reduceLeDiff, Nat.reduceLT, Nat.reduceAdd, Nat.reduceMul, Nat.reduceSub, Nat.reduceEqDiff, Nat.reduceBEq, Int.reduceToNat, reduceCtorEq]
    obtain ⟨w3, hw4, H⟩ := bsi H
    replace hw4 := Option.some.inj hw4
    have lhw4 : w3.length = 64 := by rw [← hw4]; exact List.length_replicate
    refine allocO shT_ok ctNo_ok (len := w3.length) (z := 1) (l := (List.replicate 64 (c_b false)).flatten) (c := enR c_b w3) rfl rfl rfl (by kernel_rfl) (by rw [lhw4]; exact flat_len) (fun x y hx hy => by subst hw4; exact arr_rep rfl x y (by simpa using hx) hy) ?_
    simp only [go_sem, Nat.reduceLeDiff, Nat.reduceLT, Nat.reduceAdd, Nat.reduceMul, Nat.reduceSub, Nat.reduceEqDiff, Nat.reduceBEq, Int.reduceToNat, reduceCtorEq]
    refine cutO shT_ok ctNo_ok 0 ?_
    simp only [kO_normal, List.take_succ_cons, List.take_zero, List.drop_succ_cons, List.drop_zero, go_sem, Nat.reduceLeDiff, Nat.reduceLT, Nat.reduceAdd, Nat.reduceMul, Nat.reduceSub, Nat.reduceEqDiff, Nat.reduceBEq, Int.reduceToNat, reduceCtorEq]
    refine endO ?_
    refine sq ctNo_ok ?_
    simp only [go_sem, Nat.reduceLeDiff, Nat.reduceLT, Nat.reduceAdd, Nat.reduceMul, Nat.reduceSub, Nat.reduceEqDiff, Nat.reduceBEq, Int.reduceToNat, reduceCtorEq]
    refine seqM ?_
    refine sq ctNo_ok ?_
    simp only [go_sem, Nat.reduceLeDiff, Nat.reduceLT, Nat.reduceAdd, Nat.reduceMul, Nat.reduceSub, Nat.reduceEqDiff, Nat.reduceBEq, Int.reduceToNat, reduceCtorEq]
    refine blkM ?_
    refine loop_den (fun s : (List Bool) × Int × Int => (.ro 1 p0.length false (enR c_b p0) :: .int .u8 p1 :: .ro 1 p2.length false (enR c_i64 p2) :: tp 4 (.bool r1 :: .ptr 1 1 0 0 :: .int .i64 s.2.1 :: .int .i64 s.2.2 :: tp 235 []))) (fun s => [.dead, .row 76 1 s.1.length (enR c_b s.1)]) (fun e : List Bool => (.top :: .int .u8 p1 :: .ro 1 p2.length false (enR c_i64 p2) :: tp 4 (.bool r1 :: .ptr 1 1 0 0 :: tp 237 []))) (fun e => [.dead, .row 76 1 e.length (enR c_b e)]) H ?_ (fun s o H hn1_1 hn2_1 => ?_) (fun w1_4 H => ?_)
    · refine SubF_of ⟨[some 0, some 0], ?_, ?_, by rfl, by rfl⟩
      · simp [CvL, Cv, getM, tp]
      · exact ⟨CvB_dead, CvB_row nr_b cl (fun _ _ _ _ => rfl), trivial⟩
    · obtain ⟨v1_1, v1_2, v1_3⟩ := s
      unfold F7_L1 at H
      try dsimp only at H ⊢
      try simp only [tp]
      refine seqM ?_
      refine sq ctNo_ok ?_
      simp only [go_sem, Nat.reduceLeDiff, Nat.reduceLT, Nat.reduceAdd, Nat.reduceMul, Nat.reduceSub, Nat.reduceEqDiff, Nat.reduceBEq, Int.reduceToNat, reduceCtorEq]
      refine condM' rfl trivial (fun hc => ?_) (fun hc => ?_)
      · replace H := cond_f hc H
        refine rg ctNo_ok ?_
        simp only [go_sem, Nat.reduceLeDiff, Nat.reduceLT, Nat.reduceAdd, Nat.reduceMul, Nat.reduceSub, Nat.reduceEqDiff, Nat.reduceBEq, Int.reduceToNat, reduceCtorEq]
        refine ⟨_, (Option.some.inj H).symm, ?_⟩
        refine SubF_of ⟨[some 0, some 1], ?_, ?_, by rfl, by rfl⟩
        · simp [CvL, Cv, getM, tp]
        · exact ⟨CvB_dead, CvB_row nr_b cl (fun _ _ _ _ => rfl), trivial⟩
      replace H := cond_t hc H
      refine rg ctNo_ok ?_
      simp only [go_sem, Nat.reduceLeDiff, Nat.reduceLT, Nat.reduceAdd, Nat.reduceMul, Nat.reduceSub, Nat.reduceEqDiff, Nat.reduceBEq, Int.reduceToNat, reduceCtorEq]
      refine seqM ?_
      refine blkM ?_
      refine sq ctNo_ok ?_
      simp only [go_sem, Nat.reduceLeDiff, Nat.reduceLT, Nat.reduceAdd, Nat.reduceMul, Nat.reduceSub, Nat.reduceEqDiff, Nat.reduceBEq, Int.reduceToNat, reduceCtorEq]
      refine blkM ?_
      refine loop_den (fun s : (List Bool) × Int × Int => (.ro 1 p0.length false (enR c_b p0) :: .int .u8 p1 :: .ro 1 p2.length false (enR c_i64 p2) :: tp 4 (.bool r1 :: .ptr 2 1 0 0 :: .int .i64 s.2.1 :: .int .i64 v1_3 :: .int .i64 s.2.2 :: tp 234 []))) (fun s => [.dead, .dead, .row 76 1 s.1.length (enR c_b s.1)]) (fun e : (List Bool) × Int => (.ro 1 p0.length false (enR c_b p0) :: .int .u8 p1 :: .ro 1 p2.length false (enR c_i64 p2) :: tp 4 (.bool r1 :: .ptr 2 1 0 0 :: .int .i64 e.2 :: .int .i64 v1_3 :: tp 235 []))) (fun e => [.dead, .dead, .row 76 1 e.1.length (enR c_b e.1)]) H ?_ (fun s o H hn1_2 hn2_2 => ?_) (fun e H => ?_)
      · refine SubF_of ⟨[some 0, some 1, some 1], ?_, ?_, by rfl, by rfl⟩
        · simp [CvL, Cv, getM, tp]
        · exact ⟨CvB_dead, CvB_dead, CvB_row nr_b cl (fun _ _ _ _ => rfl), trivial⟩
      · obtain ⟨v2_1, v2_2, v2_3⟩ := s
        unfold F7_L2 at H
        try dsimp only at H ⊢
        try simp only [tp]
        refine seqM ?_
        refine sq ctNo_ok ?_
        simp only [go_sem, Nat.reduceLeDiff, Nat.reduceLT, Nat.reduceAdd, Nat.reduceMul, Nat.reduceSub, Nat.reduceEqDiff, Nat.reduceBEq, Int.reduceToNat, reduceCtorEq]
        refine condM' rfl trivial (fun hc => ?_) (fun hc => ?_)
        · replace H := cond_f hc H
          refine rg ctNo_ok ?_
          simp only [go_sem, Nat.reduceLeDiff, Nat.reduceLT, Nat.reduceAdd, Nat.reduceMul, Nat.reduceSub, Nat.reduceEqDiff, Nat.reduceBEq, Int.reduceToNat, reduceCtorEq]
          refine ⟨_, (Option.some.inj H).symm, ?_⟩
          refine SubF_of ⟨[some 0, some 1, some 2], ?_, ?_, by rfl, by rfl⟩
          · simp [CvL, Cv, getM, tp]
          · exact ⟨CvB_dead, CvB_dead, CvB_row nr_b cl (fun _ _ _ _ => rfl), trivial⟩
        replace H := cond_t hc H
        refine rg ctNo_ok ?_
        simp only [go_sem, Nat.reduceLeDiff, Nat.reduceLT, Nat.reduceAdd, Nat.reduceMul, Nat.reduceSub, Nat.reduceEqDiff, Nat.reduceBEq, Int.reduceToNat, reduceCtorEq]
        refine seqM ?_
        refine blkM ?_
        refine seqM ?_
        obtain ⟨f5, H⟩ := need_some.1 H
        replace f5 := inb_iff.1 f5
        obtain ⟨f6, H⟩ := need_some.1 H
        replace f6 := inb_iff.1 f6
        obtain ⟨f7, H⟩ := need_some.1 H
        replace f7 := inb_iff.1 f7
        obtain ⟨f8, H⟩ := need_some.1 H
        replace f8 := inb_iff.1 f8
        obtain ⟨f9, H⟩ := need_some.1 H
        replace f9 := decide_eq_true_iff.1 f9
        obtain ⟨f10, H⟩ := need_some.1 H
        replace f10 := inb_iff.1 f10
        obtain ⟨f11, H⟩ := need_some.1 H
        replace f11 := inb_iff.1 f11
        obtain ⟨f12, H⟩ := need_some.1 H
        replace f12 := decide_eq_true_iff.1 f12
        refine draw_rule shT_ok ctNo_ok 0 (by kernel_rfl) (by kernel_rfl) ?_
        intro an han
        simp only [d_nil, d_cons, nxtD, xrD, xoD, roEq, minL, List.append_nil, refsOp, refs, refsL, mask, maskF, place, placeF, okLog, pairOk, hit, inL, slotsF, ren, renL, rnN, nrH, nrB, nrL, nr, dead0, deadS, List.replicate_zero, List.replicate_succ, Nat.sub_self, Nat.add_zero, Nat.zero_add, Nat.reduceSub, Nat.not_lt_zero, Nat.zero_le, Nat.lt_add_one, go_sem, Nat.reduceLeDiff, Nat.reduceLT, Nat.reduceAdd, Nat.reduceMul, Nat.reduceSub, Nat.reduceEqDiff, Nat.reduceBEq, Int.reduceToNat, reduceCtorEq, f5, f6, f7, f8, f9, f10, f11, f12]
        repeat ((with_reducible refine And.intro ?_ ?_); focus exact an1)
        refine rg ctNo_ok ?_
        simp only [go_sem, Nat.reduceLeDiff, Nat.reduceLT, Nat.reduceAdd, Nat.reduceMul, Nat.reduceSub, Nat.reduceEqDiff, Nat.reduceBEq, Int.reduceToNat, reduceCtorEq]
        refine rg ctNo_ok ?_
        simp only [go_sem, Nat.reduceLeDiff, Nat.reduceLT, Nat.reduceAdd, Nat.reduceMul, Nat.reduceSub, Nat.reduceEqDiff, Nat.reduceBEq, Int.reduceToNat, reduceCtorEq]
        refine ⟨_, (Option.some.inj H).symm, ?_⟩
        refine SubF_of ⟨[some 0, some 1, some 2], ?_, ?_, by rfl, by rfl⟩
        · simp [CvL, Cv, getM, tp]
        · exact ⟨CvB_dead, CvB_dead, CvB_row nr_b cl (upc_row (f := c_b) (v2_1.set (v1_3.toNat * 8 + v2_3.toNat) (gd p0 v2_2.toNat)) (v2_3.toNat * 8 + v1_3.toNat) 0 (gd p0 v2_2.toNat) (upc_row (f := c_b) v2_1 (v1_3.toNat * 8 + v2_3.toNat) 0 (gd p0 v2_2.toNat) (fun _ _ _ _ => rfl) (fun y hy => match y, hy with | 0, _ => rfl | (y+1), h => absurd h nlt)) (fun y hy => match y, hy with | 0, _ => rfl | (y+1), h => absurd h nlt)), trivial⟩
      · obtain ⟨w2_4, w2_5⟩ := e
        try dsimp only at H ⊢
        try simp only [tp]
        try simp only [m_normal, k_normal, b_normal, kL_normal, r_normal]
        refine rg ctNo_ok ?_
        simp only [go_sem, Nat.reduceLeDiff, Nat.reduceLT, Nat.reduceAdd, Nat.reduceMul, Nat.reduceSub, Nat.reduceEqDiff, Nat.reduceBEq, Int.reduceToNat, reduceCtorEq]
        refine ⟨_, (Option.some.inj H).symm, ?_⟩
        refine SubF_of ⟨[some 0, some 2], ?_, ?_, by rfl, by rfl⟩
        · simp [CvL, Cv, getM, tp]
        · exact ⟨CvB_dead, CvB_row nr_b cl (fun _ _ _ _ => rfl), trivial⟩
    · try dsimp only at H ⊢
      try simp only [tp]
      try simp only [m_normal, k_normal, b_normal, kL_normal, r_normal]
      refine sq ctNo_ok ?_
      simp only [go_sem, Nat.reduceLeDiff, Nat.reduceLT, Nat.reduceAdd, Nat.reduceMul, Nat.reduceSub, Nat.reduceEqDiff, Nat.reduceBEq, Int.reduceToNat, reduceCtorEq]
      repeat ((with_reducible refine And.intro ?_ ?_); focus exact an4)
      refine seqM ?_
      refine regO ?_
      obtain ⟨r13, e14, H⟩ := bsi H
      refine cutO shT_ok ct7t1_ok 1 ?_
      simp only [kO_normal, List.take_succ_cons, List.take_zero, List.drop_succ_cons, List.drop_zero, go_sem, Nat.reduceLeDiff, Nat.reduceLT, Nat.reduceAdd, Nat.reduceMul, Nat.reduceSub, Nat.reduceEqDiff, Nat.reduceBEq, Int.reduceToNat, reduceCtorEq, ct7t1_29, body29, e14]
      repeat ((with_reducible refine And.intro ?_ ?_); focus exact an0)
      refine allocO shT_ok ctNo_ok (len := 8) (z := 9) (l := (.int .u8 0 :: .int .u8 0 :: .int .u8 0 :: .int .u8 0 :: .int .u8 0 :: .int .u8 0 :: .int .i64 0 :: .ro 0 0 true (fun _ _ => .top) :: .ro 0 0 true (fun _ _ => .top) :: .int .u8 0 :: .int .u8 0 :: .int .u8 0 :: .int .u8 0 :: .int .u8 0 :: .int .u8 0 :: .int .i64 0 :: .ro 0 0 true (fun _ _ => .top) :: .ro 0 0 true (fun _ _ => .top) :: .int .u8 0 :: .int .u8 0 :: .int .u8 0 :: .int .u8 0 :: .int .u8 0 :: .int .u8 0 :: .int .i64 0 :: .ro 0 0 true (fun _ _ => .top) :: .ro 0 0 true (fun _ _ => .top) :: .int .u8 0 :: .int .u8 0 :: .int .u8 0 :: .int .u8 0 :: .int .u8 0 :: .int .u8 0 :: .int .i64 0 :: .ro 0 0 true (fun _ _ => .top) :: .ro 0 0 true (fun _ _ => .top) :: .int .u8 0 :: .int .u8 0 :: .int .u8 0 :: .int .u8 0 :: .int .u8 0 :: .int .u8 0 :: .int .i64 0 :: .ro 0 0 true (fun _ _ => .top) :: .ro 0 0 true (fun _ _ => .top) :: .int .u8 0 :: .int .u8 0 :: .int .u8 0 :: .int .u8 0 :: .int .u8 0 :: .int .u8 0 :: .int .i64 0 :: .ro 0 0 true (fun _ _ => .top) :: .ro 0 0 true (fun _ _ => .top) :: .int .u8 0 :: .int .u8 0 :: .int .u8 0 :: .int .u8 0 :: .int .u8 0 :: .int .u8 0 :: .int .i64 0 :: .ro 0 0 true (fun _ _ => .top) :: .ro 0 0 true (fun _ _ => .top) :: .int .u8 0 :: .int .u8 0 :: .int .u8 0 :: .int .u8 0 :: .int .u8 0 :: .int .u8 0 :: .int .i64 0 :: .ro 0 0 true (fun _ _ => .top) :: .ro 0 0 true (fun _ _ => .top) :: [])) (c := litC 9 (.int .u8 0 :: .int .u8 0 :: .int .u8 0 :: .int .u8 0 :: .int .u8 0 :: .int .u8 0 :: .int .i64 0 :: .ro 0 0 true (fun _ _ => .top) :: .ro 0 0 true (fun _ _ => .top) :: .int .u8 0 :: .int .u8 0 :: .int .u8 0 :: .int .u8 0 :: .int .u8 0 :: .int .u8 0 :: .int .i64 0 :: .ro 0 0 true (fun _ _ => .top) :: .ro 0 0 true (fun _ _ => .top) :: .int .u8 0 :: .int .u8 0 :: .int .u8 0 :: .int .u8 0 :: .int .u8 0 :: .int .u8 0 :: .int .i64 0 :: .ro 0 0 true (fun _ _ => .top) :: .ro 0 0 true (fun _ _ => .top) :: .int .u8 0 :: .int .u8 0 :: .int .u8 0 :: .int .u8 0 :: .int .u8 0 :: .int .u8 0 :: .int .i64 0 :: .ro 0 0 true (fun _ _ => .top) :: .ro 0 0 true (fun _ _ => .top) :: .int .u8 0 :: .int .u8 0 :: .int .u8 0 :: .int .u8 0 :: .int .u8 0 :: .int .u8 0 :: .int .i64 0 :: .ro 0 0 true (fun _ _ => .top) :: .ro 0 0 true (fun _ _ => .top) :: .int .u8 0 :: .int .u8 0 :: .int .u8 0 :: .int .u8 0 :: .int .u8 0 :: .int .u8 0 :: .int .i64 0 :: .ro 0 0 true (fun _ _ => .top) :: .ro 0 0 true (fun _ _ => .top) :: .int .u8 0 :: .int .u8 0 :: .int .u8 0 :: .int .u8 0 :: .int .u8 0 :: .int .u8 0 :: .int .i64 0 :: .ro 0 0 true (fun _ _ => .top) :: .ro 0 0 true (fun _ _ => .top) :: .int .u8 0 :: .int .u8 0 :: .int .u8 0 :: .int .u8 0 :: .int .u8 0 :: .int .u8 0 :: .int .i64 0 :: .ro 0 0 true (fun _ _ => .top) :: .ro 0 0 true (fun _ _ => .top) :: [])) rfl rfl rfl (by kernel_rfl) rfl (fun _ _ _ _ => rfl) ?_
      simp only [go_sem, Nat.reduceLeDiff, Nat.reduceLT, Nat.reduceAdd, Nat.reduceMul, Nat.reduceSub, Nat.reduceEqDiff, Nat.reduceBEq, Int.reduceToNat, reduceCtorEq]
      refine cutO shT_ok ctNo_ok 0 ?_
      simp only [kO_normal, List.take_succ_cons, List.take_zero, List.drop_succ_cons, List.drop_zero, go_sem, Nat.reduceLeDiff, Nat.reduceLT, Nat.reduceAdd, Nat.reduceMul, Nat.reduceSub, Nat.reduceEqDiff, Nat.reduceBEq, Int.reduceToNat, reduceCtorEq]
      repeat ((with_reducible refine And.intro ?_ ?_); focus exact an2)
      refine storeArrO shT_ok ctNo_ok (b := 2) (z := 9) (n := 8) rfl rfl rfl rfl rfl (by first | exact ⟨trivial, trivial⟩ | (simp only [go_sem, Nat.reduceLeDiff, Nat.reduceLT, Nat.reduceAdd, Nat.reduceMul, Nat.reduceSub, Nat.reduceEqDiff, Nat.reduceBEq, Int.reduceToNat, reduceCtorEq]; done) | simp [og]) rfl rfl (by kernel_rfl) rfl (by decide) ?_
      simp only [go_sem, Nat.reduceLeDiff, Nat.reduceLT, Nat.reduceAdd, Nat.reduceMul, Nat.reduceSub, Nat.reduceEqDiff, Nat.reduceBEq, Int.reduceToNat, reduceCtorEq]
      refine cutO shT_ok ctNo_ok 0 ?_
      simp only [kO_normal, List.take_succ_cons, List.take_zero, List.drop_succ_cons, List.drop_zero, go_sem, Nat.reduceLeDiff, Nat.reduceLT, Nat.reduceAdd, Nat.reduceMul, Nat.reduceSub, Nat.reduceEqDiff, Nat.reduceBEq, Int.reduceToNat, reduceCtorEq]
      repeat ((with_reducible refine And.intro ?_ ?_); focus exact an2)
      refine endO ?_
      refine seqM ?_
      obtain ⟨w15, hw16, H⟩ := bsi H
      replace hw16 := Option.some.inj hw16
      have lhw16 : w15.length = 8 := by rw [← hw16]; exact (by first | rfl | simp)
      refine subF_mean (t2 := (.top :: .top :: .ro 1 p2.length false (enR c_i64 p2) :: tp 4 (.bool r1 :: .ptr 1 1 0 0 :: .top :: .top :: .top :: .int .i64 (wr .i64 (p1.tmod 8)) :: .ptr 2 9 0 0 :: tp 232 []))) (h2 := [.dead, .row 76 1 w1_4.length (enR c_b w1_4), .row 62 9 w15.length (enR c_TForward w15)]) ?_ ?_
      · refine SubF_of ⟨[some 0, some 1, some 2], ?_, ?_, by rfl, by rfl⟩
        · simp [CvL, Cv, getM, tp, lhw16]
        · exact ⟨CvB_dead, CvB_row nr_b rfl (fun _ _ _ _ => rfl), CvB_row nr_TForward lhw16 (hw16 ▸ (lit_row (f := c_TForward) [r13.x0, r13.x1, r13.x2, r13.x3, r13.x4, r13.x5, r13.x6, r13.x7] (fun _ _ => rfl) rfl)), trivial⟩
      simp only [tp]
      obtain ⟨f17, H⟩ := need_some.1 H
      replace f17 := inb_iff.1 f17
      obtain ⟨f18, H⟩ := need_some.1 H
      replace f18 := inb_iff.1 f18
      obtain ⟨r19, e20, H⟩ := bsi H
      obtain ⟨r21, e22, H⟩ := bsi H
      obtain ⟨r23, e24, H⟩ := bsi H
      refine draw_rule shT_ok ct7t2_ok 3 (by kernel_rfl) (by kernel_rfl) ?_
      intro an han
      simp only [d_nil, d_cons, nxtD, xrD, xoD, roEq, minL, List.append_nil, refsOp, refs, refsL, mask, maskF, place, placeF, okLog, pairOk, hit, inL, slotsF, ren, renL, rnN, nrH, nrB, nrL, nr, dead0, deadS, List.replicate_zero, List.replicate_succ, Nat.sub_self, Nat.add_zero, Nat.zero_add, Nat.reduceSub, Nat.not_lt_zero, Nat.zero_le, Nat.lt_add_one, go_sem, Nat.reduceLeDiff, Nat.reduceLT, Nat.reduceAdd, Nat.reduceMul, Nat.reduceSub, Nat.reduceEqDiff, Nat.reduceBEq, Int.reduceToNat, reduceCtorEq, frC, obR, fzL, fzV, fzH, fzHF, fzB, fzOb, fzObL, fzObH, fzObB, rowOb, refsL, refs, inL, ct7t2_31, body31, ct7t2_32, body32, ct7t2_34, body34, f17, f18, e20, e22, e24]
      repeat ((with_reducible refine And.intro ?_ ?_); focus (and_intros <;> first | (with_reducible trivial) | (show anB _ _ _ = true; subst han; kernel_rfl) | (show (anB _ _ _ && _) = true; subst han; kernel_rfl) | omega | assumption | exact nrc | exact nfc | first | exact rfl | exact trivial | exact fitI | exact .inr rfl | exact .inl rfl | exact fun x hx => absurd hx (by omega) | (intro x hx; (repeat (first | (and_intros <;> (first | exact rfl | exact trivial | exact fitI | exact .inr rfl | exact .inl rfl | exact fun x hx => absurd hx (by omega))) | (exfalso; omega) | (rcases x with _ | x))); done)))
      refine seqM ?_
      obtain ⟨f25, H⟩ := need_some.1 H
      replace f25 := inb_iff.1 f25
      obtain ⟨f26, H⟩ := need_some.1 H
      replace f26 := inb_iff.1 f26
      refine rg ctNo_ok ?_
      simp only [go_sem, Nat.reduceLeDiff, Nat.reduceLT, Nat.reduceAdd, Nat.reduceMul, Nat.reduceSub, Nat.reduceEqDiff, Nat.reduceBEq, Int.reduceToNat, reduceCtorEq, f25, f26]
      repeat ((with_reducible refine And.intro ?_ ?_); focus exact an4)
      refine seqM ?_
      refine sq ctNo_ok ?_
      simp only [go_sem, Nat.reduceLeDiff, Nat.reduceLT, Nat.reduceAdd, Nat.reduceMul, Nat.reduceSub, Nat.reduceEqDiff, Nat.reduceBEq, Int.reduceToNat, reduceCtorEq]
      refine condM rfl trivial (fun hc => ?_) (fun hc => ?_)
      · replace H := cond_t hc H
        refine sq ctNo_ok ?_
        simp only [go_sem, Nat.reduceLeDiff, Nat.reduceLT, Nat.reduceAdd, Nat.reduceMul, Nat.reduceSub, Nat.reduceEqDiff, Nat.reduceBEq, Int.reduceToNat, reduceCtorEq]
        refine rg ctNo_ok ?_
        simp only [go_sem, Nat.reduceLeDiff, Nat.reduceLT, Nat.reduceAdd, Nat.reduceMul, Nat.reduceSub, Nat.reduceEqDiff, Nat.reduceBEq, Int.reduceToNat, reduceCtorEq]
        obtain rfl := Option.some.inj H
        first | rfl | simp only [Bool.and_false, Bool.false_and, Bool.and_true, Bool.true_and]
      replace H := cond_f hc H
      refine rg ctNo_ok ?_
      simp only [go_sem, Nat.reduceLeDiff, Nat.reduceLT, Nat.reduceAdd, Nat.reduceMul, Nat.reduceSub, Nat.reduceEqDiff, Nat.reduceBEq, Int.reduceToNat, reduceCtorEq]
      refine sq ctNo_ok ?_
      simp only [go_sem, Nat.reduceLeDiff, Nat.reduceLT, Nat.reduceAdd, Nat.reduceMul, Nat.reduceSub, Nat.reduceEqDiff, Nat.reduceBEq, Int.reduceToNat, reduceCtorEq]
      refine seqM ?_
      refine sq ctNo_ok ?_
      simp only [go_sem, Nat.reduceLeDiff, Nat.reduceLT, Nat.reduceAdd, Nat.reduceMul, Nat.reduceSub, Nat.reduceEqDiff, Nat.reduceBEq, Int.reduceToNat, reduceCtorEq]
      refine blkM ?_
      refine loop_den (fun s : (List Ttravel) × Int => (.top :: .top :: .ro 1 p2.length false (enR c_i64 p2) :: tp 4 (.bool r1 :: .ptr 1 1 0 0 :: .top :: .top :: .top :: .int .i64 (wr .i64 (p1.tmod 8)) :: .ptr 2 9 0 0 :: .top :: .ptr 5 0 0 0 :: .top :: .sl 6 40 0 s.1.length false :: .int .i64 s.2 :: tp 227 []))) (fun s => [.dead, .row 76 1 w1_4.length (enR c_b w1_4), .row 62 9 w15.length (upc (enR c_TForward w15) ((wr .i64 (p1.tmod 8)).toNat) 0 [.int .u8 r23.1.Own.x0, .int .u8 r23.1.Own.x1, .int .u8 r23.1.Own.x2, .int .u8 r23.1.Own.x3, .int .u8 r23.1.Own.x4, .int .u8 r23.1.Own.x5, .int .i64 r23.1.Seq, .ro 7 r23.1.Seen.length false (enR c_TForwardMark r23.1.Seen), .ro 12 r23.1.Nexts.length false (enR c_TForwardHop r23.1.Nexts)]), .dead, .dead, .lit 26 (.int .u8 r23.2.1.From.x0 :: .int .u8 r23.2.1.From.x1 :: .int .u8 r23.2.1.From.x2 :: .int .u8 r23.2.1.From.x3 :: .int .u8 r23.2.1.From.x4 :: .int .u8 r23.2.1.From.x5 :: .int .u8 r23.2.1.To.x0 :: .int .u8 r23.2.1.To.x1 :: .int .u8 r23.2.1.To.x2 :: .int .u8 r23.2.1.To.x3 :: .int .u8 r23.2.1.To.x4 :: .int .u8 r23.2.1.To.x5 :: .int .u8 r23.2.1.Enter.x0 :: .int .u8 r23.2.1.Enter.x1 :: .int .u8 r23.2.1.Enter.x2 :: .int .u8 r23.2.1.Enter.x3 :: .int .u8 r23.2.1.Enter.x4 :: .int .u8 r23.2.1.Enter.x5 :: .int .u8 r23.2.1.Leave.x0 :: .int .u8 r23.2.1.Leave.x1 :: .int .u8 r23.2.1.Leave.x2 :: .int .u8 r23.2.1.Leave.x3 :: .int .u8 r23.2.1.Leave.x4 :: .int .u8 r23.2.1.Leave.x5 :: .int .u8 r23.2.1.Source.x0 :: .int .u8 r23.2.1.Source.x1 :: .int .u8 r23.2.1.Source.x2 :: .int .u8 r23.2.1.Source.x3 :: .int .u8 r23.2.1.Source.x4 :: .int .u8 r23.2.1.Source.x5 :: .int .u8 r23.2.1.Target.x0 :: .int .u8 r23.2.1.Target.x1 :: .int .u8 r23.2.1.Target.x2 :: .int .u8 r23.2.1.Target.x3 :: .int .u8 r23.2.1.Target.x4 :: .int .u8 r23.2.1.Target.x5 :: .int .i64 r23.2.1.Seq :: .int .i64 r23.2.1.Ttl :: .ro 1 r23.2.1.Data.length false (enR c_u8 r23.2.1.Data) :: []), .row 80 40 s.1.length (enR c_Ttravel s.1)]) (fun e : List Ttravel => (.top :: .top :: .ro 1 p2.length false (enR c_i64 p2) :: tp 4 (.bool r1 :: .ptr 1 1 0 0 :: .top :: .top :: .top :: .int .i64 (wr .i64 (p1.tmod 8)) :: .ptr 2 9 0 0 :: .top :: .top :: .top :: .sl 6 40 0 e.length false :: tp 228 []))) (fun e => [.dead, .row 76 1 w1_4.length (enR c_b w1_4), .row 62 9 w15.length (upc (enR c_TForward w15) ((wr .i64 (p1.tmod 8)).toNat) 0 [.int .u8 r23.1.Own.x0, .int .u8 r23.1.Own.x1, .int .u8 r23.1.Own.x2, .int .u8 r23.1.Own.x3, .int .u8 r23.1.Own.x4, .int .u8 r23.1.Own.x5, .int .i64 r23.1.Seq, .ro 7 r23.1.Seen.length false (enR c_TForwardMark r23.1.Seen), .ro 12 r23.1.Nexts.length false (enR c_TForwardHop r23.1.Nexts)]), .dead, .dead, .dead, .row 80 40 e.length (enR c_Ttravel e)]) H ?_ (fun s o H hn1_3 hn2_3 => ?_) (fun w3_3 H => ?_)
      · refine SubF_of ⟨[some 0, some 1, some 2, some 3, some 4, some 5, none], ?_, ?_, by rfl, by rfl⟩
        · simp [CvL, Cv, getM, tp]
        · exact ⟨CvB_dead, (CvB_same nfA), (CvB_same nfA), CvB_dead, CvB_dead, cv, CvB_none, trivial⟩
      · obtain ⟨v3_1, v3_2⟩ := s
        unfold F7_L3 at H
        try dsimp only at H ⊢
        try simp only [tp]
        refine seqM ?_
        refine sq ctNo_ok ?_
        simp only [go_sem, Nat.reduceLeDiff, Nat.reduceLT, Nat.reduceAdd, Nat.reduceMul, Nat.reduceSub, Nat.reduceEqDiff, Nat.reduceBEq, Int.reduceToNat, reduceCtorEq]
        refine condM' rfl trivial (fun hc => ?_) (fun hc => ?_)
        · replace H := cond_f hc H
          refine rg ctNo_ok ?_
          simp only [go_sem, Nat.reduceLeDiff, Nat.reduceLT, Nat.reduceAdd, Nat.reduceMul, Nat.reduceSub, Nat.reduceEqDiff, Nat.reduceBEq, Int.reduceToNat, reduceCtorEq]
          refine ⟨_, (Option.some.inj H).symm, ?_⟩
          refine SubF_of ⟨[some 0, some 1, some 2, some 3, some 4, some 5, some 6], ?_, ?_, by rfl, by rfl⟩
          · simp [CvL, Cv, getM, tp]
          · exact ⟨CvB_dead, (CvB_same nfA), (CvB_same nfA), CvB_dead, CvB_dead, CvB_dead, CvB_row nr_Ttravel cl (fun _ _ _ _ => rfl), trivial⟩
        replace H := cond_t hc H
        refine rg ctNo_ok ?_
        simp only [go_sem, Nat.reduceLeDiff, Nat.reduceLT, Nat.reduceAdd, Nat.reduceMul, Nat.reduceSub, Nat.reduceEqDiff, Nat.reduceBEq, Int.reduceToNat, reduceCtorEq]
        refine seqM ?_
        refine blkM ?_
        refine seqM ?_
        obtain ⟨f27, H⟩ := need_some.1 H
        replace f27 := inb_iff.1 f27
        obtain ⟨f28, H⟩ := need_some.1 H
        replace f28 := inb_iff.1 f28
        obtain ⟨f29, H⟩ := need_some.1 H
        replace f29 := decide_eq_true_iff.1 f29
        refine rg ctNo_ok ?_
        simp only [go_sem, Nat.reduceLeDiff, Nat.reduceLT, Nat.reduceAdd, Nat.reduceMul, Nat.reduceSub, Nat.reduceEqDiff, Nat.reduceBEq, Int.reduceToNat, reduceCtorEq, f27, f28, f29]
        repeat ((with_reducible refine And.intro ?_ ?_); focus exact an4)
        refine condM' rfl trivial (fun hc => ?_) (fun hc => ?_)
        · replace H := cond_f hc H
          refine rg ctNo_ok ?_
          simp only [go_sem, Nat.reduceLeDiff, Nat.reduceLT, Nat.reduceAdd, Nat.reduceMul, Nat.reduceSub, Nat.reduceEqDiff, Nat.reduceBEq, Int.reduceToNat, reduceCtorEq]
          refine rg ctNo_ok ?_
          simp only [go_sem, Nat.reduceLeDiff, Nat.reduceLT, Nat.reduceAdd, Nat.reduceMul, Nat.reduceSub, Nat.reduceEqDiff, Nat.reduceBEq, Int.reduceToNat, reduceCtorEq]
          refine ⟨_, (Option.some.inj H).symm, ?_⟩
          refine SubF_of ⟨[some 0, some 1, some 2, some 3, some 4, some 5, some 6], ?_, ?_, by rfl, by rfl⟩
          · simp [CvL, Cv, getM, tp]
          · exact ⟨CvB_dead, (CvB_same nfA), (CvB_same nfA), CvB_dead, CvB_dead, cv, CvB_row nr_Ttravel cl (fun _ _ _ _ => rfl), trivial⟩
        replace H := cond_t hc H
        obtain ⟨f30, H⟩ := need_some.1 H
        replace f30 := capb_iff.1 f30
        refine rg ctNo_ok ?_
        simp only [go_sem, Nat.reduceLeDiff, Nat.reduceLT, Nat.reduceAdd, Nat.reduceMul, Nat.reduceSub, Nat.reduceEqDiff, Nat.reduceBEq, Int.reduceToNat, reduceCtorEq, f30]
        repeat ((with_reducible refine And.intro ?_ ?_); focus exact an3)
        refine rg ctNo_ok ?_
        simp only [go_sem, Nat.reduceLeDiff, Nat.reduceLT, Nat.reduceAdd, Nat.reduceMul, Nat.reduceSub, Nat.reduceEqDiff, Nat.reduceBEq, Int.reduceToNat, reduceCtorEq]
        refine ⟨_, (Option.some.inj H).symm, ?_⟩
        refine SubF_of ⟨[some 0, some 1, some 2, some 3, some 4, some 5, some 8], ?_, ?_, by rfl, by rfl⟩
        · simp [CvL, Cv, getM, tp]
        · exact ⟨CvB_dead, (CvB_same nfA), (CvB_same nfA), CvB_dead, CvB_dead, cv, CvB_row nr_Ttravel cl (app_row (f := c_Ttravel) v3_1 [(Ttravel.mk v3_2 (TMeshFrame.mk (A6u8.mk r23.2.1.From.x0 r23.2.1.From.x1 r23.2.1.From.x2 r23.2.1.From.x3 r23.2.1.From.x4 r23.2.1.From.x5) (A6u8.mk r23.2.1.To.x0 r23.2.1.To.x1 r23.2.1.To.x2 r23.2.1.To.x3 r23.2.1.To.x4 r23.2.1.To.x5) (A6u8.mk r23.2.1.Enter.x0 r23.2.1.Enter.x1 r23.2.1.Enter.x2 r23.2.1.Enter.x3 r23.2.1.Enter.x4 r23.2.1.Enter.x5) (A6u8.mk r23.2.1.Leave.x0 r23.2.1.Leave.x1 r23.2.1.Leave.x2 r23.2.1.Leave.x3 r23.2.1.Leave.x4 r23.2.1.Leave.x5) (A6u8.mk r23.2.1.Source.x0 r23.2.1.Source.x1 r23.2.1.Source.x2 r23.2.1.Source.x3 r23.2.1.Source.x4 r23.2.1.Source.x5) (A6u8.mk r23.2.1.Target.x0 r23.2.1.Target.x1 r23.2.1.Target.x2 r23.2.1.Target.x3 r23.2.1.Target.x4 r23.2.1.Target.x5) r23.2.1.Seq r23.2.1.Ttl r23.2.1.Data))] (fun _ _ _ _ => rfl) (lit_row (f := c_Ttravel) [(Ttravel.mk v3_2 (TMeshFrame.mk (A6u8.mk r23.2.1.From.x0 r23.2.1.From.x1 r23.2.1.From.x2 r23.2.1.From.x3 r23.2.1.From.x4 r23.2.1.From.x5) (A6u8.mk r23.2.1.To.x0 r23.2.1.To.x1 r23.2.1.To.x2 r23.2.1.To.x3 r23.2.1.To.x4 r23.2.1.To.x5) (A6u8.mk r23.2.1.Enter.x0 r23.2.1.Enter.x1 r23.2.1.Enter.x2 r23.2.1.Enter.x3 r23.2.1.Enter.x4 r23.2.1.Enter.x5) (A6u8.mk r23.2.1.Leave.x0 r23.2.1.Leave.x1 r23.2.1.Leave.x2 r23.2.1.Leave.x3 r23.2.1.Leave.x4 r23.2.1.Leave.x5) (A6u8.mk r23.2.1.Source.x0 r23.2.1.Source.x1 r23.2.1.Source.x2 r23.2.1.Source.x3 r23.2.1.Source.x4 r23.2.1.Source.x5) (A6u8.mk r23.2.1.Target.x0 r23.2.1.Target.x1 r23.2.1.Target.x2 r23.2.1.Target.x3 r23.2.1.Target.x4 r23.2.1.Target.x5) r23.2.1.Seq r23.2.1.Ttl r23.2.1.Data))] (fun _ _ => rfl) rfl)), trivial⟩
      · try dsimp only at H ⊢
        try simp only [tp]
        try simp only [m_normal, k_normal, b_normal, kL_normal, r_normal]
        refine seqM ?_
        refine regO ?_
        refine cutO shT_ok ctNo_ok 0 ?_
        simp only [kO_normal, List.take_succ_cons, List.take_zero, List.drop_succ_cons, List.drop_zero, go_sem, Nat.reduceLeDiff, Nat.reduceLT, Nat.reduceAdd, Nat.reduceMul, Nat.reduceSub, Nat.reduceEqDiff, Nat.reduceBEq, Int.reduceToNat, reduceCtorEq]
        obtain ⟨w31, hw32, H⟩ := bsi H
        replace hw32 := Option.some.inj hw32
        have lhw32 : w31.length = 8 := by rw [← hw32]; exact List.length_replicate
        refine allocO shT_ok ctNo_ok (len := w31.length) (z := 1) (l := (List.replicate 8 (c_i64 0)).flatten) (c := enR c_i64 w31) rfl rfl rfl (by kernel_rfl) (by rw [lhw32]; exact flat_len) (fun x y hx hy => by subst hw32; exact arr_rep rfl x y (by simpa using hx) hy) ?_
        simp only [go_sem, Nat.reduceLeDiff, Nat.reduceLT, Nat.reduceAdd, Nat.reduceMul, Nat.reduceSub, Nat.reduceEqDiff, Nat.reduceBEq, Int.reduceToNat, reduceCtorEq]
        refine cutO shT_ok ctNo_ok 0 ?_
        simp only [kO_normal, List.take_succ_cons, List.take_zero, List.drop_succ_cons, List.drop_zero, go_sem, Nat.reduceLeDiff, Nat.reduceLT, Nat.reduceAdd, Nat.reduceMul, Nat.reduceSub, Nat.reduceEqDiff, Nat.reduceBEq, Int.reduceToNat, reduceCtorEq]
        refine endO ?_
        refine seqM ?_
        refine sq ctNo_ok ?_
        simp only [go_sem, Nat.reduceLeDiff, Nat.reduceLT, Nat.reduceAdd, Nat.reduceMul, Nat.reduceSub, Nat.reduceEqDiff, Nat.reduceBEq, Int.reduceToNat, reduceCtorEq]
        refine blkM ?_
        refine loop_den (fun s : (List TForward) × (List Ttravel) × (List Int) × Int => (.top :: .top :: .ro 1 p2.length false (enR c_i64 p2) :: tp 4 (.bool r1 :: .ptr 1 1 0 0 :: .top :: .top :: .top :: .int .i64 (wr .i64 (p1.tmod 8)) :: .ptr 8 9 0 0 :: .top :: .top :: .top :: .sl 9 40 0 s.2.1.length false :: .top :: .ptr 10 1 0 0 :: .int .i64 s.2.2.2 :: tp 225 []))) (fun s => [.dead, .row 76 1 w1_4.length (enR c_b w1_4), .dead, .dead, .dead, .dead, .dead, .dead, .row 62 9 s.1.length (enR c_TForward s.1), .row 80 40 s.2.1.length (enR c_Ttravel s.2.1), .row 64 1 s.2.2.1.length (enR c_i64 s.2.2.1)]) (fun e : List Int => (tp 7 (.bool r1 :: .ptr 1 1 0 0 :: .top :: .top :: .top :: .int .i64 (wr .i64 (p1.tmod 8)) :: tp 6 (.ptr 8 1 0 0 :: tp 226 [])))) (fun e => [.dead, .row 76 1 w1_4.length (enR c_b w1_4), .dead, .dead, .dead, .dead, .dead, .dead, .row 64 1 e.length (enR c_i64 e)]) H ?_ (fun s o H hn1_4 hn2_4 => ?_) (fun w4_5 H => ?_)
        · refine SubF_of ⟨[some 0, some 1, some 2, some 3, some 4, some 5, some 6, some 7, some 2, some 6, some 7], ?_, ?_, by rfl, by rfl⟩
          · simp [CvL, Cv, getM, tp]
          · exact ⟨CvB_dead, (CvB_same nfA), CvB_dead, CvB_dead, CvB_dead, CvB_dead, CvB_dead, CvB_dead, CvB_row nr_TForward cl (upc_row (f := c_TForward) w15 ((wr .i64 (p1.tmod 8)).toNat) 0 r23.1 (fun _ _ _ _ => rfl) (fun y hy => match y, hy with | 0, _ => rfl | 1, _ => rfl | 2, _ => rfl | 3, _ => rfl | 4, _ => rfl | 5, _ => rfl | 6, _ => rfl | 7, _ => rfl | 8, _ => rfl | (y+9), h => absurd h nlt)), CvB_row nr_Ttravel cl (fun _ _ _ _ => rfl), CvB_row nr_i64 cl (fun _ _ _ _ => rfl), trivial⟩
        · obtain ⟨v4_1, v4_2, v4_3, v4_4⟩ := s
          unfold F7_L4 at H
          try dsimp only at H ⊢
          try simp only [tp]
          refine seqM ?_
          refine sq ctNo_ok ?_
          simp only [go_sem, Nat.reduceLeDiff, Nat.reduceLT, Nat.reduceAdd, Nat.reduceMul, Nat.reduceSub, Nat.reduceEqDiff, Nat.reduceBEq, Int.reduceToNat, reduceCtorEq]
          repeat ((with_reducible refine And.intro ?_ ?_); focus exact an0)
          refine condM' rfl trivial (fun hc => ?_) (fun hc => ?_)
          · replace H := cond_f hc H
            refine rg ctNo_ok ?_
            simp only [go_sem, Nat.reduceLeDiff, Nat.reduceLT, Nat.reduceAdd, Nat.reduceMul, Nat.reduceSub, Nat.reduceEqDiff, Nat.reduceBEq, Int.reduceToNat, reduceCtorEq]
            refine ⟨_, (Option.some.inj H).symm, ?_⟩
            refine SubF_of ⟨[some 0, some 1, some 2, some 3, some 4, some 5, some 6, some 7, some 10], ?_, ?_, by rfl, by rfl⟩
            · simp [CvL, Cv, getM, tp]
            · exact ⟨CvB_dead, (CvB_same nfA), CvB_dead, CvB_dead, CvB_dead, CvB_dead, CvB_dead, CvB_dead, CvB_row nr_i64 cl (fun _ _ _ _ => rfl), trivial⟩
          replace H := cond_t hc H
          refine rg ctNo_ok ?_
          simp only [go_sem, Nat.reduceLeDiff, Nat.reduceLT, Nat.reduceAdd, Nat.reduceMul, Nat.reduceSub, Nat.reduceEqDiff, Nat.reduceBEq, Int.reduceToNat, reduceCtorEq]
          refine seqM ?_
          refine blkM ?_
          refine seqM ?_
          refine sq ctNo_ok ?_
          simp only [go_sem, Nat.reduceLeDiff, Nat.reduceLT, Nat.reduceAdd, Nat.reduceMul, Nat.reduceSub, Nat.reduceEqDiff, Nat.reduceBEq, Int.reduceToNat, reduceCtorEq]
          refine condM rfl trivial (fun hc => ?_) (fun hc => ?_)
          · replace H := cond_t hc H
            refine sq ctNo_ok ?_
            simp only [go_sem, Nat.reduceLeDiff, Nat.reduceLT, Nat.reduceAdd, Nat.reduceMul, Nat.reduceSub, Nat.reduceEqDiff, Nat.reduceBEq, Int.reduceToNat, reduceCtorEq]
            refine rg ctNo_ok ?_
            simp only [go_sem, Nat.reduceLeDiff, Nat.reduceLT, Nat.reduceAdd, Nat.reduceMul, Nat.reduceSub, Nat.reduceEqDiff, Nat.reduceBEq, Int.reduceToNat, reduceCtorEq]
            have H := hn2_4 _ (Option.some.inj H).symm
            obtain rfl := Option.some.inj H
            first | rfl | simp only [Bool.and_false, Bool.false_and, Bool.and_true, Bool.true_and]
          replace H := cond_f hc H
          refine rg ctNo_ok ?_
          simp only [go_sem, Nat.reduceLeDiff, Nat.reduceLT, Nat.reduceAdd, Nat.reduceMul, Nat.reduceSub, Nat.reduceEqDiff, Nat.reduceBEq, Int.reduceToNat, reduceCtorEq]
          refine sq ctNo_ok ?_
          simp only [go_sem, Nat.reduceLeDiff, Nat.reduceLT, Nat.reduceAdd, Nat.reduceMul, Nat.reduceSub, Nat.reduceEqDiff, Nat.reduceBEq, Int.reduceToNat, reduceCtorEq]
          refine seqM ?_
          refine seqM ?_
          obtain ⟨f33, H⟩ := need_some.1 H
          replace f33 := g_iff.1 f33
          replace f33 := fun g => inb_iff.1 (f33 g)
          refine rg ctNo_ok ?_
          simp only [go_sem, Nat.reduceLeDiff, Nat.reduceLT, Nat.reduceAdd, Nat.reduceMul, Nat.reduceSub, Nat.reduceEqDiff, Nat.reduceBEq, Int.reduceToNat, reduceCtorEq]
          repeat ((with_reducible refine And.intro ?_ ?_); focus (first | (with_reducible trivial) | omega | exact f33 | (intro g; have q := f33 (by first | exact g | (rw [g]; rfl) | simpa using g); first | exact q | exact ⟨q.1, q.2.1⟩ | exact q.2.2 | omega | exact ⟨g, q⟩ | exact ⟨trivial, q⟩ | exact ⟨g, q.1, q.2.1⟩ | exact ⟨g, q.2.2⟩) | (intro g; (try have q0 := f33 (by first | exact g | (rw [g]; rfl) | simpa using g)); and_intros <;> first | (with_reducible trivial) | assumption | exact nfc | (intro g2; rw [g, g2]; rfl) | (intro g2; assumption) | (simp only [g, Bool.true_and, Bool.and_true, Bool.not_false, Bool.not_true]; assumption) | grind) | (and_intros <;> first | (with_reducible trivial) | omega | assumption | exact nfc | first | exact rfl | exact trivial | exact fitI | exact .inr rfl | exact .inl rfl | exact fun x hx => absurd hx (by omega)) | grind))
          refine join_den (fun e : Int => (.top :: .top :: .ro 1 p2.length false (enR c_i64 p2) :: tp 4 (.bool r1 :: .ptr 1 1 0 0 :: .top :: .top :: .top :: .int .i64 (wr .i64 (p1.tmod 8)) :: .ptr 8 9 0 0 :: .top :: .top :: .top :: .sl 9 40 0 v4_2.length false :: .top :: .ptr 10 1 0 0 :: .int .i64 v4_4 :: .int .i64 e :: tp 224 []))) (fun e => [.dead, .row 76 1 w1_4.length (enR c_b w1_4), .dead, .dead, .dead, .dead, .dead, .dead, .row 62 9 v4_1.length (enR c_TForward v4_1), .row 80 40 v4_2.length (enR c_Ttravel v4_2), .row 64 1 v4_3.length (enR c_i64 v4_3)]) H (fun o H hn1_5 hn2_5 => ?_) (fun w5_2 H => ?_)
          · unfold F7_L5 at H
            try dsimp only at H ⊢
            try simp only [tp]
            refine condM' rfl trivial (fun hc => ?_) (fun hc => ?_)
            · replace H := cond_f hc H
              refine rg ctNo_ok ?_
              simp only [go_sem, Nat.reduceLeDiff, Nat.reduceLT, Nat.reduceAdd, Nat.reduceMul, Nat.reduceSub, Nat.reduceEqDiff, Nat.reduceBEq, Int.reduceToNat, reduceCtorEq]
              refine ⟨_, (Option.some.inj H).symm, ?_⟩
              refine SubF_of ⟨[some 0, some 1, some 2, some 3, some 4, some 5, some 6, some 7, some 8, some 9, some 10], ?_, ?_, by rfl, by rfl⟩
              · simp [CvL, Cv, getM, tp]
              · exact ⟨CvB_dead, (CvB_same nfA), CvB_dead, CvB_dead, CvB_dead, CvB_dead, CvB_dead, CvB_dead, (CvB_same nfA), (CvB_same nfA), (CvB_same nfA), trivial⟩
            replace H := cond_t hc H
            obtain ⟨f34, H⟩ := need_some.1 H
            replace f34 := inb_iff.1 f34
            obtain ⟨f35, H⟩ := need_some.1 H
            replace f35 := ne0_iff.1 f35
            refine rg ctNo_ok ?_
            simp only [go_sem, Nat.reduceLeDiff, Nat.reduceLT, Nat.reduceAdd, Nat.reduceMul, Nat.reduceSub, Nat.reduceEqDiff, Nat.reduceBEq, Int.reduceToNat, reduceCtorEq, f34, f35]
            repeat ((with_reducible refine And.intro ?_ ?_); focus exact an0)
            refine ⟨_, (Option.some.inj H).symm, ?_⟩
            refine SubF_of ⟨[some 0, some 1, some 2, some 3, some 4, some 5, some 6, some 7, some 8, some 9, some 10], ?_, ?_, by rfl, by rfl⟩
            · simp [CvL, Cv, getM, tp]
            · exact ⟨CvB_dead, (CvB_same nfA), CvB_dead, CvB_dead, CvB_dead, CvB_dead, CvB_dead, CvB_dead, (CvB_same nfA), (CvB_same nfA), (CvB_same nfA), trivial⟩
          · try dsimp only at H ⊢
            try simp only [tp]
            try simp only [m_normal, k_normal, b_normal, kL_normal, r_normal]
            refine seqM ?_
            obtain ⟨f36, H⟩ := need_some.1 H
            replace f36 := inb_iff.1 f36
            refine rg ctNo_ok ?_
            simp only [go_sem, Nat.reduceLeDiff, Nat.reduceLT, Nat.reduceAdd, Nat.reduceMul, Nat.reduceSub, Nat.reduceEqDiff, Nat.reduceBEq, Int.reduceToNat, reduceCtorEq, f36]
            repeat ((with_reducible refine And.intro ?_ ?_); focus exact an4)
            refine seqM ?_
            obtain ⟨f37, H⟩ := need_some.1 H
            replace f37 := slb_iff.1 f37
            obtain ⟨f38, H⟩ := need_some.1 H
            replace f38 := capb_iff.1 f38
            obtain ⟨f39, H⟩ := need_some.1 H
            replace f39 := slb_iff.1 f39
            obtain ⟨f40, H⟩ := need_some.1 H
            replace f40 := capb_iff.1 f40
            refine draw_rule shT_ok ctNo_ok 3 (by kernel_rfl) (by kernel_rfl) ?_
            intro an han
            simp only [d_nil, d_cons, nxtD, xrD, xoD, roEq, minL, List.append_nil, refsOp, refs, refsL, mask, maskF, place, placeF, okLog, pairOk, hit, inL, slotsF, ren, renL, rnN, nrH, nrB, nrL, nr, dead0, deadS, List.replicate_zero, List.replicate_succ, Nat.sub_self, Nat.add_zero, Nat.zero_add, Nat.reduceSub, Nat.not_lt_zero, Nat.zero_le, Nat.lt_add_one, go_sem, Nat.reduceLeDiff, Nat.reduceLT, Nat.reduceAdd, Nat.reduceMul, Nat.reduceSub, Nat.reduceEqDiff, Nat.reduceBEq, Int.reduceToNat, reduceCtorEq, f37, f38, f39, f40]
            repeat ((with_reducible refine And.intro ?_ ?_); focus exact an5)
            refine seqM ?_
            refine rb_mean 9 (wr .i64 (w5_2 + 1)).toNat (v4_2.length - (wr .i64 (w5_2 + 1)).toNat) (by rfl) ?_ ?_
            · first | omega | (simp only [slb_iff] at *; omega)
            simp only [List.length_cons, List.length_nil, Nat.zero_mul, Nat.add_zero, rbV, rbL, rbH, rbHF, rbB, cond_true, cond_false, Bool.and_false, Bool.and_true, Bool.false_and, Bool.true_and, Nat.reduceEqDiff, Nat.reduceBEq, beq_self_eq_true, Nat.reduceAdd, Nat.zero_add, List.cons_append, List.nil_append, sub_enR]
            obtain ⟨w41, hw42, H⟩ := bsi H
            replace hw42 := Option.some.inj hw42
            have lhw42 : w41.length = w5_2.toNat + (v4_2.length - (wr .i64 (w5_2 + 1)).toNat) := by rw [← hw42]; exact (app_len (show (List.take w5_2.toNat v4_2).length = w5_2.toNat from (by have : v4_2.length = v4_2.length := cl; rw [List.length_take]; omega)) (by have : v4_2.length = v4_2.length := cl; rw [List.length_take, List.length_drop]; omega))
            obtain ⟨w43, hw44, H⟩ := bsi H
            replace hw44 := Option.some.inj hw44
            have lhw44 : w43.length = v4_2.length - (wr .i64 (w5_2 + 1)).toNat := by rw [← hw44]; exact (by rw [List.length_drop]; first | done | omega)
            refine subF_mean (t2 := (.top :: .top :: .ro 1 p2.length false (enR c_i64 p2) :: tp 4 (.bool r1 :: .ptr 1 1 0 0 :: .top :: .top :: .top :: .int .i64 (wr .i64 (p1.tmod 8)) :: .ptr 8 9 0 0 :: .top :: .top :: .top :: .sl 14 40 0 w41.length false :: .top :: .ptr 10 1 0 0 :: .int .i64 v4_4 :: .top :: .ptr 11 0 0 0 :: tp 223 []))) (h2 := [.dead, .row 76 1 w1_4.length (enR c_b w1_4), .dead, .dead, .dead, .dead, .dead, .dead, .row 62 9 v4_1.length (enR c_TForward v4_1), .dead, .row 64 1 v4_3.length (enR c_i64 v4_3), .lit 80 (.int .i64 ((gd v4_2 w5_2.toNat).to_) :: .int .u8 ((((gd v4_2 w5_2.toNat).m).From).x0) :: .int .u8 ((((gd v4_2 w5_2.toNat).m).From).x1) :: .int .u8 ((((gd v4_2 w5_2.toNat).m).From).x2) :: .int .u8 ((((gd v4_2 w5_2.toNat).m).From).x3) :: .int .u8 ((((gd v4_2 w5_2.toNat).m).From).x4) :: .int .u8 ((((gd v4_2 w5_2.toNat).m).From).x5) :: .int .u8 ((((gd v4_2 w5_2.toNat).m).To).x0) :: .int .u8 ((((gd v4_2 w5_2.toNat).m).To).x1) :: .int .u8 ((((gd v4_2 w5_2.toNat).m).To).x2) :: .int .u8 ((((gd v4_2 w5_2.toNat).m).To).x3) :: .int .u8 ((((gd v4_2 w5_2.toNat).m).To).x4) :: .int .u8 ((((gd v4_2 w5_2.toNat).m).To).x5) :: .int .u8 ((((gd v4_2 w5_2.toNat).m).Enter).x0) :: .int .u8 ((((gd v4_2 w5_2.toNat).m).Enter).x1) :: .int .u8 ((((gd v4_2 w5_2.toNat).m).Enter).x2) :: .int .u8 ((((gd v4_2 w5_2.toNat).m).Enter).x3) :: .int .u8 ((((gd v4_2 w5_2.toNat).m).Enter).x4) :: .int .u8 ((((gd v4_2 w5_2.toNat).m).Enter).x5) :: .int .u8 ((((gd v4_2 w5_2.toNat).m).Leave).x0) :: .int .u8 ((((gd v4_2 w5_2.toNat).m).Leave).x1) :: .int .u8 ((((gd v4_2 w5_2.toNat).m).Leave).x2) :: .int .u8 ((((gd v4_2 w5_2.toNat).m).Leave).x3) :: .int .u8 ((((gd v4_2 w5_2.toNat).m).Leave).x4) :: .int .u8 ((((gd v4_2 w5_2.toNat).m).Leave).x5) :: .int .u8 ((((gd v4_2 w5_2.toNat).m).Source).x0) :: .int .u8 ((((gd v4_2 w5_2.toNat).m).Source).x1) :: .int .u8 ((((gd v4_2 w5_2.toNat).m).Source).x2) :: .int .u8 ((((gd v4_2 w5_2.toNat).m).Source).x3) :: .int .u8 ((((gd v4_2 w5_2.toNat).m).Source).x4) :: .int .u8 ((((gd v4_2 w5_2.toNat).m).Source).x5) :: .int .u8 ((((gd v4_2 w5_2.toNat).m).Target).x0) :: .int .u8 ((((gd v4_2 w5_2.toNat).m).Target).x1) :: .int .u8 ((((gd v4_2 w5_2.toNat).m).Target).x2) :: .int .u8 ((((gd v4_2 w5_2.toNat).m).Target).x3) :: .int .u8 ((((gd v4_2 w5_2.toNat).m).Target).x4) :: .int .u8 ((((gd v4_2 w5_2.toNat).m).Target).x5) :: .int .i64 (((gd v4_2 w5_2.toNat).m).Seq) :: .int .i64 (((gd v4_2 w5_2.toNat).m).Ttl) :: .ro 1 ((((gd v4_2 w5_2.toNat).m).Data).length) false (enR c_u8 (((gd v4_2 w5_2.toNat).m).Data)) :: []), .dead, .dead, .row 80 40 w41.length (enR c_Ttravel w41), .row 80 40 w43.length (enR c_Ttravel w43)]) ?_ ?_
            · refine SubF_of ⟨[some 0, some 1, some 2, some 3, some 4, some 5, some 6, some 7, some 8, some 9, some 10, some 11, some 12, some 13, some 14, some 15], ?_, ?_, by rfl, by rfl⟩
              · simp [CvL, Cv, getM, tp, lhw42, lhw44]
              · exact ⟨CvB_dead, CvB_row nr_b rfl (fun _ _ _ _ => rfl), CvB_dead, CvB_dead, CvB_dead, CvB_dead, CvB_dead, CvB_dead, CvB_row nr_TForward rfl (fun _ _ _ _ => rfl), CvB_dead, CvB_row nr_i64 rfl (fun _ _ _ _ => rfl), (by simp [CvB, CvL, Cv, blkAt, geth, getM, lhw42, lhw44]), CvB_dead, CvB_dead, CvB_row nr_Ttravel lhw42 (hw42 ▸ (app_row2 (show (List.take w5_2.toNat v4_2).length = w5_2.toNat from (by have : v4_2.length = v4_2.length := cl; rw [List.length_take]; omega)) (f := c_Ttravel) ([] ++ (List.take w5_2.toNat v4_2)) (List.take (v4_2.length - (wr .i64 (w5_2 + 1)).toNat) (List.drop ((wr .i64 (w5_2 + 1)).toNat) v4_2)) (app_row (f := c_Ttravel) [] (List.take w5_2.toNat v4_2) (lit_row (f := c_Ttravel) [] (fun _ _ => rfl) rfl) (preT_row (L := v4_2) (n := w5_2.toNat) (fun _ _ _ _ => rfl))) (by first | exact (partT_row (L := v4_2) (i := (wr .i64 (w5_2 + 1)).toNat) (n := (v4_2.length - (wr .i64 (w5_2 + 1)).toNat)) (by have : v4_2.length = v4_2.length := cl; omega) (fun _ _ _ _ => rfl)) | exact (preT_row (L := (List.drop ((wr .i64 (w5_2 + 1)).toNat) v4_2)) (n := (v4_2.length - (wr .i64 (w5_2 + 1)).toNat)) (fun _ _ _ _ => rfl))))), CvB_row nr_Ttravel lhw44 (hw44 ▸ (fun _ _ _ _ => rfl)), trivial⟩
            simp only [tp]
            obtain ⟨f45, H⟩ := need_some.1 H
            replace f45 := inb_iff.1 f45
            obtain ⟨f46, H⟩ := need_some.1 H
            replace f46 := inb_iff.1 f46
            obtain ⟨r47, e48, H⟩ := bsi H
            refine draw_rule shT_ok ct7t3_ok 2 (by kernel_rfl) (by kernel_rfl) ?_
            intro an han
            simp only [d_nil, d_cons, nxtD, xrD, xoD, roEq, minL, List.append_nil, refsOp, refs, refsL, mask, maskF, place, placeF, okLog, pairOk, hit, inL, slotsF, ren, renL, rnN, nrH, nrB, nrL, nr, dead0, deadS, List.replicate_zero, List.replicate_succ, Nat.sub_self, Nat.add_zero, Nat.zero_add, Nat.reduceSub, Nat.not_lt_zero, Nat.zero_le, Nat.lt_add_one, go_sem, Nat.reduceLeDiff, Nat.reduceLT, Nat.reduceAdd, Nat.reduceMul, Nat.reduceSub, Nat.reduceEqDiff, Nat.reduceBEq, Int.reduceToNat, reduceCtorEq, ct7t3_20, body20, f45, f46, e48]
            repeat ((with_reducible refine And.intro ?_ ?_); focus exact an1)
            refine seqM ?_
            refine sq ctNo_ok ?_
            simp only [go_sem, Nat.reduceLeDiff, Nat.reduceLT, Nat.reduceAdd, Nat.reduceMul, Nat.reduceSub, Nat.reduceEqDiff, Nat.reduceBEq, Int.reduceToNat, reduceCtorEq]
            refine condM rfl trivial (fun hc => ?_) (fun hc => ?_)
            · replace H := cond_t hc H
              refine sq ctNo_ok ?_
              simp only [go_sem, Nat.reduceLeDiff, Nat.reduceLT, Nat.reduceAdd, Nat.reduceMul, Nat.reduceSub, Nat.reduceEqDiff, Nat.reduceBEq, Int.reduceToNat, reduceCtorEq]
              refine rg ctNo_ok ?_
              simp only [go_sem, Nat.reduceLeDiff, Nat.reduceLT, Nat.reduceAdd, Nat.reduceMul, Nat.reduceSub, Nat.reduceEqDiff, Nat.reduceBEq, Int.reduceToNat, reduceCtorEq]
              have H := hn2_4 _ (Option.some.inj H).symm
              obtain rfl := Option.some.inj H
              first | rfl | simp only [Bool.and_false, Bool.false_and, Bool.and_true, Bool.true_and]
            replace H := cond_f hc H
            refine rg ctNo_ok ?_
            simp only [go_sem, Nat.reduceLeDiff, Nat.reduceLT, Nat.reduceAdd, Nat.reduceMul, Nat.reduceSub, Nat.reduceEqDiff, Nat.reduceBEq, Int.reduceToNat, reduceCtorEq]
            refine seqM ?_
            obtain ⟨f49, H⟩ := need_some.1 H
            replace f49 := inb_iff.1 f49
            obtain ⟨f50, H⟩ := need_some.1 H
            replace f50 := inb_iff.1 f50
            refine rg ctNo_ok ?_
            simp only [go_sem, Nat.reduceLeDiff, Nat.reduceLT, Nat.reduceAdd, Nat.reduceMul, Nat.reduceSub, Nat.reduceEqDiff, Nat.reduceBEq, Int.reduceToNat, reduceCtorEq, f49, f50]
            repeat ((with_reducible refine And.intro ?_ ?_); focus exact an4)
            refine seqM ?_
            refine sq ctNo_ok ?_
            simp only [go_sem, Nat.reduceLeDiff, Nat.reduceLT, Nat.reduceAdd, Nat.reduceMul, Nat.reduceSub, Nat.reduceEqDiff, Nat.reduceBEq, Int.reduceToNat, reduceCtorEq]
            repeat ((with_reducible refine And.intro ?_ ?_); focus exact an4)
            refine join_den (fun e : List Int => (.top :: .top :: .ro 1 p2.length false (enR c_i64 p2) :: tp 4 (.bool r1 :: .ptr 1 1 0 0 :: .top :: .top :: .top :: .int .i64 (wr .i64 (p1.tmod 8)) :: .ptr 8 9 0 0 :: .top :: .top :: .top :: .sl 14 40 0 w41.length false :: .top :: .ptr 18 1 0 0 :: .int .i64 v4_4 :: .top :: .ptr 11 0 0 0 :: .top :: .int .u8 r47.2.1 :: .ptr 17 0 0 0 :: tp 220 []))) (fun e => [.dead, .row 76 1 w1_4.length (enR c_b w1_4), .dead, .dead, .dead, .dead, .dead, .dead, .row 62 9 v4_1.length (upc (enR c_TForward v4_1) (((gd v4_2 w5_2.toNat).to_).toNat) 0 [.int .u8 r47.1.Own.x0, .int .u8 r47.1.Own.x1, .int .u8 r47.1.Own.x2, .int .u8 r47.1.Own.x3, .int .u8 r47.1.Own.x4, .int .u8 r47.1.Own.x5, .int .i64 r47.1.Seq, .ro 7 r47.1.Seen.length false (enR c_TForwardMark r47.1.Seen), .ro 12 r47.1.Nexts.length false (enR c_TForwardHop r47.1.Nexts)]), .dead, .dead, .lit 80 (.int .i64 ((gd v4_2 w5_2.toNat).to_) :: .int .u8 ((((gd v4_2 w5_2.toNat).m).From).x0) :: .int .u8 ((((gd v4_2 w5_2.toNat).m).From).x1) :: .int .u8 ((((gd v4_2 w5_2.toNat).m).From).x2) :: .int .u8 ((((gd v4_2 w5_2.toNat).m).From).x3) :: .int .u8 ((((gd v4_2 w5_2.toNat).m).From).x4) :: .int .u8 ((((gd v4_2 w5_2.toNat).m).From).x5) :: .int .u8 ((((gd v4_2 w5_2.toNat).m).To).x0) :: .int .u8 ((((gd v4_2 w5_2.toNat).m).To).x1) :: .int .u8 ((((gd v4_2 w5_2.toNat).m).To).x2) :: .int .u8 ((((gd v4_2 w5_2.toNat).m).To).x3) :: .int .u8 ((((gd v4_2 w5_2.toNat).m).To).x4) :: .int .u8 ((((gd v4_2 w5_2.toNat).m).To).x5) :: .int .u8 ((((gd v4_2 w5_2.toNat).m).Enter).x0) :: .int .u8 ((((gd v4_2 w5_2.toNat).m).Enter).x1) :: .int .u8 ((((gd v4_2 w5_2.toNat).m).Enter).x2) :: .int .u8 ((((gd v4_2 w5_2.toNat).m).Enter).x3) :: .int .u8 ((((gd v4_2 w5_2.toNat).m).Enter).x4) :: .int .u8 ((((gd v4_2 w5_2.toNat).m).Enter).x5) :: .int .u8 ((((gd v4_2 w5_2.toNat).m).Leave).x0) :: .int .u8 ((((gd v4_2 w5_2.toNat).m).Leave).x1) :: .int .u8 ((((gd v4_2 w5_2.toNat).m).Leave).x2) :: .int .u8 ((((gd v4_2 w5_2.toNat).m).Leave).x3) :: .int .u8 ((((gd v4_2 w5_2.toNat).m).Leave).x4) :: .int .u8 ((((gd v4_2 w5_2.toNat).m).Leave).x5) :: .int .u8 ((((gd v4_2 w5_2.toNat).m).Source).x0) :: .int .u8 ((((gd v4_2 w5_2.toNat).m).Source).x1) :: .int .u8 ((((gd v4_2 w5_2.toNat).m).Source).x2) :: .int .u8 ((((gd v4_2 w5_2.toNat).m).Source).x3) :: .int .u8 ((((gd v4_2 w5_2.toNat).m).Source).x4) :: .int .u8 ((((gd v4_2 w5_2.toNat).m).Source).x5) :: .int .u8 ((((gd v4_2 w5_2.toNat).m).Target).x0) :: .int .u8 ((((gd v4_2 w5_2.toNat).m).Target).x1) :: .int .u8 ((((gd v4_2 w5_2.toNat).m).Target).x2) :: .int .u8 ((((gd v4_2 w5_2.toNat).m).Target).x3) :: .int .u8 ((((gd v4_2 w5_2.toNat).m).Target).x4) :: .int .u8 ((((gd v4_2 w5_2.toNat).m).Target).x5) :: .int .i64 (((gd v4_2 w5_2.toNat).m).Seq) :: .int .i64 (((gd v4_2 w5_2.toNat).m).Ttl) :: .ro 1 ((((gd v4_2 w5_2.toNat).m).Data).length) false (enR c_u8 (((gd v4_2 w5_2.toNat).m).Data)) :: []), .dead, .dead, .row 80 40 w41.length (enR c_Ttravel w41), .dead, .dead, .lit 26 (.int .u8 r47.2.2.1.From.x0 :: .int .u8 r47.2.2.1.From.x1 :: .int .u8 r47.2.2.1.From.x2 :: .int .u8 r47.2.2.1.From.x3 :: .int .u8 r47.2.2.1.From.x4 :: .int .u8 r47.2.2.1.From.x5 :: .int .u8 r47.2.2.1.To.x0 :: .int .u8 r47.2.2.1.To.x1 :: .int .u8 r47.2.2.1.To.x2 :: .int .u8 r47.2.2.1.To.x3 :: .int .u8 r47.2.2.1.To.x4 :: .int .u8 r47.2.2.1.To.x5 :: .int .u8 r47.2.2.1.Enter.x0 :: .int .u8 r47.2.2.1.Enter.x1 :: .int .u8 r47.2.2.1.Enter.x2 :: .int .u8 r47.2.2.1.Enter.x3 :: .int .u8 r47.2.2.1.Enter.x4 :: .int .u8 r47.2.2.1.Enter.x5 :: .int .u8 r47.2.2.1.Leave.x0 :: .int .u8 r47.2.2.1.Leave.x1 :: .int .u8 r47.2.2.1.Leave.x2 :: .int .u8 r47.2.2.1.Leave.x3 :: .int .u8 r47.2.2.1.Leave.x4 :: .int .u8 r47.2.2.1.Leave.x5 :: .int .u8 r47.2.2.1.Source.x0 :: .int .u8 r47.2.2.1.Source.x1 :: .int .u8 r47.2.2.1.Source.x2 :: .int .u8 r47.2.2.1.Source.x3 :: .int .u8 r47.2.2.1.Source.x4 :: .int .u8 r47.2.2.1.Source.x5 :: .int .u8 r47.2.2.1.Target.x0 :: .int .u8 r47.2.2.1.Target.x1 :: .int .u8 r47.2.2.1.Target.x2 :: .int .u8 r47.2.2.1.Target.x3 :: .int .u8 r47.2.2.1.Target.x4 :: .int .u8 r47.2.2.1.Target.x5 :: .int .i64 r47.2.2.1.Seq :: .int .i64 r47.2.2.1.Ttl :: .ro 1 r47.2.2.1.Data.length false (enR c_u8 r47.2.2.1.Data) :: []), .row 64 1 e.length (enR c_i64 e)]) H (fun o H hn1_6 hn2_6 => ?_) (fun w6_2 H => ?_)
            · unfold F7_L6 at H
              try dsimp only at H ⊢
              try simp only [tp]
              refine condM' rfl trivial (fun hc => ?_) (fun hc => ?_)
              · replace H := cond_f hc H
                refine rg ctNo_ok ?_
                simp only [go_sem, Nat.reduceLeDiff, Nat.reduceLT, Nat.reduceAdd, Nat.reduceMul, Nat.reduceSub, Nat.reduceEqDiff, Nat.reduceBEq, Int.reduceToNat, reduceCtorEq]
                refine ⟨_, (Option.some.inj H).symm, ?_⟩
                refine SubF_of ⟨[some 0, some 1, some 2, some 3, some 4, some 5, some 6, some 7, some 8, some 9, some 10, some 11, some 12, some 13, some 14, some 15, some 16, some 17, some 10], ?_, ?_, by rfl, by rfl⟩
                · simp [CvL, Cv, getM, tp]
                · exact ⟨CvB_dead, (CvB_same nfA), CvB_dead, CvB_dead, CvB_dead, CvB_dead, CvB_dead, CvB_dead, (CvB_same nfA), CvB_dead, CvB_dead, cv, CvB_dead, CvB_dead, (CvB_same nfA), CvB_dead, CvB_dead, cv, CvB_row nr_i64 cl (fun _ _ _ _ => rfl), trivial⟩
              replace H := cond_t hc H
              obtain ⟨f51, H⟩ := need_some.1 H
              replace f51 := inb_iff.1 f51
              obtain ⟨f52, H⟩ := need_some.1 H
              replace f52 := inb_iff.1 f52
              obtain ⟨f53, H⟩ := need_some.1 H
              replace f53 := inb_iff.1 f53
              obtain ⟨f54, H⟩ := need_some.1 H
              replace f54 := inb_iff.1 f54
              refine rg ctNo_ok ?_
              simp only [go_sem, Nat.reduceLeDiff, Nat.reduceLT, Nat.reduceAdd, Nat.reduceMul, Nat.reduceSub, Nat.reduceEqDiff, Nat.reduceBEq, Int.reduceToNat, reduceCtorEq, f51, f52, f53, f54]
              repeat ((with_reducible refine And.intro ?_ ?_); focus exact an4)
              refine ⟨_, (Option.some.inj H).symm, ?_⟩
              refine SubF_of ⟨[some 0, some 1, some 2, some 3, some 4, some 5, some 6, some 7, some 8, some 9, some 10, some 11, some 12, some 13, some 14, some 15, some 16, some 17, some 10], ?_, ?_, by rfl, by rfl⟩
              · simp [CvL, Cv, getM, tp]
              · exact ⟨CvB_dead, (CvB_same nfA), CvB_dead, CvB_dead, CvB_dead, CvB_dead, CvB_dead, CvB_dead, (CvB_same nfA), CvB_dead, CvB_dead, cv, CvB_dead, CvB_dead, (CvB_same nfA), CvB_dead, CvB_dead, cv, CvB_row nr_i64 cl (upc_row (f := c_i64) v4_3 (((gd v4_2 w5_2.toNat).to_).toNat) 0 (wr .i64 ((gd v4_3 (((gd v4_2 w5_2.toNat).to_).toNat)) + 1)) (fun _ _ _ _ => rfl) (fun y hy => match y, hy with | 0, _ => rfl | (y+1), h => absurd h nlt)), trivial⟩
            · try dsimp only at H ⊢
              try simp only [tp]
              try simp only [m_normal, k_normal, b_normal, kL_normal, r_normal]
              refine sq ctNo_ok ?_
              simp only [go_sem, Nat.reduceLeDiff, Nat.reduceLT, Nat.reduceAdd, Nat.reduceMul, Nat.reduceSub, Nat.reduceEqDiff, Nat.reduceBEq, Int.reduceToNat, reduceCtorEq]
              refine blkM ?_
              refine loop_den (fun s : (List Ttravel) × Int => (.top :: .top :: .ro 1 p2.length false (enR c_i64 p2) :: tp 4 (.bool r1 :: .ptr 1 1 0 0 :: .top :: .top :: .top :: .int .i64 (wr .i64 (p1.tmod 8)) :: .ptr 8 9 0 0 :: .top :: .top :: .top :: .sl 19 40 0 s.1.length false :: .top :: .ptr 18 1 0 0 :: .int .i64 v4_4 :: .top :: .ptr 11 0 0 0 :: .top :: .int .u8 r47.2.1 :: .ptr 17 0 0 0 :: .top :: .int .i64 s.2 :: tp 218 []))) (fun s => [.dead, .row 76 1 w1_4.length (enR c_b w1_4), .dead, .dead, .dead, .dead, .dead, .dead, .row 62 9 v4_1.length (upc (enR c_TForward v4_1) (((gd v4_2 w5_2.toNat).to_).toNat) 0 [.int .u8 r47.1.Own.x0, .int .u8 r47.1.Own.x1, .int .u8 r47.1.Own.x2, .int .u8 r47.1.Own.x3, .int .u8 r47.1.Own.x4, .int .u8 r47.1.Own.x5, .int .i64 r47.1.Seq, .ro 7 r47.1.Seen.length false (enR c_TForwardMark r47.1.Seen), .ro 12 r47.1.Nexts.length false (enR c_TForwardHop r47.1.Nexts)]), .dead, .dead, .lit 80 (.int .i64 ((gd v4_2 w5_2.toNat).to_) :: .int .u8 ((((gd v4_2 w5_2.toNat).m).From).x0) :: .int .u8 ((((gd v4_2 w5_2.toNat).m).From).x1) :: .int .u8 ((((gd v4_2 w5_2.toNat).m).From).x2) :: .int .u8 ((((gd v4_2 w5_2.toNat).m).From).x3) :: .int .u8 ((((gd v4_2 w5_2.toNat).m).From).x4) :: .int .u8 ((((gd v4_2 w5_2.toNat).m).From).x5) :: .int .u8 ((((gd v4_2 w5_2.toNat).m).To).x0) :: .int .u8 ((((gd v4_2 w5_2.toNat).m).To).x1) :: .int .u8 ((((gd v4_2 w5_2.toNat).m).To).x2) :: .int .u8 ((((gd v4_2 w5_2.toNat).m).To).x3) :: .int .u8 ((((gd v4_2 w5_2.toNat).m).To).x4) :: .int .u8 ((((gd v4_2 w5_2.toNat).m).To).x5) :: .int .u8 ((((gd v4_2 w5_2.toNat).m).Enter).x0) :: .int .u8 ((((gd v4_2 w5_2.toNat).m).Enter).x1) :: .int .u8 ((((gd v4_2 w5_2.toNat).m).Enter).x2) :: .int .u8 ((((gd v4_2 w5_2.toNat).m).Enter).x3) :: .int .u8 ((((gd v4_2 w5_2.toNat).m).Enter).x4) :: .int .u8 ((((gd v4_2 w5_2.toNat).m).Enter).x5) :: .int .u8 ((((gd v4_2 w5_2.toNat).m).Leave).x0) :: .int .u8 ((((gd v4_2 w5_2.toNat).m).Leave).x1) :: .int .u8 ((((gd v4_2 w5_2.toNat).m).Leave).x2) :: .int .u8 ((((gd v4_2 w5_2.toNat).m).Leave).x3) :: .int .u8 ((((gd v4_2 w5_2.toNat).m).Leave).x4) :: .int .u8 ((((gd v4_2 w5_2.toNat).m).Leave).x5) :: .int .u8 ((((gd v4_2 w5_2.toNat).m).Source).x0) :: .int .u8 ((((gd v4_2 w5_2.toNat).m).Source).x1) :: .int .u8 ((((gd v4_2 w5_2.toNat).m).Source).x2) :: .int .u8 ((((gd v4_2 w5_2.toNat).m).Source).x3) :: .int .u8 ((((gd v4_2 w5_2.toNat).m).Source).x4) :: .int .u8 ((((gd v4_2 w5_2.toNat).m).Source).x5) :: .int .u8 ((((gd v4_2 w5_2.toNat).m).Target).x0) :: .int .u8 ((((gd v4_2 w5_2.toNat).m).Target).x1) :: .int .u8 ((((gd v4_2 w5_2.toNat).m).Target).x2) :: .int .u8 ((((gd v4_2 w5_2.toNat).m).Target).x3) :: .int .u8 ((((gd v4_2 w5_2.toNat).m).Target).x4) :: .int .u8 ((((gd v4_2 w5_2.toNat).m).Target).x5) :: .int .i64 (((gd v4_2 w5_2.toNat).m).Seq) :: .int .i64 (((gd v4_2 w5_2.toNat).m).Ttl) :: .ro 1 ((((gd v4_2 w5_2.toNat).m).Data).length) false (enR c_u8 (((gd v4_2 w5_2.toNat).m).Data)) :: []), .dead, .dead, .dead, .dead, .dead, .lit 26 (.int .u8 r47.2.2.1.From.x0 :: .int .u8 r47.2.2.1.From.x1 :: .int .u8 r47.2.2.1.From.x2 :: .int .u8 r47.2.2.1.From.x3 :: .int .u8 r47.2.2.1.From.x4 :: .int .u8 r47.2.2.1.From.x5 :: .int .u8 r47.2.2.1.To.x0 :: .int .u8 r47.2.2.1.To.x1 :: .int .u8 r47.2.2.1.To.x2 :: .int .u8 r47.2.2.1.To.x3 :: .int .u8 r47.2.2.1.To.x4 :: .int .u8 r47.2.2.1.To.x5 :: .int .u8 r47.2.2.1.Enter.x0 :: .int .u8 r47.2.2.1.Enter.x1 :: .int .u8 r47.2.2.1.Enter.x2 :: .int .u8 r47.2.2.1.Enter.x3 :: .int .u8 r47.2.2.1.Enter.x4 :: .int .u8 r47.2.2.1.Enter.x5 :: .int .u8 r47.2.2.1.Leave.x0 :: .int .u8 r47.2.2.1.Leave.x1 :: .int .u8 r47.2.2.1.Leave.x2 :: .int .u8 r47.2.2.1.Leave.x3 :: .int .u8 r47.2.2.1.Leave.x4 :: .int .u8 r47.2.2.1.Leave.x5 :: .int .u8 r47.2.2.1.Source.x0 :: .int .u8 r47.2.2.1.Source.x1 :: .int .u8 r47.2.2.1.Source.x2 :: .int .u8 r47.2.2.1.Source.x3 :: .int .u8 r47.2.2.1.Source.x4 :: .int .u8 r47.2.2.1.Source.x5 :: .int .u8 r47.2.2.1.Target.x0 :: .int .u8 r47.2.2.1.Target.x1 :: .int .u8 r47.2.2.1.Target.x2 :: .int .u8 r47.2.2.1.Target.x3 :: .int .u8 r47.2.2.1.Target.x4 :: .int .u8 r47.2.2.1.Target.x5 :: .int .i64 r47.2.2.1.Seq :: .int .i64 r47.2.2.1.Ttl :: .ro 1 r47.2.2.1.Data.length false (enR c_u8 r47.2.2.1.Data) :: []), .row 64 1 w6_2.length (enR c_i64 w6_2), .row 80 40 s.1.length (enR c_Ttravel s.1)]) (fun e : List Ttravel => (.top :: .top :: .ro 1 p2.length false (enR c_i64 p2) :: tp 4 (.bool r1 :: .ptr 1 1 0 0 :: .top :: .top :: .top :: .int .i64 (wr .i64 (p1.tmod 8)) :: .ptr 8 9 0 0 :: .top :: .top :: .top :: .sl 19 40 0 e.length false :: .top :: .ptr 18 1 0 0 :: .int .i64 v4_4 :: tp 225 []))) (fun e => [.dead, .row 76 1 w1_4.length (enR c_b w1_4), .dead, .dead, .dead, .dead, .dead, .dead, .row 62 9 v4_1.length (upc (enR c_TForward v4_1) (((gd v4_2 w5_2.toNat).to_).toNat) 0 [.int .u8 r47.1.Own.x0, .int .u8 r47.1.Own.x1, .int .u8 r47.1.Own.x2, .int .u8 r47.1.Own.x3, .int .u8 r47.1.Own.x4, .int .u8 r47.1.Own.x5, .int .i64 r47.1.Seq, .ro 7 r47.1.Seen.length false (enR c_TForwardMark r47.1.Seen), .ro 12 r47.1.Nexts.length false (enR c_TForwardHop r47.1.Nexts)]), .dead, .dead, .dead, .dead, .dead, .dead, .dead, .dead, .dead, .row 64 1 w6_2.length (enR c_i64 w6_2), .row 80 40 e.length (enR c_Ttravel e)]) H ?_ (fun s o H hn1_7 hn2_7 => ?_) (fun w7_3 H => ?_)
              · refine SubF_of ⟨[some 0, some 1, some 2, some 3, some 4, some 5, some 6, some 7, some 8, some 9, some 10, some 11, some 12, some 13, some 14, some 15, some 16, some 17, some 18, some 14], ?_, ?_, by rfl, by rfl⟩
                · simp [CvL, Cv, getM, tp]
                · exact ⟨CvB_dead, (CvB_same nfA), CvB_dead, CvB_dead, CvB_dead, CvB_dead, CvB_dead, CvB_dead, (CvB_same nfA), CvB_dead, CvB_dead, cv, CvB_dead, CvB_dead, CvB_dead, CvB_dead, CvB_dead, cv, (CvB_same nfA), CvB_row nr_Ttravel cl (fun _ _ _ _ => rfl), trivial⟩
              · obtain ⟨v7_1, v7_2⟩ := s
                unfold F7_L7 at H
                try dsimp only at H ⊢
                try simp only [tp]
                refine seqM ?_
                refine sq ctNo_ok ?_
                simp only [go_sem, Nat.reduceLeDiff, Nat.reduceLT, Nat.reduceAdd, Nat.reduceMul, Nat.reduceSub, Nat.reduceEqDiff, Nat.reduceBEq, Int.reduceToNat, reduceCtorEq]
                repeat ((with_reducible refine And.intro ?_ ?_); focus exact an4)
                refine condM' rfl trivial (fun hc => ?_) (fun hc => ?_)
                · replace H := cond_f hc H
                  refine rg ctNo_ok ?_
                  simp only [go_sem, Nat.reduceLeDiff, Nat.reduceLT, Nat.reduceAdd, Nat.reduceMul, Nat.reduceSub, Nat.reduceEqDiff, Nat.reduceBEq, Int.reduceToNat, reduceCtorEq]
                  refine ⟨_, (Option.some.inj H).symm, ?_⟩
                  refine SubF_of ⟨[some 0, some 1, some 2, some 3, some 4, some 5, some 6, some 7, some 8, some 9, some 10, some 11, some 12, some 13, some 14, some 15, some 16, some 17, some 18, some 19], ?_, ?_, by rfl, by rfl⟩
                  · simp [CvL, Cv, getM, tp]
                  · exact ⟨CvB_dead, (CvB_same nfA), CvB_dead, CvB_dead, CvB_dead, CvB_dead, CvB_dead, CvB_dead, (CvB_same nfA), CvB_dead, CvB_dead, CvB_dead, CvB_dead, CvB_dead, CvB_dead, CvB_dead, CvB_dead, CvB_dead, (CvB_same nfA), CvB_row nr_Ttravel cl (fun _ _ _ _ => rfl), trivial⟩
                replace H := cond_t hc H
                refine rg ctNo_ok ?_
                simp only [go_sem, Nat.reduceLeDiff, Nat.reduceLT, Nat.reduceAdd, Nat.reduceMul, Nat.reduceSub, Nat.reduceEqDiff, Nat.reduceBEq, Int.reduceToNat, reduceCtorEq]
                refine seqM ?_
                refine blkM ?_
                refine seqM ?_
                obtain ⟨f55, H⟩ := need_some.1 H
                replace f55 := inb_iff.1 f55
                obtain ⟨f56, H⟩ := need_some.1 H
                replace f56 := inb_iff.1 f56
                obtain ⟨f57, H⟩ := need_some.1 H
                replace f57 := decide_eq_true_iff.1 f57
                refine rg ctNo_ok ?_
                simp only [go_sem, Nat.reduceLeDiff, Nat.reduceLT, Nat.reduceAdd, Nat.reduceMul, Nat.reduceSub, Nat.reduceEqDiff, Nat.reduceBEq, Int.reduceToNat, reduceCtorEq, f55, f56, f57]
                repeat ((with_reducible refine And.intro ?_ ?_); focus exact an4)
                refine condM' rfl trivial (fun hc => ?_) (fun hc => ?_)
                · replace H := cond_f hc H
                  refine rg ctNo_ok ?_
                  simp only [go_sem, Nat.reduceLeDiff, Nat.reduceLT, Nat.reduceAdd, Nat.reduceMul, Nat.reduceSub, Nat.reduceEqDiff, Nat.reduceBEq, Int.reduceToNat, reduceCtorEq]
                  refine rg ctNo_ok ?_
                  simp only [go_sem, Nat.reduceLeDiff, Nat.reduceLT, Nat.reduceAdd, Nat.reduceMul, Nat.reduceSub, Nat.reduceEqDiff, Nat.reduceBEq, Int.reduceToNat, reduceCtorEq]
                  refine ⟨_, (Option.some.inj H).symm, ?_⟩
                  refine SubF_of ⟨[some 0, some 1, some 2, some 3, some 4, some 5, some 6, some 7, some 8, some 9, some 10, some 11, some 12, some 13, some 14, some 15, some 16, some 17, some 18, some 19], ?_, ?_, by rfl, by rfl⟩
                  · simp [CvL, Cv, getM, tp]
                  · exact ⟨CvB_dead, (CvB_same nfA), CvB_dead, CvB_dead, CvB_dead, CvB_dead, CvB_dead, CvB_dead, (CvB_same nfA), CvB_dead, CvB_dead, cv, CvB_dead, CvB_dead, CvB_dead, CvB_dead, CvB_dead, cv, (CvB_same nfA), CvB_row nr_Ttravel cl (fun _ _ _ _ => rfl), trivial⟩
                replace H := cond_t hc H
                obtain ⟨f58, H⟩ := need_some.1 H
                replace f58 := capb_iff.1 f58
                refine rg ctNo_ok ?_
                simp only [go_sem, Nat.reduceLeDiff, Nat.reduceLT, Nat.reduceAdd, Nat.reduceMul, Nat.reduceSub, Nat.reduceEqDiff, Nat.reduceBEq, Int.reduceToNat, reduceCtorEq, f58]
                repeat ((with_reducible refine And.intro ?_ ?_); focus exact an3)
                refine rg ctNo_ok ?_
                simp only [go_sem, Nat.reduceLeDiff, Nat.reduceLT, Nat.reduceAdd, Nat.reduceMul, Nat.reduceSub, Nat.reduceEqDiff, Nat.reduceBEq, Int.reduceToNat, reduceCtorEq]
                refine ⟨_, (Option.some.inj H).symm, ?_⟩
                refine SubF_of ⟨[some 0, some 1, some 2, some 3, some 4, some 5, some 6, some 7, some 8, some 9, some 10, some 11, some 12, some 13, some 14, some 15, some 16, some 17, some 18, some 21], ?_, ?_, by rfl, by rfl⟩
                · simp [CvL, Cv, getM, tp]
                · exact ⟨CvB_dead, (CvB_same nfA), CvB_dead, CvB_dead, CvB_dead, CvB_dead, CvB_dead, CvB_dead, (CvB_same nfA), CvB_dead, CvB_dead, cv, CvB_dead, CvB_dead, CvB_dead, CvB_dead, CvB_dead, cv, (CvB_same nfA), CvB_row nr_Ttravel cl (app_row (f := c_Ttravel) v7_1 [(Ttravel.mk v7_2 (TMeshFrame.mk (A6u8.mk r47.2.2.1.From.x0 r47.2.2.1.From.x1 r47.2.2.1.From.x2 r47.2.2.1.From.x3 r47.2.2.1.From.x4 r47.2.2.1.From.x5) (A6u8.mk r47.2.2.1.To.x0 r47.2.2.1.To.x1 r47.2.2.1.To.x2 r47.2.2.1.To.x3 r47.2.2.1.To.x4 r47.2.2.1.To.x5) (A6u8.mk r47.2.2.1.Enter.x0 r47.2.2.1.Enter.x1 r47.2.2.1.Enter.x2 r47.2.2.1.Enter.x3 r47.2.2.1.Enter.x4 r47.2.2.1.Enter.x5) (A6u8.mk r47.2.2.1.Leave.x0 r47.2.2.1.Leave.x1 r47.2.2.1.Leave.x2 r47.2.2.1.Leave.x3 r47.2.2.1.Leave.x4 r47.2.2.1.Leave.x5) (A6u8.mk r47.2.2.1.Source.x0 r47.2.2.1.Source.x1 r47.2.2.1.Source.x2 r47.2.2.1.Source.x3 r47.2.2.1.Source.x4 r47.2.2.1.Source.x5) (A6u8.mk r47.2.2.1.Target.x0 r47.2.2.1.Target.x1 r47.2.2.1.Target.x2 r47.2.2.1.Target.x3 r47.2.2.1.Target.x4 r47.2.2.1.Target.x5) r47.2.2.1.Seq r47.2.2.1.Ttl r47.2.2.1.Data))] (fun _ _ _ _ => rfl) (lit_row (f := c_Ttravel) [(Ttravel.mk v7_2 (TMeshFrame.mk (A6u8.mk r47.2.2.1.From.x0 r47.2.2.1.From.x1 r47.2.2.1.From.x2 r47.2.2.1.From.x3 r47.2.2.1.From.x4 r47.2.2.1.From.x5) (A6u8.mk r47.2.2.1.To.x0 r47.2.2.1.To.x1 r47.2.2.1.To.x2 r47.2.2.1.To.x3 r47.2.2.1.To.x4 r47.2.2.1.To.x5) (A6u8.mk r47.2.2.1.Enter.x0 r47.2.2.1.Enter.x1 r47.2.2.1.Enter.x2 r47.2.2.1.Enter.x3 r47.2.2.1.Enter.x4 r47.2.2.1.Enter.x5) (A6u8.mk r47.2.2.1.Leave.x0 r47.2.2.1.Leave.x1 r47.2.2.1.Leave.x2 r47.2.2.1.Leave.x3 r47.2.2.1.Leave.x4 r47.2.2.1.Leave.x5) (A6u8.mk r47.2.2.1.Source.x0 r47.2.2.1.Source.x1 r47.2.2.1.Source.x2 r47.2.2.1.Source.x3 r47.2.2.1.Source.x4 r47.2.2.1.Source.x5) (A6u8.mk r47.2.2.1.Target.x0 r47.2.2.1.Target.x1 r47.2.2.1.Target.x2 r47.2.2.1.Target.x3 r47.2.2.1.Target.x4 r47.2.2.1.Target.x5) r47.2.2.1.Seq r47.2.2.1.Ttl r47.2.2.1.Data))] (fun _ _ => rfl) rfl)), trivial⟩
              · try dsimp only at H ⊢
                try simp only [tp]
                try simp only [m_normal, k_normal, b_normal, kL_normal, r_normal]
                refine rg ctNo_ok ?_
                simp only [go_sem, Nat.reduceLeDiff, Nat.reduceLT, Nat.reduceAdd, Nat.reduceMul, Nat.reduceSub, Nat.reduceEqDiff, Nat.reduceBEq, Int.reduceToNat, reduceCtorEq]
                refine ⟨_, (Option.some.inj H).symm, ?_⟩
                refine SubF_of ⟨[some 0, some 1, some 2, some 3, some 4, some 5, some 6, some 7, some 8, some 19, some 18], ?_, ?_, by rfl, by rfl⟩
                · simp [CvL, Cv, getM, tp]
                · exact ⟨CvB_dead, (CvB_same nfA), CvB_dead, CvB_dead, CvB_dead, CvB_dead, CvB_dead, CvB_dead, CvB_row nr_TForward cl (upc_row (f := c_TForward) v4_1 (((gd v4_2 w5_2.toNat).to_).toNat) 0 r47.1 (fun _ _ _ _ => rfl) (fun y hy => match y, hy with | 0, _ => rfl | 1, _ => rfl | 2, _ => rfl | 3, _ => rfl | 4, _ => rfl | 5, _ => rfl | 6, _ => rfl | 7, _ => rfl | 8, _ => rfl | (y+9), h => absurd h nlt)), CvB_row nr_Ttravel cl (fun _ _ _ _ => rfl), CvB_row nr_i64 cl (fun _ _ _ _ => rfl), trivial⟩
        · try dsimp only at H ⊢
          try simp only [tp]
          try simp only [m_normal, k_normal, b_normal, kL_normal, r_normal]
          refine seqM ?_
          refine regO ?_
          refine cutO shT_ok ctNo_ok 0 ?_
          simp only [kO_normal, List.take_succ_cons, List.take_zero, List.drop_succ_cons, List.drop_zero, go_sem, Nat.reduceLeDiff, Nat.reduceLT, Nat.reduceAdd, Nat.reduceMul, Nat.reduceSub, Nat.reduceEqDiff, Nat.reduceBEq, Int.reduceToNat, reduceCtorEq]
          obtain ⟨w59, hw60, H⟩ := bsi H
          replace hw60 := Option.some.inj hw60
          have lhw60 : w59.length = 8 := by rw [← hw60]; exact List.length_replicate
          refine allocO shT_ok ctNo_ok (len := w59.length) (z := 1) (l := (List.replicate 8 (c_b false)).flatten) (c := enR c_b w59) rfl rfl rfl (by kernel_rfl) (by rw [lhw60]; exact flat_len) (fun x y hx hy => by subst hw60; exact arr_rep rfl x y (by simpa using hx) hy) ?_
          simp only [go_sem, Nat.reduceLeDiff, Nat.reduceLT, Nat.reduceAdd, Nat.reduceMul, Nat.reduceSub, Nat.reduceEqDiff, Nat.reduceBEq, Int.reduceToNat, reduceCtorEq]
          refine cutO shT_ok ctNo_ok 0 ?_
          simp only [kO_normal, List.take_succ_cons, List.take_zero, List.drop_succ_cons, List.drop_zero, go_sem, Nat.reduceLeDiff, Nat.reduceLT, Nat.reduceAdd, Nat.reduceMul, Nat.reduceSub, Nat.reduceEqDiff, Nat.reduceBEq, Int.reduceToNat, reduceCtorEq]
          refine endO ?_
          refine seqM ?_
          obtain ⟨f61, H⟩ := need_some.1 H
          replace f61 := inb_iff.1 f61
          obtain ⟨f62, H⟩ := need_some.1 H
          replace f62 := inb_iff.1 f62
          refine rg ctNo_ok ?_
          simp only [go_sem, Nat.reduceLeDiff, Nat.reduceLT, Nat.reduceAdd, Nat.reduceMul, Nat.reduceSub, Nat.reduceEqDiff, Nat.reduceBEq, Int.reduceToNat, reduceCtorEq, f61, f62]
          repeat ((with_reducible refine And.intro ?_ ?_); focus exact an4)
          refine seqM ?_
          refine sq ctNo_ok ?_
          simp only [go_sem, Nat.reduceLeDiff, Nat.reduceLT, Nat.reduceAdd, Nat.reduceMul, Nat.reduceSub, Nat.reduceEqDiff, Nat.reduceBEq, Int.reduceToNat, reduceCtorEq]
          refine blkM ?_
          refine loop_den (fun s : (List Bool) × Int => (tp 7 (.bool r1 :: .ptr 1 1 0 0 :: .top :: .top :: .top :: .int .i64 (wr .i64 (p1.tmod 8)) :: tp 6 (.ptr 8 1 0 0 :: tp 8 (.ptr 10 1 0 0 :: .int .i64 s.2 :: tp 216 []))))) (fun s => [.dead, .row 76 1 w1_4.length (enR c_b w1_4), .dead, .dead, .dead, .dead, .dead, .dead, .row 64 1 w4_5.length (enR c_i64 w4_5), .dead, .row 73 1 s.1.length (enR c_b s.1)]) (fun e : List Bool => (tp 7 (.bool r1 :: tp 4 (.int .i64 (wr .i64 (p1.tmod 8)) :: tp 6 (.ptr 8 1 0 0 :: tp 8 (.ptr 10 1 0 0 :: tp 217 [])))))) (fun e => [.dead, .dead, .dead, .dead, .dead, .dead, .dead, .dead, .row 64 1 w4_5.length (enR c_i64 w4_5), .dead, .row 73 1 e.length (enR c_b e)]) H ?_ (fun s o H hn1_8 hn2_8 => ?_) (fun w8_3 H => ?_)
          · refine SubF_of ⟨[some 0, some 1, some 2, some 3, some 4, some 5, some 6, some 7, some 8, some 9, some 9], ?_, ?_, by rfl, by rfl⟩
            · simp [CvL, Cv, getM, tp]
            · exact ⟨CvB_dead, (CvB_same nfA), CvB_dead, CvB_dead, CvB_dead, CvB_dead, CvB_dead, CvB_dead, (CvB_same nfA), CvB_dead, CvB_row nr_b cl (upc_row (f := c_b) w59 ((wr .i64 (p1.tmod 8)).toNat) 0 true (fun _ _ _ _ => rfl) (fun y hy => match y, hy with | 0, _ => rfl | (y+1), h => absurd h nlt)), trivial⟩
          · obtain ⟨v8_1, v8_2⟩ := s
            unfold F7_L8 at H
            try dsimp only at H ⊢
            try simp only [tp]
            refine seqM ?_
            refine sq ctNo_ok ?_
            simp only [go_sem, Nat.reduceLeDiff, Nat.reduceLT, Nat.reduceAdd, Nat.reduceMul, Nat.reduceSub, Nat.reduceEqDiff, Nat.reduceBEq, Int.reduceToNat, reduceCtorEq]
            refine condM' rfl trivial (fun hc => ?_) (fun hc => ?_)
            · replace H := cond_f hc H
              refine rg ctNo_ok ?_
              simp only [go_sem, Nat.reduceLeDiff, Nat.reduceLT, Nat.reduceAdd, Nat.reduceMul, Nat.reduceSub, Nat.reduceEqDiff, Nat.reduceBEq, Int.reduceToNat, reduceCtorEq]
              refine ⟨_, (Option.some.inj H).symm, ?_⟩
              refine SubF_of ⟨[some 0, some 1, some 2, some 3, some 4, some 5, some 6, some 7, some 8, some 9, some 10], ?_, ?_, by rfl, by rfl⟩
              · simp [CvL, Cv, getM, tp]
              · exact ⟨CvB_dead, CvB_dead, CvB_dead, CvB_dead, CvB_dead, CvB_dead, CvB_dead, CvB_dead, (CvB_same nfA), CvB_dead, CvB_row nr_b cl (fun _ _ _ _ => rfl), trivial⟩
            replace H := cond_t hc H
            refine rg ctNo_ok ?_
            simp only [go_sem, Nat.reduceLeDiff, Nat.reduceLT, Nat.reduceAdd, Nat.reduceMul, Nat.reduceSub, Nat.reduceEqDiff, Nat.reduceBEq, Int.reduceToNat, reduceCtorEq]
            refine seqM ?_
            refine blkM ?_
            refine sq ctNo_ok ?_
            simp only [go_sem, Nat.reduceLeDiff, Nat.reduceLT, Nat.reduceAdd, Nat.reduceMul, Nat.reduceSub, Nat.reduceEqDiff, Nat.reduceBEq, Int.reduceToNat, reduceCtorEq]
            refine blkM ?_
            refine loop_den (fun s : (List Bool) × Int => (tp 7 (.bool r1 :: .ptr 1 1 0 0 :: .top :: .top :: .top :: .int .i64 (wr .i64 (p1.tmod 8)) :: tp 6 (.ptr 8 1 0 0 :: tp 8 (.ptr 11 1 0 0 :: .int .i64 v8_2 :: .int .i64 s.2 :: tp 215 []))))) (fun s => [.dead, .row 76 1 w1_4.length (enR c_b w1_4), .dead, .dead, .dead, .dead, .dead, .dead, .row 64 1 w4_5.length (enR c_i64 w4_5), .dead, .dead, .row 73 1 s.1.length (enR c_b s.1)]) (fun e : List Bool => (tp 7 (.bool r1 :: .ptr 1 1 0 0 :: .top :: .top :: .top :: .int .i64 (wr .i64 (p1.tmod 8)) :: tp 6 (.ptr 8 1 0 0 :: tp 8 (.ptr 11 1 0 0 :: .int .i64 v8_2 :: tp 216 []))))) (fun e => [.dead, .row 76 1 w1_4.length (enR c_b w1_4), .dead, .dead, .dead, .dead, .dead, .dead, .row 64 1 w4_5.length (enR c_i64 w4_5), .dead, .dead, .row 73 1 e.length (enR c_b e)]) H ?_ (fun s o H hn1_9 hn2_9 => ?_) (fun w9_3 H => ?_)
            · refine SubF_of ⟨[some 0, some 1, some 2, some 3, some 4, some 5, some 6, some 7, some 8, some 9, some 10, some 10], ?_, ?_, by rfl, by rfl⟩
              · simp [CvL, Cv, getM, tp]
              · exact ⟨CvB_dead, (CvB_same nfA), CvB_dead, CvB_dead, CvB_dead, CvB_dead, CvB_dead, CvB_dead, (CvB_same nfA), CvB_dead, CvB_dead, CvB_row nr_b cl (fun _ _ _ _ => rfl), trivial⟩
            · obtain ⟨v9_1, v9_2⟩ := s
              unfold F7_L9 at H
              try dsimp only at H ⊢
              try simp only [tp]
              refine seqM ?_
              refine sq ctNo_ok ?_
              simp only [go_sem, Nat.reduceLeDiff, Nat.reduceLT, Nat.reduceAdd, Nat.reduceMul, Nat.reduceSub, Nat.reduceEqDiff, Nat.reduceBEq, Int.reduceToNat, reduceCtorEq]
              refine condM' rfl trivial (fun hc => ?_) (fun hc => ?_)
              · replace H := cond_f hc H
                refine rg ctNo_ok ?_
                simp only [go_sem, Nat.reduceLeDiff, Nat.reduceLT, Nat.reduceAdd, Nat.reduceMul, Nat.reduceSub, Nat.reduceEqDiff, Nat.reduceBEq, Int.reduceToNat, reduceCtorEq]
                refine ⟨_, (Option.some.inj H).symm, ?_⟩
                refine SubF_of ⟨[some 0, some 1, some 2, some 3, some 4, some 5, some 6, some 7, some 8, some 9, some 10, some 11], ?_, ?_, by rfl, by rfl⟩
                · simp [CvL, Cv, getM, tp]
                · exact ⟨CvB_dead, (CvB_same nfA), CvB_dead, CvB_dead, CvB_dead, CvB_dead, CvB_dead, CvB_dead, (CvB_same nfA), CvB_dead, CvB_dead, CvB_row nr_b cl (fun _ _ _ _ => rfl), trivial⟩
              replace H := cond_t hc H
              refine rg ctNo_ok ?_
              simp only [go_sem, Nat.reduceLeDiff, Nat.reduceLT, Nat.reduceAdd, Nat.reduceMul, Nat.reduceSub, Nat.reduceEqDiff, Nat.reduceBEq, Int.reduceToNat, reduceCtorEq]
              refine seqM ?_
              refine blkM ?_
              refine sq ctNo_ok ?_
              simp only [go_sem, Nat.reduceLeDiff, Nat.reduceLT, Nat.reduceAdd, Nat.reduceMul, Nat.reduceSub, Nat.reduceEqDiff, Nat.reduceBEq, Int.reduceToNat, reduceCtorEq]
              refine blkM ?_
              refine loop_den (fun s : (List Bool) × Int => (tp 7 (.bool r1 :: .ptr 1 1 0 0 :: .top :: .top :: .top :: .int .i64 (wr .i64 (p1.tmod 8)) :: tp 6 (.ptr 8 1 0 0 :: tp 8 (.ptr 12 1 0 0 :: .int .i64 v8_2 :: .int .i64 v9_2 :: .int .i64 s.2 :: tp 214 []))))) (fun s => [.dead, .row 76 1 w1_4.length (enR c_b w1_4), .dead, .dead, .dead, .dead, .dead, .dead, .row 64 1 w4_5.length (enR c_i64 w4_5), .dead, .dead, .dead, .row 73 1 s.1.length (enR c_b s.1)]) (fun e : List Bool => (tp 7 (.bool r1 :: .ptr 1 1 0 0 :: .top :: .top :: .top :: .int .i64 (wr .i64 (p1.tmod 8)) :: tp 6 (.ptr 8 1 0 0 :: tp 8 (.ptr 12 1 0 0 :: .int .i64 v8_2 :: .int .i64 v9_2 :: tp 215 []))))) (fun e => [.dead, .row 76 1 w1_4.length (enR c_b w1_4), .dead, .dead, .dead, .dead, .dead, .dead, .row 64 1 w4_5.length (enR c_i64 w4_5), .dead, .dead, .dead, .row 73 1 e.length (enR c_b e)]) H ?_ (fun s o H hn1_10 hn2_10 => ?_) (fun w10_3 H => ?_)
              · refine SubF_of ⟨[some 0, some 1, some 2, some 3, some 4, some 5, some 6, some 7, some 8, some 9, some 10, some 11, some 11], ?_, ?_, by rfl, by rfl⟩
                · simp [CvL, Cv, getM, tp]
                · exact ⟨CvB_dead, (CvB_same nfA), CvB_dead, CvB_dead, CvB_dead, CvB_dead, CvB_dead, CvB_dead, (CvB_same nfA), CvB_dead, CvB_dead, CvB_dead, CvB_row nr_b cl (fun _ _ _ _ => rfl), trivial⟩
              · obtain ⟨v10_1, v10_2⟩ := s
                unfold F7_L10 at H
                try dsimp only at H ⊢
                try simp only [tp]
                refine seqM ?_
                refine sq ctNo_ok ?_
                simp only [go_sem, Nat.reduceLeDiff, Nat.reduceLT, Nat.reduceAdd, Nat.reduceMul, Nat.reduceSub, Nat.reduceEqDiff, Nat.reduceBEq, Int.reduceToNat, reduceCtorEq]
                refine condM' rfl trivial (fun hc => ?_) (fun hc => ?_)
                · replace H := cond_f hc H
                  refine rg ctNo_ok ?_
                  simp only [go_sem, Nat.reduceLeDiff, Nat.reduceLT, Nat.reduceAdd, Nat.reduceMul, Nat.reduceSub, Nat.reduceEqDiff, Nat.reduceBEq, Int.reduceToNat, reduceCtorEq]
                  refine ⟨_, (Option.some.inj H).symm, ?_⟩
                  refine SubF_of ⟨[some 0, some 1, some 2, some 3, some 4, some 5, some 6, some 7, some 8, some 9, some 10, some 11, some 12], ?_, ?_, by rfl, by rfl⟩
                  · simp [CvL, Cv, getM, tp]
                  · exact ⟨CvB_dead, (CvB_same nfA), CvB_dead, CvB_dead, CvB_dead, CvB_dead, CvB_dead, CvB_dead, (CvB_same nfA), CvB_dead, CvB_dead, CvB_dead, CvB_row nr_b cl (fun _ _ _ _ => rfl), trivial⟩
                replace H := cond_t hc H
                refine rg ctNo_ok ?_
                simp only [go_sem, Nat.reduceLeDiff, Nat.reduceLT, Nat.reduceAdd, Nat.reduceMul, Nat.reduceSub, Nat.reduceEqDiff, Nat.reduceBEq, Int.reduceToNat, reduceCtorEq]
                refine seqM ?_
                refine blkM ?_
                refine seqM ?_
                obtain ⟨f63, H⟩ := need_some.1 H
                replace f63 := inb_iff.1 f63
                obtain ⟨f64, H⟩ := need_some.1 H
                replace f64 := inb_iff.1 f64
                obtain ⟨f65, H⟩ := need_some.1 H
                replace f65 := g_iff.1 f65
                replace f65 := fun g => inb_iff.1 (f65 g)
                obtain ⟨f66, H⟩ := need_some.1 H
                replace f66 := g_iff.1 f66
                replace f66 := fun g => inb_iff.1 (f66 g)
                obtain ⟨f67, H⟩ := need_some.1 H
                replace f67 := g_iff.1 f67
                replace f67 := fun g => decide_eq_true_iff.1 (f67 g)
                refine rg ctNo_ok ?_
                simp only [go_sem, Nat.reduceLeDiff, Nat.reduceLT, Nat.reduceAdd, Nat.reduceMul, Nat.reduceSub, Nat.reduceEqDiff, Nat.reduceBEq, Int.reduceToNat, reduceCtorEq, f63, f64]
                repeat ((with_reducible refine And.intro ?_ ?_); focus (first | (with_reducible trivial) | omega | exact f65 | exact f66 | exact f67 | (intro g; have q := f65 (by first | exact g | (rw [g]; rfl) | simpa using g); first | exact q | exact ⟨q.1, q.2.1⟩ | exact q.2.2 | omega | exact ⟨g, q⟩ | exact ⟨trivial, q⟩ | exact ⟨g, q.1, q.2.1⟩ | exact ⟨g, q.2.2⟩) | (intro g; have q := f66 (by first | exact g | (rw [g]; rfl) | simpa using g); first | exact q | exact ⟨q.1, q.2.1⟩ | exact q.2.2 | omega | exact ⟨g, q⟩ | exact ⟨trivial, q⟩ | exact ⟨g, q.1, q.2.1⟩ | exact ⟨g, q.2.2⟩) | (intro g; have q := f67 (by first | exact g | (rw [g]; rfl) | simpa using g); first | exact q | exact ⟨q.1, q.2.1⟩ | exact q.2.2 | omega | exact ⟨g, q⟩ | exact ⟨trivial, q⟩ | exact ⟨g, q.1, q.2.1⟩ | exact ⟨g, q.2.2⟩) | grind))
                refine condM' rfl trivial (fun hc => ?_) (fun hc => ?_)
                · replace H := cond_f hc H
                  refine rg ctNo_ok ?_
                  simp only [go_sem, Nat.reduceLeDiff, Nat.reduceLT, Nat.reduceAdd, Nat.reduceMul, Nat.reduceSub, Nat.reduceEqDiff, Nat.reduceBEq, Int.reduceToNat, reduceCtorEq]
                  refine rg ctNo_ok ?_
                  simp only [go_sem, Nat.reduceLeDiff, Nat.reduceLT, Nat.reduceAdd, Nat.reduceMul, Nat.reduceSub, Nat.reduceEqDiff, Nat.reduceBEq, Int.reduceToNat, reduceCtorEq]
                  refine ⟨_, (Option.some.inj H).symm, ?_⟩
                  refine SubF_of ⟨[some 0, some 1, some 2, some 3, some 4, some 5, some 6, some 7, some 8, some 9, some 10, some 11, some 12], ?_, ?_, by rfl, by rfl⟩
                  · simp [CvL, Cv, getM, tp]
                  · exact ⟨CvB_dead, (CvB_same nfA), CvB_dead, CvB_dead, CvB_dead, CvB_dead, CvB_dead, CvB_dead, (CvB_same nfA), CvB_dead, CvB_dead, CvB_dead, CvB_row nr_b cl (fun _ _ _ _ => rfl), trivial⟩
                replace H := cond_t hc H
                obtain ⟨f68, H⟩ := need_some.1 H
                replace f68 := inb_iff.1 f68
                obtain ⟨f69, H⟩ := need_some.1 H
                replace f69 := inb_iff.1 f69
                refine rg ctNo_ok ?_
                simp only [go_sem, Nat.reduceLeDiff, Nat.reduceLT, Nat.reduceAdd, Nat.reduceMul, Nat.reduceSub, Nat.reduceEqDiff, Nat.reduceBEq, Int.reduceToNat, reduceCtorEq, f68, f69]
                repeat ((with_reducible refine And.intro ?_ ?_); focus exact an4)
                refine rg ctNo_ok ?_
                simp only [go_sem, Nat.reduceLeDiff, Nat.reduceLT, Nat.reduceAdd, Nat.reduceMul, Nat.reduceSub, Nat.reduceEqDiff, Nat.reduceBEq, Int.reduceToNat, reduceCtorEq]
                refine ⟨_, (Option.some.inj H).symm, ?_⟩
                refine SubF_of ⟨[some 0, some 1, some 2, some 3, some 4, some 5, some 6, some 7, some 8, some 9, some 10, some 11, some 12], ?_, ?_, by rfl, by rfl⟩
                · simp [CvL, Cv, getM, tp]
                · exact ⟨CvB_dead, (CvB_same nfA), CvB_dead, CvB_dead, CvB_dead, CvB_dead, CvB_dead, CvB_dead, (CvB_same nfA), CvB_dead, CvB_dead, CvB_dead, CvB_row nr_b cl (upc_row (f := c_b) v10_1 v10_2.toNat 0 true (fun _ _ _ _ => rfl) (fun y hy => match y, hy with | 0, _ => rfl | (y+1), h => absurd h nlt)), trivial⟩
              · try dsimp only at H ⊢
                try simp only [tp]
                try simp only [m_normal, k_normal, b_normal, kL_normal, r_normal]
                refine rg ctNo_ok ?_
                simp only [go_sem, Nat.reduceLeDiff, Nat.reduceLT, Nat.reduceAdd, Nat.reduceMul, Nat.reduceSub, Nat.reduceEqDiff, Nat.reduceBEq, Int.reduceToNat, reduceCtorEq]
                refine ⟨_, (Option.some.inj H).symm, ?_⟩
                refine SubF_of ⟨[some 0, some 1, some 2, some 3, some 4, some 5, some 6, some 7, some 8, some 9, some 10, some 12], ?_, ?_, by rfl, by rfl⟩
                · simp [CvL, Cv, getM, tp]
                · exact ⟨CvB_dead, (CvB_same nfA), CvB_dead, CvB_dead, CvB_dead, CvB_dead, CvB_dead, CvB_dead, (CvB_same nfA), CvB_dead, CvB_dead, CvB_row nr_b cl (fun _ _ _ _ => rfl), trivial⟩
            · try dsimp only at H ⊢
              try simp only [tp]
              try simp only [m_normal, k_normal, b_normal, kL_normal, r_normal]
              refine rg ctNo_ok ?_
              simp only [go_sem, Nat.reduceLeDiff, Nat.reduceLT, Nat.reduceAdd, Nat.reduceMul, Nat.reduceSub, Nat.reduceEqDiff, Nat.reduceBEq, Int.reduceToNat, reduceCtorEq]
              refine ⟨_, (Option.some.inj H).symm, ?_⟩
              refine SubF_of ⟨[some 0, some 1, some 2, some 3, some 4, some 5, some 6, some 7, some 8, some 9, some 11], ?_, ?_, by rfl, by rfl⟩
              · simp [CvL, Cv, getM, tp]
              · exact ⟨CvB_dead, (CvB_same nfA), CvB_dead, CvB_dead, CvB_dead, CvB_dead, CvB_dead, CvB_dead, (CvB_same nfA), CvB_dead, CvB_row nr_b cl (fun _ _ _ _ => rfl), trivial⟩
          · try dsimp only at H ⊢
            try simp only [tp]
            try simp only [m_normal, k_normal, b_normal, kL_normal, r_normal]
            refine seqM ?_
            refine sq ctNo_ok ?_
            simp only [go_sem, Nat.reduceLeDiff, Nat.reduceLT, Nat.reduceAdd, Nat.reduceMul, Nat.reduceSub, Nat.reduceEqDiff, Nat.reduceBEq, Int.reduceToNat, reduceCtorEq]
            refine blkM ?_
            refine loop_den (fun s : Int => (tp 7 (.bool r1 :: tp 4 (.int .i64 (wr .i64 (p1.tmod 8)) :: tp 6 (.ptr 8 1 0 0 :: tp 8 (.ptr 10 1 0 0 :: .top :: .top :: .top :: .int .i64 s :: tp 213 [])))))) (fun s => [.dead, .dead, .dead, .dead, .dead, .dead, .dead, .dead, .row 64 1 w4_5.length (enR c_i64 w4_5), .dead, .row 73 1 w8_3.length (enR c_b w8_3)]) (fun e : Unit => (tp 7 (.bool r1 :: tp 238 []))) (fun e => [.dead, .dead, .dead, .dead, .dead, .dead, .dead, .dead, .dead, .dead, .dead]) H ?_ (fun v11_1 o H hn1_11 hn2_11 => ?_) (fun e H => ?_)
            · refine SubF_of ⟨[some 0, some 1, some 2, some 3, some 4, some 5, some 6, some 7, some 8, some 9, some 10], ?_, ?_, by rfl, by rfl⟩
              · simp [CvL, Cv, getM, tp]
              · exact ⟨CvB_dead, CvB_dead, CvB_dead, CvB_dead, CvB_dead, CvB_dead, CvB_dead, CvB_dead, (CvB_same nfA), CvB_dead, (CvB_same nfA), trivial⟩
            · unfold F7_L11 at H
              try dsimp only at H ⊢
              try simp only [tp]
              refine seqM ?_
              refine sq ctNo_ok ?_
              simp only [go_sem, Nat.reduceLeDiff, Nat.reduceLT, Nat.reduceAdd, Nat.reduceMul, Nat.reduceSub, Nat.reduceEqDiff, Nat.reduceBEq, Int.reduceToNat, reduceCtorEq]
              refine condM' rfl trivial (fun hc => ?_) (fun hc => ?_)
              · replace H := cond_f hc H
                refine rg ctNo_ok ?_
                simp only [go_sem, Nat.reduceLeDiff, Nat.reduceLT, Nat.reduceAdd, Nat.reduceMul, Nat.reduceSub, Nat.reduceEqDiff, Nat.reduceBEq, Int.reduceToNat, reduceCtorEq]
                refine ⟨_, (Option.some.inj H).symm, ?_⟩
                refine SubF_of ⟨[some 0, some 1, some 2, some 3, some 4, some 5, some 6, some 7, some 8, some 9, some 10], ?_, ?_, by rfl, by rfl⟩
                · simp [CvL, Cv, getM, tp]
                · exact ⟨CvB_dead, CvB_dead, CvB_dead, CvB_dead, CvB_dead, CvB_dead, CvB_dead, CvB_dead, CvB_dead, CvB_dead, CvB_dead, trivial⟩
              replace H := cond_t hc H
              refine rg ctNo_ok ?_
              simp only [go_sem, Nat.reduceLeDiff, Nat.reduceLT, Nat.reduceAdd, Nat.reduceMul, Nat.reduceSub, Nat.reduceEqDiff, Nat.reduceBEq, Int.reduceToNat, reduceCtorEq]
              refine seqM ?_
              refine blkM ?_
              refine sq ctNo_ok ?_
              simp only [go_sem, Nat.reduceLeDiff, Nat.reduceLT, Nat.reduceAdd, Nat.reduceMul, Nat.reduceSub, Nat.reduceEqDiff, Nat.reduceBEq, Int.reduceToNat, reduceCtorEq]
              refine seqM ?_
              refine seqM ?_
              obtain ⟨f70, H⟩ := need_some.1 H
              replace f70 := inb_iff.1 f70
              obtain ⟨f71, H⟩ := need_some.1 H
              replace f71 := inb_iff.1 f71
              refine rg ctNo_ok ?_
              simp only [go_sem, Nat.reduceLeDiff, Nat.reduceLT, Nat.reduceAdd, Nat.reduceMul, Nat.reduceSub, Nat.reduceEqDiff, Nat.reduceBEq, Int.reduceToNat, reduceCtorEq, f70, f71]
              repeat ((with_reducible refine And.intro ?_ ?_); focus exact an4)
              refine condM rfl trivial (fun hc => ?_) (fun hc => ?_)
              · replace H := cond_t hc H
                refine rg ctNo_ok ?_
                simp only [go_sem, Nat.reduceLeDiff, Nat.reduceLT, Nat.reduceAdd, Nat.reduceMul, Nat.reduceSub, Nat.reduceEqDiff, Nat.reduceBEq, Int.reduceToNat, reduceCtorEq]
                refine seqM ?_
                obtain ⟨f72, H⟩ := need_some.1 H
                replace f72 := inb_iff.1 f72
                obtain ⟨f73, H⟩ := need_some.1 H
                replace f73 := inb_iff.1 f73
                refine rg ctNo_ok ?_
                simp only [go_sem, Nat.reduceLeDiff, Nat.reduceLT, Nat.reduceAdd, Nat.reduceMul, Nat.reduceSub, Nat.reduceEqDiff, Nat.reduceBEq, Int.reduceToNat, reduceCtorEq, f72, f73]
                repeat ((with_reducible refine And.intro ?_ ?_); focus exact an4)
                refine condM rfl trivial (fun hc => ?_) (fun hc => ?_)
                · replace H := cond_t hc H
                  refine sq ctNo_ok ?_
                  simp only [go_sem, Nat.reduceLeDiff, Nat.reduceLT, Nat.reduceAdd, Nat.reduceMul, Nat.reduceSub, Nat.reduceEqDiff, Nat.reduceBEq, Int.reduceToNat, reduceCtorEq]
                  refine rg ctNo_ok ?_
                  simp only [go_sem, Nat.reduceLeDiff, Nat.reduceLT, Nat.reduceAdd, Nat.reduceMul, Nat.reduceSub, Nat.reduceEqDiff, Nat.reduceBEq, Int.reduceToNat, reduceCtorEq]
                  have H := hn2_11 _ (Option.some.inj H).symm
                  obtain rfl := Option.some.inj H
                  first | rfl | simp only [Bool.and_false, Bool.false_and, Bool.and_true, Bool.true_and]
                replace H := cond_f hc H
                refine rg ctNo_ok ?_
                simp only [go_sem, Nat.reduceLeDiff, Nat.reduceLT, Nat.reduceAdd, Nat.reduceMul, Nat.reduceSub, Nat.reduceEqDiff, Nat.reduceBEq, Int.reduceToNat, reduceCtorEq]
                refine rg ctNo_ok ?_
                simp only [go_sem, Nat.reduceLeDiff, Nat.reduceLT, Nat.reduceAdd, Nat.reduceMul, Nat.reduceSub, Nat.reduceEqDiff, Nat.reduceBEq, Int.reduceToNat, reduceCtorEq]
                refine ⟨_, (Option.some.inj H).symm, ?_⟩
                refine SubF_of ⟨[some 0, some 1, some 2, some 3, some 4, some 5, some 6, some 7, some 8, some 9, some 10], ?_, ?_, by rfl, by rfl⟩
                · simp [CvL, Cv, getM, tp]
                · exact ⟨CvB_dead, CvB_dead, CvB_dead, CvB_dead, CvB_dead, CvB_dead, CvB_dead, CvB_dead, (CvB_same nfA), CvB_dead, (CvB_same nfA), trivial⟩
              replace H := cond_f hc H
              refine rg ctNo_ok ?_
              simp only [go_sem, Nat.reduceLeDiff, Nat.reduceLT, Nat.reduceAdd, Nat.reduceMul, Nat.reduceSub, Nat.reduceEqDiff, Nat.reduceBEq, Int.reduceToNat, reduceCtorEq]
              refine seqM ?_
              obtain ⟨f74, H⟩ := need_some.1 H
              replace f74 := inb_iff.1 f74
              obtain ⟨f75, H⟩ := need_some.1 H
              replace f75 := inb_iff.1 f75
              refine rg ctNo_ok ?_
              simp only [go_sem, Nat.reduceLeDiff, Nat.reduceLT, Nat.reduceAdd, Nat.reduceMul, Nat.reduceSub, Nat.reduceEqDiff, Nat.reduceBEq, Int.reduceToNat, reduceCtorEq, f74, f75]
              repeat ((with_reducible refine And.intro ?_ ?_); focus exact an4)
              refine condM rfl trivial (fun hc => ?_) (fun hc => ?_)
              · replace H := cond_t hc H
                refine sq ctNo_ok ?_
                simp only [go_sem, Nat.reduceLeDiff, Nat.reduceLT, Nat.reduceAdd, Nat.reduceMul, Nat.reduceSub, Nat.reduceEqDiff, Nat.reduceBEq, Int.reduceToNat, reduceCtorEq]
                refine rg ctNo_ok ?_
                simp only [go_sem, Nat.reduceLeDiff, Nat.reduceLT, Nat.reduceAdd, Nat.reduceMul, Nat.reduceSub, Nat.reduceEqDiff, Nat.reduceBEq, Int.reduceToNat, reduceCtorEq]
                have H := hn2_11 _ (Option.some.inj H).symm
                obtain rfl := Option.some.inj H
                first | rfl | simp only [Bool.and_false, Bool.false_and, Bool.and_true, Bool.true_and]
              replace H := cond_f hc H
              refine rg ctNo_ok ?_
              simp only [go_sem, Nat.reduceLeDiff, Nat.reduceLT, Nat.reduceAdd, Nat.reduceMul, Nat.reduceSub, Nat.reduceEqDiff, Nat.reduceBEq, Int.reduceToNat, reduceCtorEq]
              refine rg ctNo_ok ?_
              simp only [go_sem, Nat.reduceLeDiff, Nat.reduceLT, Nat.reduceAdd, Nat.reduceMul, Nat.reduceSub, Nat.reduceEqDiff, Nat.reduceBEq, Int.reduceToNat, reduceCtorEq]
              refine ⟨_, (Option.some.inj H).symm, ?_⟩
              refine SubF_of ⟨[some 0, some 1, some 2, some 3, some 4, some 5, some 6, some 7, some 8, some 9, some 10], ?_, ?_, by rfl, by rfl⟩
              · simp [CvL, Cv, getM, tp]
              · exact ⟨CvB_dead, CvB_dead, CvB_dead, CvB_dead, CvB_dead, CvB_dead, CvB_dead, CvB_dead, (CvB_same nfA), CvB_dead, (CvB_same nfA), trivial⟩
            · try dsimp only at H ⊢
              try simp only [tp]
              try simp only [m_normal, k_normal, b_normal, kL_normal, r_normal]
              refine sq ctNo_ok ?_
              simp only [go_sem, Nat.reduceLeDiff, Nat.reduceLT, Nat.reduceAdd, Nat.reduceMul, Nat.reduceSub, Nat.reduceEqDiff, Nat.reduceBEq, Int.reduceToNat, reduceCtorEq]
              refine rg ctNo_ok ?_
              simp only [go_sem, Nat.reduceLeDiff, Nat.reduceLT, Nat.reduceAdd, Nat.reduceMul, Nat.reduceSub, Nat.reduceEqDiff, Nat.reduceBEq, Int.reduceToNat, reduceCtorEq]
              obtain rfl := Option.some.inj H
              first | rfl | simp only [Bool.and_false, Bool.false_and, Bool.and_true, Bool.true_and]
  · cases hb
end Go.Proofs.Ytbahnppiobafoaa
