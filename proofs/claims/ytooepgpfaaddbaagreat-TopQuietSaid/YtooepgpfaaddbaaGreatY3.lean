/-
  Contracts of functions: each computes its partial function.
-/
import Derived.Test.YtooepgpfaaddbaaGreatY3p4
namespace Go.Proofs.YtooepgpfaaddbaaGreat
open Go.Am
noncomputable section
set_option linter.unusedVariables false
set_option linter.unusedSimpArgs false
def ct3t0:Ct:=tab [(4,pureC body4)]
theorem ct3t0_ok:yP Tryz.prog ct3t0:=zE ok4 <| zO
theorem ct3t0_4 (l:List AV) (h:List ABlk):ct3t0 4 l h=pureC body4 l h:=rfl
def ct3t1:Ct:=tab [(5,pureC body5)]
theorem ct3t1_ok:yP Tryz.prog ct3t1:=zE ok5 <| zO
theorem ct3t1_5 (l:List AV) (h:List ABlk):ct3t1 5 l h=pureC body5 l h:=rfl
def ct3t2:Ct:=tab [(6,edC eJ)]
theorem ct3t2_ok:yP Tryz.prog ct3t2:=zE ok6 <| zO
theorem ct3t2_6 (l:List AV) (h:List ABlk):ct3t2 6 l h=edC eJ l h:=rfl
def ct3t3:Ct:=tab [(9,edC body9)]
theorem ct3t3_ok:yP Tryz.prog ct3t3:=zE ok9 <| zO
theorem ct3t3_9 (l:List AV) (h:List ABlk):ct3t3 9 l h=edC body9 l h:=rfl
def ct3t4:Ct:=tab [(8,edC fD)]
theorem ct3t4_ok:yP Tryz.prog ct3t4:=zE ok8 <| zO
theorem ct3t4_8 (l:List AV) (h:List ABlk):ct3t4 8 l h=edC fD l h:=rfl
def ct3t5:Ct:=tab [(10,pureC gJ)]
theorem ct3t5_ok:yP Tryz.prog ct3t5:=zE ok10 <| zO
theorem ct3t5_10 (l:List AV) (h:List ABlk):ct3t5 10 l h=pureC gJ l h:=rfl
def ct3t6:Ct:=tab [(11,pureC jL),(8,edC fD)]
theorem ct3t6_ok:yP Tryz.prog ct3t6:=zE ok11 <| zE ok8 <| zO
theorem ct3t6_11 (l:List AV) (h:List ABlk):ct3t6 11 l h=pureC jL l h:=rfl
theorem ct3t6_8 (l:List AV) (h:List ABlk):ct3t6 8 l h=edC fD l h:=rfl
def ct3t7:Ct:=tab [(14,edC body14)]
theorem ct3t7_ok:yP Tryz.prog ct3t7:=zE ok14 <| zO
theorem ct3t7_14 (l:List AV) (h:List ABlk):ct3t7 14 l h=edC body14 l h:=rfl
def ct3t8:Ct:=tab [(12,pureC fW)]
theorem ct3t8_ok:yP Tryz.prog ct3t8:=zE ok12 <| zO
theorem ct3t8_12 (l:List AV) (h:List ABlk):ct3t8 12 l h=pureC fW l h:=rfl
def ct3t9:Ct:=tab [(13,edC dM)]
theorem ct3t9_ok:yP Tryz.prog ct3t9:=zE ok13 <| zO
theorem ct3t9_13 (l:List AV) (h:List ABlk):ct3t9 13 l h=edC dM l h:=rfl
def F3_L1 (p0:List TRegulateChannel) (v1_1:Int):Option (Lp (Int) ((Unit) ⊕ (Bool))) :=
 bif (bLt v1_1 (p0.length:Nat)) then (need (inb v1_1 p0.length) <| bif (gd p0 v1_1.toNat).Radar then (some (.done (.inr true))) else (some (.next (wr .i64 (v1_1+1))))) else (some (.done (.inl ())))
def F3_L4 (p1:List TMove) (v2_1:Int):Option (Lp (Unit) ((Bool) ⊕ (Lp (Int × Int × Bool × (List TRegulate) × (List (List Int)) × (List (Int × Int))) ((Bool) ⊕ (Bool))))) :=
 bif (bEq ((gd p1 v2_1.toNat).Kind) 0) then (some (.done (.inl (bEq ((gd p1 v2_1.toNat).Kind) 0)))) else (some (.done (.inl (bEq ((gd p1 v2_1.toNat).Kind) 1))))
def F3_L5 (p1:List TMove) (v2_1:Int):Option (Lp (Unit) ((Int) ⊕ (Lp (Int × Int × Bool × (List TRegulate) × (List (List Int)) × (List (Int × Int))) ((Bool) ⊕ (Bool))))) :=
 bif (bEq ((gd p1 v2_1.toNat).Kind) 1) then (some (.done (.inl (wr .i64 (1+(((gd p1 v2_1.toNat).N).tmod 3)))))) else (some (.done (.inl 0)))
def F3_L7 (p1:List TMove) (v2_1:Int) (v2_2:Int) (v2_4:List TRegulate) (v2_6:List (Int × Int)) (w5_1:Int) (r38:TRegulate × (List TRegulateWord) × Int):Option (Lp (Unit) ((List (Int × Int)) ⊕ (Lp (Int × Int × Bool × (List TRegulate) × (List (List Int)) × (List (Int × Int))) ((Bool) ⊕ (Bool))))) :=
 bif (((bEq w5_1 0) && r38.1.Stopped) && (!((gd v2_4 0).Stopped))) then (need (inb 0 v2_4.length) <| need (decide (v2_6.length < 999999999)) <| some (.done (.inl (bY v2_6 ((gd v2_4 0).Channel) (wr .i64 (v2_2+((gd p1 v2_1.toNat).Wait))))))) else (some (.done (.inl v2_6)))
def F3_L8 (v2_4:List TRegulate) (w5_1:Int) (r38:TRegulate × (List TRegulateWord) × Int) (w7_4:List (Int × Int)):Option (Lp (Unit) ((List (Int × Int)) ⊕ (Lp (Int × Int × Bool × (List TRegulate) × (List (List Int)) × (List (Int × Int))) ((Bool) ⊕ (Bool))))) :=
 bif ((bEq w5_1 0) && (!bEq r38.1.Channel ((gd v2_4 0).Channel))) then (some (.done (.inl (delM w7_4 r38.1.Channel)))) else (some (.done (.inl w7_4)))
def F3_L9 (v2_4:List TRegulate) (w5_1:Int) (r38:TRegulate × (List TRegulateWord) × Int) (w8_4:List (Int × Int)) (v9_1:Int) (v9_2:List (List Int)):Option (Lp (Int × (List (List Int))) ((List (List Int)) ⊕ (Lp (Unit) ((Bool × (List TRegulate) × (List (List Int)) × (List (Int × Int))) ⊕ (Lp (Int × Int × Bool × (List TRegulate) × (List (List Int)) × (List (Int × Int))) ((Bool) ⊕ (Bool))))))) :=
 bif (bLt v9_1 (r38.2.1.length:Nat)) then (need (inb v9_1 r38.2.1.length) <| (F8 (gd r38.2.1 v9_1.toNat) (A6u8.mk 2 0 0 0 1 (wr .u8 w5_1))).bind fun r51=>bif (!r51.2) then ((some (.done (.inl (false,(v2_4.set w5_1.toNat r38.1),v9_2,w8_4)))).bind fun q54=>some (.done (.inr q54))) else (need (capb 24 (v9_2.length+1)) <| some (.next (wr .i64 (v9_1+1),(v9_2 ++ [r51.1]))))) else (some (.done (.inl v9_2)))
def F3_L6 (p1:List TMove) (v2_1:Int) (v2_2:Int) (v2_4:List TRegulate) (v2_5:List (List Int)) (v2_6:List (Int × Int)) (w5_1:Int) (r38:TRegulate × (List TRegulateWord) × Int):Option (Lp (Unit) ((Bool × (List TRegulate) × (List (List Int)) × (List (Int × Int))) ⊕ (Lp (Int × Int × Bool × (List TRegulate) × (List (List Int)) × (List (Int × Int))) ((Bool) ⊕ (Bool))))) :=
 need (bif ((bEq w5_1 0) && r38.1.Stopped) then inb 0 v2_4.length else true) <| lp (yF (fun s=>F3_L7 p1 v2_1 v2_2 v2_4 v2_6 w5_1 r38) ()) (fun w7_4=>need (bif (bEq w5_1 0) then inb 0 v2_4.length else true) <| lp (yF (fun s=>F3_L8 v2_4 w5_1 r38 w7_4) ()) (fun w8_4=>need (inb w5_1 v2_4.length) <| lp (yF (fun s=>F3_L9 v2_4 w5_1 r38 w8_4 s.1 s.2) (0,v2_5)) (fun w9_4=>some (.done (.inl (true,(v2_4.set w5_1.toNat r38.1),w9_4,w8_4)))) some) (fun r=>some (.done (.inr r)))) (fun r=>some (.done (.inr r)))
def F3_L10 (p1:List TMove) (v2_1:Int) (v2_2:Int) (v2_3:Bool) (v2_4:List TRegulate) (v2_5:List (List Int)) (r59:Bool × Int):Option (Lp (Unit) ((Bool × (List (List Int))) ⊕ (Lp (Int × Int × Bool × (List TRegulate) × (List (List Int)) × (List (Int × Int))) ((Bool) ⊕ (Bool))))) :=
 bif r59.1 then (need (inb 0 v2_4.length) <| (F11).bind fun r63=>(F8 (TRegulateWord.mk 3 ((gd v2_4 0).Channel) 0 (wr .i64 (v2_2+((gd p1 v2_1.toNat).Wait)))) r63).bind fun r65=>need (capb 24 (v2_5.length+1)) <| some (.done (.inl (r65.2,(v2_5 ++ [r65.1]))))) else (some (.done (.inl (v2_3,v2_5))))
def F3_L11 (p1:List TMove) (v2_1:Int):Option (Lp (Unit) ((Bool) ⊕ (Lp (Int × Int × Bool × (List TRegulate) × (List (List Int)) × (List (Int × Int))) ((Bool) ⊕ (Bool))))) :=
 bif (bEq ((gd p1 v2_1.toNat).Kind) 3) then (some (.done (.inl (bEq ((gd p1 v2_1.toNat).Kind) 3)))) else (bif (bEq ((gd p1 v2_1.toNat).Kind) 4) then (some (.done (.inl (bEq ((gd p1 v2_1.toNat).Kind) 4)))) else (some (.done (.inl (bEq ((gd p1 v2_1.toNat).Kind) 5)))))
def F3_L12 (p1:List TMove) (v2_1:Int):Option (Lp (Unit) ((Int × Int) ⊕ (Lp (Int × Int × Bool × (List TRegulate) × (List (List Int)) × (List (Int × Int))) ((Bool) ⊕ (Bool))))) :=
 bif (bEq ((gd p1 v2_1.toNat).Kind) 4) then (some (.done (.inl (wr .i64 (1+(((gd p1 v2_1.toNat).N).tmod 3)),wr .i64 (1+(((gd p1 v2_1.toNat).N).tmod 3)))))) else (some (.done (.inl (0,3))))
def F3_L13 (p1:List TMove) (v2_1:Int) (v2_3:Bool) (v2_5:List (List Int)) (w12_2:Int):Option (Lp (Unit) ((Bool × Int × (List Int)) ⊕ (Lp (Int × Int × Bool × (List TRegulate) × (List (List Int)) × (List (Int × Int))) ((Bool) ⊕ (Bool))))) :=
 bif (bEq ((gd p1 v2_1.toNat).Kind) 5) then (need (!(bEq (wr .i64 (8 * ((gd v2_5 ((((gd p1 v2_1.toNat).N).tmod (v2_5.length:Nat)).toNat)).length:Nat))) 0)) <| (some ([] ++ (gd v2_5 ((((gd p1 v2_1.toNat).N).tmod (v2_5.length:Nat)).toNat)))).bind fun w81=>need (inb (wr .i64 ((((gd p1 v2_1.toNat).N).tmod (wr .i64 (8 * ((gd v2_5 ((((gd p1 v2_1.toNat).N).tmod (v2_5.length:Nat)).toNat)).length:Nat)))).tdiv 8)) w81.length) <| need (bLe 0 (wr .u64 ((((gd p1 v2_1.toNat).N).tmod (wr .i64 (8 * ((gd v2_5 ((((gd p1 v2_1.toNat).N).tmod (v2_5.length:Nat)).toNat)).length:Nat)))).tmod 8))) <| need (inb (wr .i64 ((((gd p1 v2_1.toNat).N).tmod (wr .i64 (8 * ((gd v2_5 ((((gd p1 v2_1.toNat).N).tmod (v2_5.length:Nat)).toNat)).length:Nat)))).tdiv 8)) w81.length) <| (some (w81.set ((wr .i64 ((((gd p1 v2_1.toNat).N).tmod (wr .i64 (8 * ((gd v2_5 ((((gd p1 v2_1.toNat).N).tmod (v2_5.length:Nat)).toNat)).length:Nat)))).tdiv 8)).toNat) (xorI .u8 (gd w81 ((wr .i64 ((((gd p1 v2_1.toNat).N).tmod (wr .i64 (8 * ((gd v2_5 ((((gd p1 v2_1.toNat).N).tmod (v2_5.length:Nat)).toNat)).length:Nat)))).tdiv 8)).toNat)) (cE .u8 1 (wr .u64 ((((gd p1 v2_1.toNat).N).tmod (wr .i64 (8 * ((gd v2_5 ((((gd p1 v2_1.toNat).N).tmod (v2_5.length:Nat)).toNat)).length:Nat)))).tmod 8)))))).bind fun w86=>(F12 w86).bind fun r88=>some (.done (.inl ((!r88.2),(-1),w86)))) else (some (.done (.inl (v2_3,w12_2,([] ++ (gd v2_5 ((((gd p1 v2_1.toNat).N).tmod (v2_5.length:Nat)).toNat)))))))
def F3_L16 (p1:List TMove) (v2_1:Int) (v2_2:Int) (v14_2:Int) (v14_3:List TRegulate) (v14_5:List (Int × Int)) (r94:TRegulate × (List TRegulateWord) × Int):Option (Lp (Unit) ((List (Int × Int)) ⊕ (Lp (Int × Int × Bool × (List TRegulate) × (List (List Int)) × (List (Int × Int))) ((Bool) ⊕ (Bool))))) :=
 bif (((bEq v14_2 0) && r94.1.Stopped) && (!((gd v14_3 0).Stopped))) then (need (inb 0 v14_3.length) <| need (decide (v14_5.length < 999999999)) <| some (.done (.inl (bY v14_5 ((gd v14_3 0).Channel) (wr .i64 (v2_2+((gd p1 v2_1.toNat).Wait))))))) else (some (.done (.inl v14_5)))
def F3_L17 (v14_2:Int) (v14_3:List TRegulate) (r94:TRegulate × (List TRegulateWord) × Int) (w16_4:List (Int × Int)):Option (Lp (Unit) ((List (Int × Int)) ⊕ (Lp (Int × Int × Bool × (List TRegulate) × (List (List Int)) × (List (Int × Int))) ((Bool) ⊕ (Bool))))) :=
 bif ((bEq v14_2 0) && (!bEq r94.1.Channel ((gd v14_3 0).Channel))) then (some (.done (.inl (delM w16_4 r94.1.Channel)))) else (some (.done (.inl w16_4)))
def F3_L18 (v14_2:Int) (v14_3:List TRegulate) (r94:TRegulate × (List TRegulateWord) × Int) (w17_4:List (Int × Int)) (v18_1:Int) (v18_2:List (List Int)):Option (Lp (Int × (List (List Int))) ((List (List Int)) ⊕ (Lp (Unit) ((Bool × (List TRegulate) × (List (List Int)) × (List (Int × Int))) ⊕ (Lp (Int × Int × Bool × (List TRegulate) × (List (List Int)) × (List (Int × Int))) ((Bool) ⊕ (Bool))))))) :=
 bif (bLt v18_1 (r94.2.1.length:Nat)) then (need (inb v18_1 r94.2.1.length) <| (F8 (gd r94.2.1 v18_1.toNat) (A6u8.mk 2 0 0 0 1 (wr .u8 v14_2))).bind fun r107=>bif (!r107.2) then ((some (.done (.inl (false,(v14_3.set v14_2.toNat r94.1),v18_2,w17_4)))).bind fun q110=>some (.done (.inr q110))) else (need (capb 24 (v18_2.length+1)) <| some (.next (wr .i64 (v18_1+1),(v18_2 ++ [r107.1]))))) else (some (.done (.inl v18_2)))
def F3_L15 (p1:List TMove) (v2_1:Int) (v2_2:Int) (v14_2:Int) (v14_3:List TRegulate) (v14_4:List (List Int)) (v14_5:List (Int × Int)) (r94:TRegulate × (List TRegulateWord) × Int):Option (Lp (Unit) ((Bool × (List TRegulate) × (List (List Int)) × (List (Int × Int))) ⊕ (Lp (Int × Int × Bool × (List TRegulate) × (List (List Int)) × (List (Int × Int))) ((Bool) ⊕ (Bool))))) :=
 need (bif ((bEq v14_2 0) && r94.1.Stopped) then inb 0 v14_3.length else true) <| lp (yF (fun s=>F3_L16 p1 v2_1 v2_2 v14_2 v14_3 v14_5 r94) ()) (fun w16_4=>need (bif (bEq v14_2 0) then inb 0 v14_3.length else true) <| lp (yF (fun s=>F3_L17 v14_2 v14_3 r94 w16_4) ()) (fun w17_4=>need (inb v14_2 v14_3.length) <| lp (yF (fun s=>F3_L18 v14_2 v14_3 r94 w17_4 s.1 s.2) (0,v14_4)) (fun w18_4=>some (.done (.inl (true,(v14_3.set v14_2.toNat r94.1),w18_4,w17_4)))) some) (fun r=>some (.done (.inr r)))) (fun r=>some (.done (.inr r)))
def jK (p1:List TMove) (v2_1:Int) (v2_2:Int) (w13_2:Int) (r90:TRegulateWord × Bool) (v14_1:Bool) (v14_2:Int) (v14_3:List TRegulate) (v14_4:List (List Int)) (v14_5:List (Int × Int)):Option (Lp (Bool × Int × (List TRegulate) × (List (List Int)) × (List (Int × Int))) ((Bool × (List TRegulate) × (List (List Int)) × (List (Int × Int))) ⊕ (Lp (Int × Int × Bool × (List TRegulate) × (List (List Int)) × (List (Int × Int))) ((Bool) ⊕ (Bool))))) :=
 bif ((bLe v14_2 w13_2) && v14_1) then (need (inb v14_2 v14_3.length) <| (F13 (gd v14_3 v14_2.toNat) r90.1 ((gd p1 v2_1.toNat).N) (wr .i64 (v2_2+((gd p1 v2_1.toNat).Wait)))).bind fun r94=>bif (bEq r94.2.2 21) then (some (.next (true,wr .i64 (v14_2+1),v14_3,v14_4,v14_5))) else (bif (bEq r94.2.2 0) then (lp (yF (fun s=>F3_L15 p1 v2_1 v2_2 v14_2 v14_3 v14_4 v14_5 r94) ()) (fun e15=>some (.next (e15.1,wr .i64 (v14_2+1),e15.2.1,e15.2.2.1,e15.2.2.2))) (fun r=>some (.done (.inr r)))) else (some (.next (false,wr .i64 (v14_2+1),v14_3,v14_4,v14_5))))) else (some (.done (.inl (v14_1,v14_3,v14_4,v14_5))))
def F3_L3 (p1:List TMove) (v2_1:Int) (v2_2:Int) (v2_3:Bool) (v2_4:List TRegulate) (v2_5:List (List Int)) (v2_6:List (Int × Int)):Option (Lp (Unit) ((Bool × Int × Int × (List TRegulate) × (List (List Int)) × (List (Int × Int))) ⊕ (Lp (Int × Int × Bool × (List TRegulate) × (List (List Int)) × (List (Int × Int))) ((Bool) ⊕ (Bool))))) :=
 lp (yF (fun s=>F3_L4 p1 v2_1) ()) (fun w4_1=>bif w4_1 then (lp (yF (fun s=>F3_L5 p1 v2_1) ()) (fun w5_1=>need (inb w5_1 v2_4.length) <| (F9 (gd v2_4 w5_1.toNat) ((gd p1 v2_1.toNat).N) (wr .i64 (v2_2+((gd p1 v2_1.toNat).Wait)))).bind fun r38=>bif (bEq r38.2.2 20) then (some (.done (.inl (true,0,(-1),v2_4,v2_5,v2_6)))) else (bif (bEq r38.2.2 0) then (lp (yF (fun s=>F3_L6 p1 v2_1 v2_2 v2_4 v2_5 v2_6 w5_1 r38) ()) (fun e6=>some (.done (.inl (e6.1,0,(-1),e6.2.1,e6.2.2.1,e6.2.2.2)))) (fun r=>some (.done (.inr r)))) else (some (.done (.inl (false,0,(-1),v2_4,v2_5,v2_6)))))) (fun r=>some (.done (.inr r)))) else (bif (bEq ((gd p1 v2_1.toNat).Kind) 2) then (need (inb 0 v2_4.length) <| (F10 (gd v2_4 0) 0 (wr .i64 (v2_2+((gd p1 v2_1.toNat).Wait)))).bind fun r59=>lp (yF (fun s=>F3_L10 p1 v2_1 v2_2 v2_3 v2_4 v2_5 r59) ()) (fun e10=>some (.done (.inl ((e10.1 && (bEq r59.2 0)),0,(-1),v2_4,e10.2,v2_6)))) (fun r=>some (.done (.inr r)))) else (lp (yF (fun s=>F3_L11 p1 v2_1) ()) (fun w11_1=>bif w11_1 then (lp (yF (fun s=>F3_L12 p1 v2_1) ()) (fun e12=>bif (bEq (v2_5.length:Nat) 0) then ((some (.next (wr .i64 (v2_1+1),wr .i64 (v2_2+((gd p1 v2_1.toNat).Wait)),v2_3,v2_4,v2_5,v2_6))).bind fun q73=>some (.done (.inr q73))) else (need (!(bEq (v2_5.length:Nat) 0)) <| need (inb (((gd p1 v2_1.toNat).N).tmod (v2_5.length:Nat)) v2_5.length) <| need (capb 1 ((gd v2_5 ((((gd p1 v2_1.toNat).N).tmod (v2_5.length:Nat)).toNat)).length)) <| lp (yF (fun s=>F3_L13 p1 v2_1 v2_3 v2_5 e12.2) ()) (fun e13=>(F12 e13.2.2).bind fun r90=>lp (yF (fun s=>jK p1 v2_1 v2_2 e13.2.1 r90 s.1 s.2.1 s.2.2.1 s.2.2.2.1 s.2.2.2.2) ((e13.1 && (r90.2 || (bEq ((gd p1 v2_1.toNat).Kind) 5))),e12.1,v2_4,v2_5,v2_6)) (fun e14=>some (.done (.inl (e14.1,e12.1,(-1),e14.2.1,e14.2.2.1,e14.2.2.2)))) (fun r=>some (.done (.inr r)))) (fun r=>some (.done (.inr r))))) (fun r=>some (.done (.inr r)))) else (some (.done (.inl (v2_3,0,3,v2_4,v2_5,v2_6))))) (fun r=>some (.done (.inr r)))))) (fun r=>some (.done (.inr r)))
def F3_L21 (p1:List TMove) (v2_1:Int) (v2_2:Int) (v19_2:Int) (v19_3:List TRegulate) (v19_5:List (Int × Int)) (r115:TRegulate × (List TRegulateWord) × Int):Option (Lp (Unit) ((List (Int × Int)) ⊕ (Bool))) :=
 bif (((bEq v19_2 0) && r115.1.Stopped) && (!((gd v19_3 0).Stopped))) then (need (inb 0 v19_3.length) <| need (decide (v19_5.length < 999999999)) <| some (.done (.inl (bY v19_5 ((gd v19_3 0).Channel) (wr .i64 (v2_2+((gd p1 v2_1.toNat).Wait))))))) else (some (.done (.inl v19_5)))
def F3_L22 (v19_2:Int) (v19_3:List TRegulate) (r115:TRegulate × (List TRegulateWord) × Int) (w21_4:List (Int × Int)):Option (Lp (Unit) ((List (Int × Int)) ⊕ (Bool))) :=
 bif ((bEq v19_2 0) && (!bEq r115.1.Channel ((gd v19_3 0).Channel))) then (some (.done (.inl (delM w21_4 r115.1.Channel)))) else (some (.done (.inl w21_4)))
def F3_L23 (v19_2:Int) (v19_3:List TRegulate) (r115:TRegulate × (List TRegulateWord) × Int) (w22_4:List (Int × Int)) (v23_1:Int) (v23_2:List (List Int)):Option (Lp (Int × (List (List Int))) ((List (List Int)) ⊕ (Lp (Unit) ((Bool × (List TRegulate) × (List (List Int)) × (List (Int × Int))) ⊕ (Bool))))) :=
 bif (bLt v23_1 (r115.2.1.length:Nat)) then (need (inb v23_1 r115.2.1.length) <| (F8 (gd r115.2.1 v23_1.toNat) (A6u8.mk 2 0 0 0 1 (wr .u8 v19_2))).bind fun r127=>bif (!r127.2) then ((some (.done (.inl (false,(v19_3.set v19_2.toNat r115.1),v23_2,w22_4)))).bind fun q130=>some (.done (.inr q130))) else (need (capb 24 (v23_2.length+1)) <| some (.next (wr .i64 (v23_1+1),(v23_2 ++ [r127.1]))))) else (some (.done (.inl v23_2)))
def F3_L20 (p1:List TMove) (v2_1:Int) (v2_2:Int) (v19_2:Int) (v19_3:List TRegulate) (v19_4:List (List Int)) (v19_5:List (Int × Int)) (r115:TRegulate × (List TRegulateWord) × Int):Option (Lp (Unit) ((Bool × (List TRegulate) × (List (List Int)) × (List (Int × Int))) ⊕ (Bool))) :=
 need (bif ((bEq v19_2 0) && r115.1.Stopped) then inb 0 v19_3.length else true) <| lp (yF (fun s=>F3_L21 p1 v2_1 v2_2 v19_2 v19_3 v19_5 r115) ()) (fun w21_4=>need (bif (bEq v19_2 0) then inb 0 v19_3.length else true) <| lp (yF (fun s=>F3_L22 v19_2 v19_3 r115 w21_4) ()) (fun w22_4=>need (inb v19_2 v19_3.length) <| lp (yF (fun s=>F3_L23 v19_2 v19_3 r115 w22_4 s.1 s.2) (0,v19_4)) (fun w23_4=>some (.done (.inl (true,(v19_3.set v19_2.toNat r115.1),w23_4,w22_4)))) some) (fun r=>some (.done (.inr r)))) (fun r=>some (.done (.inr r)))
def fR (p1:List TMove) (v2_1:Int) (v2_2:Int) (w3_3:Int) (v19_1:Bool) (v19_2:Int) (v19_3:List TRegulate) (v19_4:List (List Int)) (v19_5:List (Int × Int)):Option (Lp (Bool × Int × (List TRegulate) × (List (List Int)) × (List (Int × Int))) ((Bool × (List TRegulate) × (List (List Int)) × (List (Int × Int))) ⊕ (Bool))) :=
 bif ((bLe v19_2 w3_3) && v19_1) then (need (inb v19_2 v19_3.length) <| (F14 (gd v19_3 v19_2.toNat) (wr .i64 (v2_2+((gd p1 v2_1.toNat).Wait)))).bind fun r115=>bif (bEq r115.2.2 0) then (lp (yF (fun s=>F3_L20 p1 v2_1 v2_2 v19_2 v19_3 v19_4 v19_5 r115) ()) (fun e20=>some (.next (e20.1,wr .i64 (v19_2+1),e20.2.1,e20.2.2.1,e20.2.2.2))) (fun r=>some (.done (.inr r)))) else (some (.next (false,wr .i64 (v19_2+1),v19_3,v19_4,v19_5)))) else (some (.done (.inl (v19_1,v19_3,v19_4,v19_5))))
def F3_L24 (p1:List TMove) (v2_1:Int) (v2_2:Int) (w19_7:List TRegulate) (w19_9:List (Int × Int)) (v24_1:Bool) (v24_2:Int):Option (Lp (Bool × Int) ((Bool) ⊕ (Bool))) :=
 bif ((bLt v24_2 4) && v24_1) then (need (inb v24_2 w19_7.length) <| need (inb v24_2 w19_7.length) <| (F10 (gd w19_7 v24_2.toNat) 0 (wr .i64 (v2_2+((gd p1 v2_1.toNat).Wait)))).bind fun r136=>some (.next (((bEq r136.2 0) && (!(((lkp w19_9 ((gd w19_7 v24_2.toNat).Channel)).isSome && r136.1) && (bLt (wr .i64 (((lkp w19_9 ((gd w19_7 v24_2.toNat).Channel)).getD 0)+500000)) (wr .i64 (v2_2+((gd p1 v2_1.toNat).Wait))))))),wr .i64 (v24_2+1)))) else (some (.done (.inl v24_1)))
def F3_L2 (p1:List TMove) (v2_1:Int) (v2_2:Int) (v2_3:Bool) (v2_4:List TRegulate) (v2_5:List (List Int)) (v2_6:List (Int × Int)):Option (Lp (Int × Int × Bool × (List TRegulate) × (List (List Int)) × (List (Int × Int))) ((Bool) ⊕ (Bool))) :=
 bif ((bLt v2_1 (p1.length:Nat)) && v2_3) then (need (inb v2_1 p1.length) <| lp (yF (fun s=>F3_L3 p1 v2_1 v2_2 v2_3 v2_4 v2_5 v2_6) ()) (fun e3=>lp (yF (fun s=>fR p1 v2_1 v2_2 e3.2.2.1 s.1 s.2.1 s.2.2.1 s.2.2.2.1 s.2.2.2.2) (e3.1,e3.2.1,e3.2.2.2.1,e3.2.2.2.2.1,e3.2.2.2.2.2)) (fun e19=>lp (yF (fun s=>F3_L24 p1 v2_1 v2_2 e19.2.1 e19.2.2.2 s.1 s.2) (e19.1,0)) (fun w24_3=>some (.next (wr .i64 (v2_1+1),wr .i64 (v2_2+((gd p1 v2_1.toNat).Wait)),w24_3,e19.2.1,e19.2.2.1,e19.2.2.2))) (fun r=>some (.done (.inr r)))) (fun r=>some (.done (.inr r)))) some) else (some (.done (.inl v2_3)))
def F3 (p0:List TRegulateChannel) (p1:List TMove):Option (Bool) :=
 (F4).bind fun r1=>bif (!r1) then (some false) else (need (bif (!(bLt 16 (p0.length:Nat))) then ((F5 p1 120).isSome) else true) <| bif ((bLt 16 (p0.length:Nat)) || (!(gt (F5 p1 120)))) then (some true) else (bif (bEq (p0.length:Nat) 0) then (some true) else (need (inb 0 p0.length) <| (F6 p0 ((gd p0 0).Number) true 0).bind fun r9=>bif (!bEq r9.2 0) then (some true) else (need (capb 120 1) <| need (inb 0 p0.length) <| (F6 p0 ((gd p0 0).Number) false 0).bind fun r14=>bif (!bEq r14.2 0) then (some true) else (need (capb 120 2) <| need (inb 0 p0.length) <| (F6 p0 ((gd p0 0).Number) false 0).bind fun r19=>bif (!bEq r19.2 0) then (some true) else (need (capb 120 3) <| need (inb 0 p0.length) <| (F6 p0 ((gd p0 0).Number) false 0).bind fun r24=>bif (!bEq r24.2 0) then (some true) else (need (capb 120 4) <| lp (yF (fun s=>F3_L1 p0 s) 0) (fun _=>lp (yF (fun s=>F3_L2 p1 s.1 s.2.1 s.2.2.1 s.2.2.2.1 s.2.2.2.2.1 s.2.2.2.2.2) (0,0,true,((([r9.1] ++ [r14.1]) ++ [r19.1]) ++ [r24.1]),[],([]:List (Int × Int)))) (fun w2_7=>some w2_7) some) some)))))))
def body3:List AV->AR
 | [v0,v1]=>.pure (lK zZ 3 v0/\lK fL 3 v1/\(F3 (lA g_TRegulateChannel v0) (lA g_TMove v1)).isSome=true) (.bool (gt (F3 (lA g_TRegulateChannel v0) (lA g_TMove v1))))
 | _=>.fail
set_option maxHeartbeats 4000000 in
set_option maxRecDepth 20000 in
theorem ok3:FnOk Tryz.prog 3 (pureC body3):=by
 refine yM body3 (rs:=[.tmp 4]) Tryz.func3 (by kernel_rfl) rfl rfl ?_
 intro l ob v hb hob
 unfold body3 at hb
 split at hb
 ·rename_i v0 v1
  injection hb with q1 q2;subst q1 q2
  obtain ⟨hk0_0,hk1_0,hob⟩:=hob
  obtain ⟨r,H⟩:=oE.1 hob
  rw [H,zN]
  have hw0:=lK_wk (fun r h=>yH h) hk0_0
  have hw1:=lK_wk (fun r h=>w_TMove h) hk1_0
  generalize lA g_TRegulateChannel v0=p0 at H hw0
  generalize lA g_TMove v1=p1 at H hw1
  refine ⟨[.ro 3 p0.length false (enR c_TRegulateChannel p0),.ro 3 p1.length false (enR c_TMove p1)],_,(fun E vs F=>yC hw0.1 F (fun vs F=>yC hw1.1 F (fun vs F=>F))),rfl,rfl,?_⟩
  rw [Tryz.ntmps3]
  simp only [lC,lN,Nat.reduceAdd,Nat.reduceSub,rS,rZ,aC,aN]
  unfold F3 at H
  try dsimp only at H
  refine sq zA ?_
  simp only [go_sem]
  refine zC ?_
  refine zC ?_
  obtain ⟨r1,e2,H⟩:=bsi H
  refine rg ct3t0_ok ?_
  simp only [go_sem,ct3t0_4,body4,e2]
  repeat ((with_reducible refine aI ?_ ?_);exact an0)
  refine zX rfl trivial (fun hc=>?_) (fun hc=>?_)
  ·have hk3:(r1)=false:=by simpa using hc
   replace H:=zL hc H
   refine sq zA ?_
   simp only [go_sem]
   refine rg zA ?_
   simp only [go_sem]
   obtain rfl:=Option.some.inj H
   exact fB
  have hk3:(r1)=true:=by simpa using hc
  replace H:=zK hc H
  refine rg zA ?_
  simp only [go_sem]
  refine zC ?_
  refine zC ?_
  obtain ⟨f4,H⟩:=zP.1 H
  replace f4:=xR.1 f4
  refine rg ct3t1_ok ?_
  simp only [go_sem,ct3t1_5,body5]
  repeat ((with_reducible refine And.intro ?_ ?_);focus exact bn2 f4)
  refine zX rfl trivial (fun hc=>?_) (fun hc=>?_)
  ·have hk5:((bLt 16 (p0.length:Nat)) || (!(gt (F5 p1 120))))=true:=by simpa using hc
   replace H:=zL hc H
   refine sq zA ?_
   simp only [go_sem]
   refine rg zA ?_
   simp only [go_sem]
   obtain rfl:=Option.some.inj H
   exact fB
  have hk5:((bLt 16 (p0.length:Nat)) || (!(gt (F5 p1 120))))=false:=by simpa using hc
  replace H:=zK hc H
  refine rg zA ?_
  simp only [go_sem]
  refine sq zA ?_
  simp only [go_sem]
  refine zC ?_
  refine sq zA ?_
  simp only [go_sem]
  refine xN ?_
  refine tP 5 ?_
  refine cD ?_
  refine zC ?_
  refine sq zA ?_
  simp only [go_sem,(by decide:bLt (0) (4)=true)]
  refine zX rfl trivial (fun hc=>?_) (fun hc=>?_)
  rotate_left
  ·cases hc
  refine rg zA ?_
  simp only [go_sem]
  refine zC ?_
  refine xN ?_
  refine zC ?_
  refine sq zA ?_
  simp only [go_sem]
  repeat ((with_reducible refine aI ?_ ?_);exact an0)
  refine zX rfl trivial (fun hc=>?_) (fun hc=>?_)
  ·have hk7:(bEq (p0.length:Nat) 0)=true:=by simpa using hc
   replace H:=zL hc H
   refine sq zA ?_
   simp only [go_sem]
   refine rg zA ?_
   simp only [go_sem]
   obtain rfl:=Option.some.inj H
   exact fB
  have hk7:(bEq (p0.length:Nat) 0)=false:=by simpa using hc
  replace H:=zK hc H
  refine rg zA ?_
  simp only [go_sem]
  refine zC ?_
  obtain ⟨f8,H⟩:=nI H
  obtain ⟨r9,e10,H⟩:=bsi H
  refine rg ct3t2_ok ?_
  simp only [go_sem,Nat.reduceLeDiff,Nat.reduceLT,Nat.reduceAdd,ct3t2_6,eJ,(by decide:bEq (0) (0)=true),f8,e10]
  repeat ((with_reducible refine aI ?_ ?_);exact an0)
  refine zC ?_
  refine sq zA ?_
  simp only [go_sem]
  refine zX rfl trivial (fun hc=>?_) (fun hc=>?_)
  ·have hk11:(bEq r9.2 0)=false:=by simpa using hc
   replace H:=zL hc H
   refine sq zA ?_
   simp only [go_sem]
   refine rg zA ?_
   simp only [go_sem]
   obtain rfl:=Option.some.inj H
   exact fB
  have hk11:(bEq r9.2 0)=true:=by simpa using hc
  replace H:=zK hc H
  refine rg zA ?_
  simp only [go_sem]
  refine qP ?_
  refine wL zU zA 2 ?_
  simp only [zV,tS,tZ,dS,dZ,go_sem,Nat.reduceLT,Nat.reduceAdd]
  repeat ((with_reducible refine aI ?_ ?_);exact an2)
  refine fzO [1,2,3] ?_ ?_
  ·simp only [go_sem,Nat.reduceBEq]
   try exact at0
  simp only [go_sem,Nat.reduceBEq,Nat.reduceAdd]
  obtain ⟨f12,H⟩:=nC H
  refine wL zU zA 3 ?_
  simp only [zV,tS,tZ,dS,dZ,go_sem,Nat.reduceLeDiff,Nat.reduceAdd,Nat.reduceBEq,f12]
  repeat ((with_reducible refine aI ?_ ?_);exact an2)
  refine tY ?_
  refine rg zA ?_
  simp only [go_sem,(by decide:wr IntKind.i64 ((0:Int)+1)=1)]
  refine cD ?_
  refine zC ?_
  refine sq zA ?_
  simp only [go_sem,(by decide:bLt (1) (4)=true)]
  refine zX rfl trivial (fun hc=>?_) (fun hc=>?_)
  rotate_left
  ·cases hc
  refine rg zA ?_
  simp only [go_sem]
  refine zC ?_
  refine xN ?_
  refine zC ?_
  refine sq zA ?_
  simp only [go_sem]
  repeat ((with_reducible refine aI ?_ ?_);exact an2)
  refine zX rfl trivial (fun hc=>?_) (fun hc=>?_)
  ·simp [hk7] at hc
  refine rg zA ?_
  simp only [go_sem]
  refine zC ?_
  obtain ⟨f13,H⟩:=nI H
  obtain ⟨r14,e15,H⟩:=bsi H
  refine rg ct3t2_ok ?_
  simp only [go_sem,Nat.reduceLeDiff,Nat.reduceLT,Nat.reduceAdd,ct3t2_6,eJ,(by decide:bEq (1) (0)=false),f13,e15]
  repeat ((with_reducible refine aI ?_ ?_);exact an2)
  refine zC ?_
  refine sq zA ?_
  simp only [go_sem]
  refine zX rfl trivial (fun hc=>?_) (fun hc=>?_)
  ·have hk16:(bEq r14.2 0)=false:=by simpa using hc
   replace H:=zL hc H
   refine sq zA ?_
   simp only [go_sem]
   refine rg zA ?_
   simp only [go_sem]
   obtain rfl:=Option.some.inj H
   exact fB
  have hk16:(bEq r14.2 0)=true:=by simpa using hc
  replace H:=zK hc H
  refine rg zA ?_
  simp only [go_sem]
  refine qP ?_
  refine wL zU zA 2 ?_
  simp only [zV,tS,tZ,dS,dZ,go_sem,Nat.reduceLT,Nat.reduceAdd]
  repeat ((with_reducible refine aI ?_ ?_);exact an2)
  refine fzO [7,8,9] ?_ ?_
  ·simp only [go_sem,Nat.reduceBEq]
   try exact at0
  simp only [go_sem,Nat.reduceBEq,Nat.reduceAdd]
  obtain ⟨f17,H⟩:=nC H
  refine wL zU zA 3 ?_
  simp only [zV,tS,tZ,dS,dZ,go_sem,Nat.reduceLeDiff,Nat.reduceAdd,Nat.reduceBEq,f17]
  repeat ((with_reducible refine aI ?_ ?_);exact an1)
  refine tY ?_
  refine rg zA ?_
  simp only [go_sem,(by decide:wr IntKind.i64 ((1:Int)+1)=2)]
  refine cD ?_
  refine zC ?_
  refine sq zA ?_
  simp only [go_sem,(by decide:bLt (2) (4)=true)]
  refine zX rfl trivial (fun hc=>?_) (fun hc=>?_)
  rotate_left
  ·cases hc
  refine rg zA ?_
  simp only [go_sem]
  refine zC ?_
  refine xN ?_
  refine zC ?_
  refine sq zA ?_
  simp only [go_sem]
  repeat ((with_reducible refine aI ?_ ?_);exact an1)
  refine zX rfl trivial (fun hc=>?_) (fun hc=>?_)
  ·simp [hk7] at hc
  refine rg zA ?_
  simp only [go_sem]
  refine zC ?_
  obtain ⟨f18,H⟩:=nI H
  obtain ⟨r19,e20,H⟩:=bsi H
  refine rg ct3t2_ok ?_
  simp only [go_sem,Nat.reduceLeDiff,Nat.reduceLT,Nat.reduceAdd,ct3t2_6,eJ,(by decide:bEq (2) (0)=false),f18,e20]
  repeat ((with_reducible refine aI ?_ ?_);exact an1)
  refine zC ?_
  refine sq zA ?_
  simp only [go_sem]
  refine zX rfl trivial (fun hc=>?_) (fun hc=>?_)
  ·have hk21:(bEq r19.2 0)=false:=by simpa using hc
   replace H:=zL hc H
   refine sq zA ?_
   simp only [go_sem]
   refine rg zA ?_
   simp only [go_sem]
   obtain rfl:=Option.some.inj H
   exact fB
  have hk21:(bEq r19.2 0)=true:=by simpa using hc
  replace H:=zK hc H
  refine rg zA ?_
  simp only [go_sem]
  refine qP ?_
  refine wL zU zA 2 ?_
  simp only [zV,tS,tZ,dS,dZ,go_sem,Nat.reduceLT,Nat.reduceAdd]
  repeat ((with_reducible refine aI ?_ ?_);exact an1)
  refine fzO [13,14,15] ?_ ?_
  ·simp only [go_sem,Nat.reduceBEq]
   try exact at0
  simp only [go_sem,Nat.reduceBEq,Nat.reduceAdd]
  obtain ⟨f22,H⟩:=nC H
  refine wL zU zA 3 ?_
  simp only [zV,tS,tZ,dS,dZ,go_sem,Nat.reduceLeDiff,Nat.reduceAdd,Nat.reduceBEq,f22]
  repeat ((with_reducible refine aI ?_ ?_);exact an1)
  refine tY ?_
  refine rg zA ?_
  simp only [go_sem,(by decide:wr IntKind.i64 ((2:Int)+1)=3)]
  refine cD ?_
  refine zC ?_
  refine sq zA ?_
  simp only [go_sem,(by decide:bLt (3) (4)=true)]
  refine zX rfl trivial (fun hc=>?_) (fun hc=>?_)
  rotate_left
  ·cases hc
  refine rg zA ?_
  simp only [go_sem]
  refine zC ?_
  refine xN ?_
  refine zC ?_
  refine sq zA ?_
  simp only [go_sem]
  repeat ((with_reducible refine aI ?_ ?_);exact an1)
  refine zX rfl trivial (fun hc=>?_) (fun hc=>?_)
  ·simp [hk7] at hc
  refine rg zA ?_
  simp only [go_sem]
  refine zC ?_
  obtain ⟨f23,H⟩:=nI H
  obtain ⟨r24,e25,H⟩:=bsi H
  refine rg ct3t2_ok ?_
  simp only [go_sem,Nat.reduceLeDiff,Nat.reduceLT,Nat.reduceAdd,ct3t2_6,eJ,(by decide:bEq (3) (0)=false),f23,e25]
  repeat ((with_reducible refine aI ?_ ?_);exact an1)
  refine zC ?_
  refine sq zA ?_
  simp only [go_sem]
  refine zX rfl trivial (fun hc=>?_) (fun hc=>?_)
  ·have hk26:(bEq r24.2 0)=false:=by simpa using hc
   replace H:=zL hc H
   refine sq zA ?_
   simp only [go_sem]
   refine rg zA ?_
   simp only [go_sem]
   obtain rfl:=Option.some.inj H
   exact fB
  have hk26:(bEq r24.2 0)=true:=by simpa using hc
  replace H:=zK hc H
  refine rg zA ?_
  simp only [go_sem]
  refine qP ?_
  refine wL zU zA 2 ?_
  simp only [zV,tS,tZ,dS,dZ,go_sem,Nat.reduceLT,Nat.reduceAdd]
  repeat ((with_reducible refine aI ?_ ?_);exact an1)
  refine fzO [19,20,21] ?_ ?_
  ·simp only [go_sem,Nat.reduceBEq]
   try exact at0
  simp only [go_sem,Nat.reduceBEq,Nat.reduceAdd]
  obtain ⟨f27,H⟩:=nC H
  refine wL zU zA 3 ?_
  simp only [zV,tS,tZ,dS,dZ,go_sem,Nat.reduceLeDiff,Nat.reduceAdd,Nat.reduceBEq,f27]
  repeat ((with_reducible refine aI ?_ ?_);exact an1)
  refine tY ?_
  refine rg zA ?_
  simp only [go_sem,(by decide:wr IntKind.i64 ((3:Int)+1)=4)]
  refine cD ?_
  refine zC ?_
  refine sq zA ?_
  simp only [go_sem,(by decide:bLt (4) (4)=false)]
  refine zX rfl trivial (fun hc=>?_) (fun hc=>?_)
  ·cases hc
  refine rg zA ?_
  simp only [go_sem]
  refine zC ?_
  refine sq zA ?_
  simp only [go_sem]
  refine xN ?_
  refine xP (fun s:Int=>(.ro 3 p0.length false (enR c_TRegulateChannel p0)::.ro 3 p1.length false (enR c_TMove p1)::.top::.top::.top::.ptr 0 0 0 0::.top::.top::.top::.int .i64 s::tp 343 [])) (fun s=>[.lit 26 [.sl 24 10 0 4 false],.dead,.dead,.dead,.dead,.dead,.dead,.dead,.dead,.dead,.dead,.dead,.dead,.dead,.dead,.dead,.dead,.dead,.dead,.dead,.dead,.dead,.dead,.dead,.row 30 10 4 (uL 3 (uL 2 (uL 1 (cB 10 [.ro 3 r9.1.Table.length false (enR c_TRegulateChannel r9.1.Table),.int .i64 r9.1.Channel,.bool r9.1.Lead,.int .i64 r9.1.Heard,.bool r9.1.Stopped,.bool r9.1.Moving,.int .i64 r9.1.To,.int .i64 r9.1.At,.ro 2 r9.1.Blocked.length false (enR zB r9.1.Blocked),.ro 1 r9.1.Clear.length false (enR yG r9.1.Clear)]) (cB 10 [.ro 3 r14.1.Table.length false (enR c_TRegulateChannel r14.1.Table),.int .i64 r14.1.Channel,.bool r14.1.Lead,.int .i64 r14.1.Heard,.bool r14.1.Stopped,.bool r14.1.Moving,.int .i64 r14.1.To,.int .i64 r14.1.At,.ro 2 r14.1.Blocked.length false (enR zB r14.1.Blocked),.ro 1 r14.1.Clear.length false (enR yG r14.1.Clear)])) (cB 10 [.ro 3 r19.1.Table.length false (enR c_TRegulateChannel r19.1.Table),.int .i64 r19.1.Channel,.bool r19.1.Lead,.int .i64 r19.1.Heard,.bool r19.1.Stopped,.bool r19.1.Moving,.int .i64 r19.1.To,.int .i64 r19.1.At,.ro 2 r19.1.Blocked.length false (enR zB r19.1.Blocked),.ro 1 r19.1.Clear.length false (enR yG r19.1.Clear)])) (cB 10 [.ro 3 r24.1.Table.length false (enR c_TRegulateChannel r24.1.Table),.int .i64 r24.1.Channel,.bool r24.1.Lead,.int .i64 r24.1.Heard,.bool r24.1.Stopped,.bool r24.1.Moving,.int .i64 r24.1.To,.int .i64 r24.1.At,.ro 2 r24.1.Blocked.length false (enR zB r24.1.Blocked),.ro 1 r24.1.Clear.length false (enR yG r24.1.Clear)]))]) (fun e:Unit=>(.top::.ro 3 p1.length false (enR c_TMove p1)::.top::.top::.top::.ptr 0 0 0 0::tp 347 [])) (fun e=>[.lit 26 [.sl 24 10 0 4 false],.dead,.dead,.dead,.dead,.dead,.dead,.dead,.dead,.dead,.dead,.dead,.dead,.dead,.dead,.dead,.dead,.dead,.dead,.dead,.dead,.dead,.dead,.dead,.row 30 10 4 (uL 3 (uL 2 (uL 1 (cB 10 [.ro 3 r9.1.Table.length false (enR c_TRegulateChannel r9.1.Table),.int .i64 r9.1.Channel,.bool r9.1.Lead,.int .i64 r9.1.Heard,.bool r9.1.Stopped,.bool r9.1.Moving,.int .i64 r9.1.To,.int .i64 r9.1.At,.ro 2 r9.1.Blocked.length false (enR zB r9.1.Blocked),.ro 1 r9.1.Clear.length false (enR yG r9.1.Clear)]) (cB 10 [.ro 3 r14.1.Table.length false (enR c_TRegulateChannel r14.1.Table),.int .i64 r14.1.Channel,.bool r14.1.Lead,.int .i64 r14.1.Heard,.bool r14.1.Stopped,.bool r14.1.Moving,.int .i64 r14.1.To,.int .i64 r14.1.At,.ro 2 r14.1.Blocked.length false (enR zB r14.1.Blocked),.ro 1 r14.1.Clear.length false (enR yG r14.1.Clear)])) (cB 10 [.ro 3 r19.1.Table.length false (enR c_TRegulateChannel r19.1.Table),.int .i64 r19.1.Channel,.bool r19.1.Lead,.int .i64 r19.1.Heard,.bool r19.1.Stopped,.bool r19.1.Moving,.int .i64 r19.1.To,.int .i64 r19.1.At,.ro 2 r19.1.Blocked.length false (enR zB r19.1.Blocked),.ro 1 r19.1.Clear.length false (enR yG r19.1.Clear)])) (cB 10 [.ro 3 r24.1.Table.length false (enR c_TRegulateChannel r24.1.Table),.int .i64 r24.1.Channel,.bool r24.1.Lead,.int .i64 r24.1.Heard,.bool r24.1.Stopped,.bool r24.1.Moving,.int .i64 r24.1.To,.int .i64 r24.1.At,.ro 2 r24.1.Blocked.length false (enR zB r24.1.Blocked),.ro 1 r24.1.Clear.length false (enR yG r24.1.Clear)]))]) H ?_ (fun v1_1 o H hn1_1 hn2_1=>?_) (fun e H=>?_)
  ·refine Sq [(0,25)] ?_ ?_
   ·simp [CvL,Cv,yB,tp]
   ·exact dQ
  ·unfold F3_L1 at H
   try dsimp only at H ⊢
   try simp only [tp]
   refine zC ?_
   refine sq zA ?_
   simp only [go_sem,Nat.reduceAdd]
   repeat ((with_reducible refine aI ?_ ?_);exact an1)
   refine condM' rfl trivial (fun hc=>?_) (fun hc=>?_)
   ·have hk28:(bLt v1_1 (p0.length:Nat))=false:=by simpa using hc
    replace H:=zK hc H
    refine rg zA ?_
    simp only [go_sem]
    refine ⟨_,(Option.some.inj H).symm,?_⟩
    refine Sq [(0,25)] ?_ ?_
    ·simp [CvL,Cv,yB]
    ·exact dQ
   have hk28:(bLt v1_1 (p0.length:Nat))=true:=by simpa using hc
   replace H:=zL hc H
   refine rg zA ?_
   simp only [go_sem]
   refine zC ?_
   refine xN ?_
   refine zC ?_
   obtain ⟨f29,H⟩:=nI H
   refine rg zA ?_
   simp only [go_sem,Nat.reduceLT,Nat.reduceAdd,f29]
   repeat ((with_reducible refine aI ?_ ?_);exact an4)
   refine zX rfl trivial (fun hc=>?_) (fun hc=>?_)
   ·have hk30:((gd p0 v1_1.toNat).Radar)=true:=by simpa using hc
    replace H:=zL hc H
    refine sq zA ?_
    simp only [go_sem]
    refine rg zA ?_
    simp only [go_sem]
    have H:=hn2_1 _ (Option.some.inj H).symm
    obtain rfl:=Option.some.inj H
    exact fB
   have hk30:((gd p0 v1_1.toNat).Radar)=false:=by simpa using hc
   replace H:=zK hc H
   refine rg zA ?_
   simp only [go_sem]
   refine rg zA ?_
   simp only [go_sem]
   refine ⟨_,(Option.some.inj H).symm,?_⟩
   refine Sq [(0,25)] ?_ ?_
   ·simp [CvL,Cv,yB]
   ·exact dQ
  ·try dsimp only at H ⊢
   try simp only [tp]
   try simp only [yS]
   refine sq zA ?_
   simp only [go_sem,Nat.reduceAdd]
   refine zC ?_
   refine qP ?_
   refine wL zU zA 0 ?_
   simp only [zV,tZ,dZ,go_sem]
   repeat ((with_reducible refine aI ?_ ?_);exact an4)
   refine makeMapO rfl rfl (fun mk31=>?_)
   simp only [go_sem]
   refine wL zU zA 2 ?_
   simp only [zV,tS,tZ,dS,dZ,go_sem,Nat.reduceAdd]
   repeat ((with_reducible refine aI ?_ ?_);exact an4)
   refine tY ?_
   refine sq zA ?_
   simp only [go_sem,Nat.reduceAdd]
   repeat ((with_reducible refine aI ?_ ?_);exact an4)
   refine sq zA ?_
   simp only [go_sem]
   refine sq zA ?_
   simp only [go_sem]
   refine zC ?_
   refine sq zA ?_
   simp only [go_sem]
   refine xN ?_
   refine xP (fun s:Int × Int × Bool × (List TRegulate) × (List (List Int)) × (List (Int × Int))=>(.top::.ro 3 p1.length false (enR c_TMove p1)::.top::.top::.top::.ptr 0 0 0 0::tp 4 (.ptr 25 0 0 0::.ptr 27 0 0 0::.ptr 28 0 0 0::.fn 7 [.ptr 0 0 0 0,.ptr 28 0 0 0,.ptr 27 0 0 0,.ptr 25 0 0 0]::.bool s.2.2.1::.int .i64 s.1::tp 337 []))) (fun s=>(.lit 26 [.sl 29 10 0 s.2.2.2.1.length false]::.dead::.dead::.dead::.dead::.dead::.dead::.dead::.dead::.dead::.dead::.dead::.dead::.dead::.dead::.dead::.dead::.dead::.dead::.dead::.dead::.dead::.dead::.dead::.dead::.lit 36 [.sl 30 1 0 s.2.2.2.2.1.length false]::.dead::.lit 37 [.val (.map (some mk31))]::.lit 3 [.int .i64 s.2.1]::.row 30 10 s.2.2.2.1.length (enR zG s.2.2.2.1)::.row 39 1 s.2.2.2.2.1.length (enR wD s.2.2.2.2.1)::.mapb mk31 s.2.2.2.2.2::[])) (fun e:Bool=>(tp 14 (.bool e::tp 338 []))) (fun e=>[.dead,.dead,.dead,.dead,.dead,.dead,.dead,.dead,.dead,.dead,.dead,.dead,.dead,.dead,.dead,.dead,.dead,.dead,.dead,.dead,.dead,.dead,.dead,.dead,.dead,.dead,.dead,.dead,.dead]) H ?_ (fun s o H hn1_2 hn2_2=>?_) (fun w2_7 H=>?_)
   ·refine xI ⟨[some 0,some 1,some 2,some 3,some 4,some 5,some 6,some 7,some 8,some 9,some 10,some 11,some 12,some 13,some 14,some 15,some 16,some 17,some 18,some 19,some 20,some 21,some 22,some 23,some 24,some 25,some 26,some 27,some 28,some 24,none,some 26],?_,?_,by rfl,by rfl⟩
    ·simp [CvL,Cv,yB,tp]
    ·refine pQ ?_
     exact ⟨zJ wY cl (vO (f:=zG) (([r9.1] ++ [r14.1]) ++ [r19.1]) [r24.1] (vO (f:=zG) ([r9.1] ++ [r14.1]) [r19.1] (vO (f:=zG) [r9.1] [r14.1] (wS (f:=zG) [r9.1] (fun _ _=>rfl) rfl) (wS (f:=zG) [r14.1] (fun _ _=>rfl) rfl)) (wS (f:=zG) [r19.1] (fun _ _=>rfl) rfl)) (wS (f:=zG) [r24.1] (fun _ _=>rfl) rfl)),zQ,dQ⟩
   ·obtain ⟨v2_1,v2_2,v2_3,v2_4,v2_5,v2_6⟩:=s
    unfold F3_L2 at H
    try dsimp only at H ⊢
    try simp only [tp]
    refine zC ?_
    refine sq zA ?_
    simp only [go_sem,Nat.reduceAdd]
    repeat ((with_reducible refine aI ?_ ?_);exact an3)
    refine condM' rfl trivial (fun hc=>?_) (fun hc=>?_)
    ·have hk32:((bLt v2_1 (p1.length:Nat)) && v2_3)=false:=by first|simpa using hc|simpa only [Bool.not_eq_true',Bool.not_eq_false'] using hc
     replace H:=zK hc H
     refine rg zA ?_
     simp only [go_sem]
     refine ⟨_,(Option.some.inj H).symm,?_⟩
     refine Sq [(0,29)] ?_ ?_
     ·simp [CvL,Cv]
     ·exact dQ
    have hk32:((bLt v2_1 (p1.length:Nat)) && v2_3)=true:=by first|simpa using hc|simpa only [Bool.not_eq_true',Bool.not_eq_false'] using hc
    replace H:=zL hc H
    refine rg zA ?_
    simp only [go_sem]
    refine zC ?_
    refine xN ?_
    refine zC ?_
    obtain ⟨f33,H⟩:=nI H
    refine rg zA ?_
    simp only [go_sem,Nat.reduceLT,Nat.reduceAdd,f33]
    repeat ((with_reducible refine aI ?_ ?_);exact an4)
    refine sq zA ?_
    simp only [go_sem,Nat.reduceLeDiff,Nat.reduceLT,Nat.reduceAdd]
    repeat ((with_reducible refine aI ?_ ?_);exact an4)
    refine sq zA ?_
    simp only [go_sem]
    refine zC ?_
    refine sq zA ?_
    simp only [go_sem,Nat.reduceLeDiff,Nat.reduceLT,Nat.reduceAdd]
    repeat ((with_reducible refine aI ?_ ?_);exact an4)
    refine uJ (fun e:Bool × Int × Int × (List TRegulate) × (List (List Int)) × (List (Int × Int))=>(.top::.ro 3 p1.length false (enR c_TMove p1)::.top::.top::.top::.ptr 0 0 0 0::tp 4 (.ptr 25 0 0 0::.ptr 27 0 0 0::.ptr 28 0 0 0::.fn 7 [.ptr 0 0 0 0,.ptr 28 0 0 0,.ptr 27 0 0 0,.ptr 25 0 0 0]::.bool e.1::.int .i64 v2_1::.top::.int .i64 e.2.1::.int .i64 e.2.2.1::tp 334 []))) (fun e=>(.lit 26 [.sl 33 10 0 e.2.2.2.1.length false]::.dead::.dead::.dead::.dead::.dead::.dead::.dead::.dead::.dead::.dead::.dead::.dead::.dead::.dead::.dead::.dead::.dead::.dead::.dead::.dead::.dead::.dead::.dead::.dead::.lit 36 [.sl 34 1 0 e.2.2.2.2.1.length false]::.dead::.lit 37 [.val (.map (some mk31))]::.lit 3 [.int .i64 (wr .i64 (v2_2+((gd p1 v2_1.toNat).Wait)))]::.dead::.dead::.dead::.dead::.row 30 10 e.2.2.2.1.length (enR zG e.2.2.2.1)::.row 39 1 e.2.2.2.2.1.length (enR wD e.2.2.2.2.1)::.mapb mk31 e.2.2.2.2.2::[])) H (fun o H hn1_3 hn2_3=>?_) (fun e H=>?_)
    ·unfold F3_L3 at H
     try dsimp only at H ⊢
     try simp only [tp]
     refine xN ?_
     refine zC ?_
     refine sq zA ?_
     simp only [go_sem,Nat.reduceAdd]
     refine uJ (fun e:Bool=>(.top::.ro 3 p1.length false (enR c_TMove p1)::.top::.top::.top::.ptr 0 0 0 0::tp 4 (.ptr 25 0 0 0::.ptr 27 0 0 0::.ptr 28 0 0 0::.fn 7 [.ptr 0 0 0 0,.ptr 28 0 0 0,.ptr 27 0 0 0,.ptr 25 0 0 0]::.bool v2_3::.int .i64 v2_1::.ptr 32 0 0 0::.int .i64 0::.int .i64 3::tp 92 (.int .u8 ((gd p1 v2_1.toNat).Kind)::.bool e::tp 240 [])))) (fun e=>(.lit 26 [.sl 29 10 0 v2_4.length false]::.dead::.dead::.dead::.dead::.dead::.dead::.dead::.dead::.dead::.dead::.dead::.dead::.dead::.dead::.dead::.dead::.dead::.dead::.dead::.dead::.dead::.dead::.dead::.dead::.lit 36 [.sl 30 1 0 v2_5.length false]::.dead::.lit 37 [.val (.map (some mk31))]::.lit 3 [.int .i64 (wr .i64 (v2_2+((gd p1 v2_1.toNat).Wait)))]::.row 30 10 v2_4.length (enR zG v2_4)::.row 39 1 v2_5.length (enR wD v2_5)::.mapb mk31 v2_6::.lit 48 [.int .u8 ((gd p1 v2_1.toNat).Kind),.int .i64 ((gd p1 v2_1.toNat).Wait),.int .i64 ((gd p1 v2_1.toNat).N)]::[])) H (fun o H hn1_4 hn2_4=>?_) (fun w4_1 H=>?_)
     ·unfold F3_L4 at H
      try dsimp only at H ⊢
      try simp only [tp]
      refine zX rfl trivial (fun hc=>?_) (fun hc=>?_)
      ·have hk34:(bEq ((gd p1 v2_1.toNat).Kind) 0)=true:=by simpa using hc
       replace H:=zL hc H
       refine rg zA ?_
       simp only [go_sem,Nat.reduceAdd]
       refine ⟨_,(Option.some.inj H).symm,?_⟩
       refine Sq [(0,33)] ?_ ?_
       ·simp [CvL,Cv,yB]
       ·exact dQ
      have hk34:(bEq ((gd p1 v2_1.toNat).Kind) 0)=false:=by simpa using hc
      replace H:=zK hc H
      refine rg zA ?_
      simp only [go_sem,Nat.reduceAdd]
      refine ⟨_,(Option.some.inj H).symm,?_⟩
      refine Sq [(0,33)] ?_ ?_
      ·simp [CvL,Cv,yB]
      ·exact dQ
     ·try dsimp only at H ⊢
      try simp only [tp]
      try simp only [yS]
      refine zX rfl trivial (fun hc=>?_) (fun hc=>?_)
      ·have hk35:(w4_1)=true:=by simpa using hc
       replace H:=zL hc H
       refine sq zA ?_
       simp only [go_sem]
       refine zC ?_
       refine sq zA ?_
       simp only [go_sem,Nat.reduceLeDiff,Nat.reduceLT,Nat.reduceAdd]
       repeat ((with_reducible refine aI ?_ ?_);exact an4)
       refine uJ (fun e:Int=>(.top::.ro 3 p1.length false (enR c_TMove p1)::.top::.top::.top::.ptr 0 0 0 0::tp 4 (.ptr 25 0 0 0::.ptr 27 0 0 0::.ptr 28 0 0 0::.fn 7 [.ptr 0 0 0 0,.ptr 28 0 0 0,.ptr 27 0 0 0,.ptr 25 0 0 0]::.top::.int .i64 v2_1::.ptr 32 0 0 0::.int .i64 0::.top::.int .i64 e::tp 333 []))) (fun e=>(.lit 26 [.sl 29 10 0 v2_4.length false]::.dead::.dead::.dead::.dead::.dead::.dead::.dead::.dead::.dead::.dead::.dead::.dead::.dead::.dead::.dead::.dead::.dead::.dead::.dead::.dead::.dead::.dead::.dead::.dead::.lit 36 [.sl 30 1 0 v2_5.length false]::.dead::.lit 37 [.val (.map (some mk31))]::.lit 3 [.int .i64 (wr .i64 (v2_2+((gd p1 v2_1.toNat).Wait)))]::.row 30 10 v2_4.length (enR zG v2_4)::.row 39 1 v2_5.length (enR wD v2_5)::.mapb mk31 v2_6::.lit 48 [.int .u8 ((gd p1 v2_1.toNat).Kind),.int .i64 ((gd p1 v2_1.toNat).Wait),.int .i64 ((gd p1 v2_1.toNat).N)]::[])) H (fun o H hn1_5 hn2_5=>?_) (fun w5_1 H=>?_)
       ·unfold F3_L5 at H
        try dsimp only at H ⊢
        try simp only [tp]
        refine condM' rfl trivial (fun hc=>?_) (fun hc=>?_)
        ·have hk36:(bEq ((gd p1 v2_1.toNat).Kind) 1)=false:=by simpa using hc
         replace H:=zK hc H
         refine rg zA ?_
         simp only [go_sem,Nat.reduceAdd]
         refine ⟨_,(Option.some.inj H).symm,?_⟩
         refine Sq [(0,33)] ?_ ?_
         ·simp [CvL,Cv,yB]
         ·exact dQ
        have hk36:(bEq ((gd p1 v2_1.toNat).Kind) 1)=true:=by simpa using hc
        replace H:=zL hc H
        refine rg zA ?_
        simp only [go_sem,Nat.reduceLT,Nat.reduceAdd]
        repeat ((with_reducible refine aI ?_ ?_);exact an4)
        refine ⟨_,(Option.some.inj H).symm,?_⟩
        refine Sq [(0,33)] ?_ ?_
        ·simp [CvL,Cv,yB]
        ·exact dQ
       ·try dsimp only at H ⊢
        try simp only [tp]
        try simp only [yS]
        refine zC ?_
        obtain ⟨f37,H⟩:=nI H
        obtain ⟨r38,e39,H⟩:=bsi H
        refine xC zU ct3t3_ok 5 (by kernel_rfl) (by kernel_rfl) ?_
        intro an han
        simp only [vH,wI,tC,xrD,xoD,uY,vL,List.append_nil,xF,refs,vN,mask,wN,place,xU,wO,xV,hit,inL,xH,ren,qB,rnN,nrH,nrB,nrL,nr,rZ,rS,Nat.sub_self,Nat.add_zero,Nat.zero_add,Nat.reduceSub,Nat.lt_add_one,go_sem,Nat.reduceLeDiff,Nat.reduceLT,Nat.reduceAdd,Nat.reduceSub,Nat.reduceBEq,ct3t3_9,body9,f37,e39]
        repeat ((with_reducible refine aI ?_ ?_);exact an5)
        refine zC ?_
        refine wG (c:=(bEq r38.2.2 20)) (fun hg40=>?_) (fun hg40=>?_)
        ·replace H:=zL hg40 H
         have hx40:(bEq r38.2.2 0)=false:=bEq_ex (a:=20) (by assumption) (by decide)
         refine rg zA ?_
         simp only [go_sem,Nat.reduceLT,Nat.reduceAdd,hg40,hx40]
         repeat ((with_reducible refine aI ?_ ?_);exact an3)
         refine rg zA ?_
         simp only [go_sem]
         refine ⟨_,(Option.some.inj H).symm,?_⟩
         refine Sq [(0,33),(29,3)] ?_ ?_
         ·simp [CvL,Cv,yB]
         ·exact dQ
        replace H:=zK hg40 H
        refine wG (c:=(bEq r38.2.2 0)) (fun hg41=>?_) (fun hg41=>?_)
        ·replace H:=zL hg41 H
         refine qP ?_
         refine wL zU zA 10 ?_
         simp only [zV,tS,tZ,dS,dZ,go_sem,Nat.reduceLT,Nat.reduceAdd,hg40,hg41]
         repeat ((with_reducible refine aI ?_ ?_);exact an3)
         refine inlG (rs:=[.tmp 10]) Tryz.func7 (by kernel_rfl) rfl rfl Tryz.ntmps7 (caps:=[.ptr 0 0 0 0,.ptr 28 0 0 0,.ptr 27 0 0 0,.ptr 25 0 0 0]) (tc:=[.int .i64 w5_1,.agg [.sl 33 3 0 r38.1.Table.length false,.int .i64 r38.1.Channel,.bool r38.1.Lead,.int .i64 r38.1.Heard,.bool r38.1.Stopped,.bool r38.1.Moving,.int .i64 r38.1.To,.int .i64 r38.1.At,.sl 34 2 0 r38.1.Blocked.length false,.sl 35 1 0 r38.1.Clear.length false],.sl 36 4 0 r38.2.1.length false,.ptr 0 0 0 0,.ptr 28 0 0 0,.ptr 27 0 0 0,.ptr 25 0 0 0]) (by first|rfl|simp only [gok,go_sem,Nat.reduceLeDiff,Nat.reduceLT,Nat.reduceAdd,Nat.reduceMul,Nat.reduceSub,Nat.reduceEqDiff,Nat.reduceBEq,Int.reduceToNat,reduceCtorEq,hg40,hg41]) rfl (by simp only [go_sem]) rfl ?_
         simp only [lC,lN,Nat.reduceAdd,Nat.reduceSub,rS,rZ,aC,aN]
         refine joinR_den (fun e:Bool × (List TRegulate) × (List (List Int)) × (List (Int × Int))=>(tp 10 (.bool e.1::tp 63 []))) (fun e=>(.lit 26 [.sl 38 10 0 e.2.1.length false]::.dead::.dead::.dead::.dead::.dead::.dead::.dead::.dead::.dead::.dead::.dead::.dead::.dead::.dead::.dead::.dead::.dead::.dead::.dead::.dead::.dead::.dead::.dead::.dead::.lit 36 [.sl 39 1 0 e.2.2.1.length false]::.dead::.lit 37 [.val (.map (some mk31))]::.lit 3 [.int .i64 (wr .i64 (v2_2+((gd p1 v2_1.toNat).Wait)))]::.dead::.dead::.dead::.dead::.dead::.dead::.dead::.dead::.dead::.row 30 10 e.2.1.length (enR zG e.2.1)::.row 39 1 e.2.2.1.length (enR wD e.2.2.1)::.mapb mk31 e.2.2.2::[])) H (fun o H hn1_6 hn2_6=>?_) (fun e H=>?_)
         ·unfold F3_L6 at H
          try dsimp only at H ⊢
          try simp only [tp]
          refine sq zA ?_
          simp only [go_sem,Nat.reduceAdd]
          refine zC ?_
          refine zC ?_
          obtain ⟨f42,H⟩:=zP.1 H
          replace f42:=xR.1 f42
          replace f42:=fun g=>uF.1 (f42 g)
          refine rg zA ?_
          simp only [go_sem,Nat.reduceLeDiff,Nat.reduceLT,Nat.reduceAdd]
          repeat ((with_reducible refine And.intro ?_ ?_);focus exact bn3 f42)
          refine uJ (fun e:List (Int × Int)=>(.int .i64 w5_1::.top::.sl 36 4 0 r38.2.1.length false::.ptr 0 0 0 0::.top::.ptr 27 0 0 0::.ptr 25 0 0 0::.top::.ptr 38 0 0 0::tp 65 [])) (fun e=>(.lit 26 [.sl 29 10 0 v2_4.length false]::.dead::.dead::.dead::.dead::.dead::.dead::.dead::.dead::.dead::.dead::.dead::.dead::.dead::.dead::.dead::.dead::.dead::.dead::.dead::.dead::.dead::.dead::.dead::.dead::.lit 36 [.sl 30 1 0 v2_5.length false]::.dead::.lit 37 [.val (.map (some mk31))]::.lit 3 [.int .i64 (wr .i64 (v2_2+((gd p1 v2_1.toNat).Wait)))]::.row 30 10 v2_4.length (enR zG v2_4)::.row 39 1 v2_5.length (enR wD v2_5)::.dead::.dead::.row 35 3 r38.1.Table.length (enR c_TRegulateChannel r38.1.Table)::.row 97 2 r38.1.Blocked.length (enR zB r38.1.Blocked)::.row 3 1 r38.1.Clear.length (enR yG r38.1.Clear)::.row 43 4 r38.2.1.length (enR zR r38.2.1)::.dead::.lit 30 [.sl 33 3 0 r38.1.Table.length false,.int .i64 r38.1.Channel,.bool r38.1.Lead,.int .i64 r38.1.Heard,.bool r38.1.Stopped,.bool r38.1.Moving,.int .i64 r38.1.To,.int .i64 r38.1.At,.sl 34 2 0 r38.1.Blocked.length false,.sl 35 1 0 r38.1.Clear.length false]::.mapb mk31 e::[])) H (fun o H hn1_7 hn2_7=>?_) (fun w7_4 H=>?_)
          ·unfold F3_L7 at H
           try dsimp only at H ⊢
           try simp only [tp]
           refine condM' rfl trivial (fun hc=>?_) (fun hc=>?_)
           ·have hk43:(((bEq w5_1 0) && r38.1.Stopped) && (!((gd v2_4 0).Stopped)))=false:=by first|simpa using hc|simpa only [Bool.not_eq_true',Bool.not_eq_false'] using hc
            replace H:=zK hc H
            refine rg zA ?_
            simp only [go_sem,Nat.reduceAdd]
            refine ⟨_,(Option.some.inj H).symm,?_⟩
            refine Sq [(0,39),(31,1)] ?_ ?_
            ·simp [CvL,Cv,yB]
            ·exact dQ
           have hk43:(((bEq w5_1 0) && r38.1.Stopped) && (!((gd v2_4 0).Stopped)))=true:=by first|simpa using hc|simpa only [Bool.not_eq_true',Bool.not_eq_false'] using hc
           replace H:=zL hc H
           obtain ⟨f44,H⟩:=nI H
           refine draw_tail zU zA 6 (by kernel_rfl) (by kernel_rfl) (by kernel_rfl) ?_
           simp only [zV,tS,tZ,dS,dZ,go_sem,Nat.reduceLeDiff,Nat.reduceLT,Nat.reduceAdd,f44]
           repeat ((with_reducible refine aI ?_ ?_);exact an4)
           obtain ⟨f45,H⟩:=zP.1 H
           replace f45:=decide_eq_true_iff.1 f45
           refine mapUpdateO (kt:=3) (et:=3) (b:=31) (k:=mk31) (m:=v2_6) (x:=(gd v2_4 0).Channel) (v:=wr .i64 (v2_2+((gd p1 v2_1.toNat).Wait))) rfl rfl (by kernel_rfl) (by kernel_rfl) (by first|exact trivial|(simp only [go_sem,Nat.reduceLeDiff,Nat.reduceLT,Nat.reduceAdd,Nat.reduceMul,Nat.reduceSub,Nat.reduceEqDiff,Nat.reduceBEq,Int.reduceToNat,reduceCtorEq];done)|simp [og]) (by first|exact trivial|(simp only [go_sem,Nat.reduceLeDiff,Nat.reduceLT,Nat.reduceAdd,Nat.reduceMul,Nat.reduceSub,Nat.reduceEqDiff,Nat.reduceBEq,Int.reduceToNat,reduceCtorEq];done)|simp [og]) (by first|exact trivial|(simp only [go_sem,Nat.reduceLeDiff,Nat.reduceLT,Nat.reduceAdd,Nat.reduceMul,Nat.reduceSub,Nat.reduceEqDiff,Nat.reduceBEq,Int.reduceToNat,reduceCtorEq];done)|simp [og]) rfl rfl rfl rfl f45 ?_
           simp only [go_sem]
           refine wL zU zA 0 ?_
           simp only [zV,tZ,dZ,go_sem]
           repeat ((with_reducible refine aI ?_ ?_);exact an4)
           refine tY ?_
           refine ⟨_,(Option.some.inj H).symm,?_⟩
           refine Sq [(0,39),(31,1)] ?_ ?_
           ·simp [CvL,Cv,yB]
           ·exact dQ
          ·try dsimp only at H ⊢
           try simp only [tp]
           try simp only [yS]
           refine zC ?_
           refine zC ?_
           obtain ⟨f46,H⟩:=zP.1 H
           replace f46:=xR.1 f46
           replace f46:=fun g=>uF.1 (f46 g)
           refine xZ zU zA (by kernel_rfl) (by kernel_rfl) ?_
           simp only [go_sem,Nat.reduceLeDiff,Nat.reduceLT,Nat.reduceAdd]
           repeat ((with_reducible refine And.intro ?_ ?_);focus exact bn3 f46)
           refine uJ (fun e:List (Int × Int)=>(.int .i64 w5_1::.top::.sl 36 4 0 r38.2.1.length false::.ptr 0 0 0 0::.top::.top::.ptr 25 0 0 0::.top::.ptr 38 0 0 0::tp 65 [])) (fun e=>(.lit 26 [.sl 29 10 0 v2_4.length false]::.dead::.dead::.dead::.dead::.dead::.dead::.dead::.dead::.dead::.dead::.dead::.dead::.dead::.dead::.dead::.dead::.dead::.dead::.dead::.dead::.dead::.dead::.dead::.dead::.lit 36 [.sl 30 1 0 v2_5.length false]::.dead::.lit 37 [.val (.map (some mk31))]::.lit 3 [.int .i64 (wr .i64 (v2_2+((gd p1 v2_1.toNat).Wait)))]::.row 30 10 v2_4.length (enR zG v2_4)::.row 39 1 v2_5.length (enR wD v2_5)::.dead::.dead::.row 35 3 r38.1.Table.length (enR c_TRegulateChannel r38.1.Table)::.row 97 2 r38.1.Blocked.length (enR zB r38.1.Blocked)::.row 3 1 r38.1.Clear.length (enR yG r38.1.Clear)::.row 43 4 r38.2.1.length (enR zR r38.2.1)::.dead::.lit 30 [.sl 33 3 0 r38.1.Table.length false,.int .i64 r38.1.Channel,.bool r38.1.Lead,.int .i64 r38.1.Heard,.bool r38.1.Stopped,.bool r38.1.Moving,.int .i64 r38.1.To,.int .i64 r38.1.At,.sl 34 2 0 r38.1.Blocked.length false,.sl 35 1 0 r38.1.Clear.length false]::.dead::.mapb mk31 e::[])) H (fun o H hn1_8 hn2_8=>?_) (fun w8_4 H=>?_)
           ·unfold F3_L8 at H
            try dsimp only at H ⊢
            try simp only [tp]
            refine condM' rfl trivial (fun hc=>?_) (fun hc=>?_)
            ·have hk47:((bEq w5_1 0) && (!bEq r38.1.Channel ((gd v2_4 0).Channel)))=false:=by first|simpa using hc|simpa only [Bool.not_eq_true',Bool.not_eq_false'] using hc
             replace H:=zK hc H
             refine rg zA ?_
             simp only [go_sem,Nat.reduceAdd]
             refine ⟨_,(Option.some.inj H).symm,?_⟩
             refine Sq [(0,40),(39,1)] ?_ ?_
             ·simp [CvL,Cv,yB]
             ·exact dQ
            have hk47:((bEq w5_1 0) && (!bEq r38.1.Channel ((gd v2_4 0).Channel)))=true:=by first|simpa using hc|simpa only [Bool.not_eq_true',Bool.not_eq_false'] using hc
            replace H:=zL hc H
            refine qP ?_
            refine wL zU zA 3 ?_
            simp only [zV,tS,tZ,dS,dZ,go_sem,Nat.reduceLeDiff,Nat.reduceLT,Nat.reduceAdd]
            repeat ((with_reducible refine aI ?_ ?_);exact an0)
            refine deleteO (kt:=3) (et:=3) (b:=39) (k:=mk31) (m:=w7_4) (x:=r38.1.Channel) rfl rfl rfl (by kernel_rfl) (by kernel_rfl) (by first|exact trivial|(simp only [go_sem,Nat.reduceLeDiff,Nat.reduceLT,Nat.reduceAdd,Nat.reduceMul,Nat.reduceSub,Nat.reduceEqDiff,Nat.reduceBEq,Int.reduceToNat,reduceCtorEq];done)|simp [og]) (by first|exact trivial|(simp only [go_sem,Nat.reduceLeDiff,Nat.reduceLT,Nat.reduceAdd,Nat.reduceMul,Nat.reduceSub,Nat.reduceEqDiff,Nat.reduceBEq,Int.reduceToNat,reduceCtorEq];done)|simp [og]) rfl rfl rfl ?_
            simp only [go_sem]
            refine wL zU zA 0 ?_
            simp only [zV,tZ,dZ,go_sem]
            repeat ((with_reducible refine aI ?_ ?_);exact an0)
            refine tY ?_
            refine ⟨_,(Option.some.inj H).symm,?_⟩
            refine Sq [(0,40),(39,1)] ?_ ?_
            ·simp [CvL,Cv,yB]
            ·exact dQ
           ·try dsimp only at H ⊢
            try simp only [tp]
            try simp only [yS]
            refine zC ?_
            refine qP ?_
            obtain ⟨f48,H⟩:=nI H
            refine wL zU zA 4 ?_
            simp only [zV,tS,tZ,dS,dZ,go_sem,Nat.reduceLT,Nat.reduceAdd,f48]
            repeat ((with_reducible refine aI ?_ ?_);exact an4)
            refine fzO [33,34,35] ?_ ?_
            ·simp only [go_sem,Nat.reduceBEq]
             try exact at0
            simp only [go_sem,Nat.reduceBEq,Nat.reduceAdd]
            refine wL zU zA 1 ?_
            simp only [zV,tS,tZ,dS,dZ,go_sem,Nat.reduceAdd]
            repeat ((with_reducible refine aI ?_ ?_);exact an4)
            refine tY ?_
            refine zC ?_
            refine sq zA ?_
            simp only [go_sem]
            refine xN ?_
            refine xP (fun s:Int × (List (List Int))=>(.int .i64 w5_1::.top::.sl 36 4 0 r38.2.1.length false::.top::.top::.top::.ptr 25 0 0 0::tp 4 (.int .i64 s.1::tp 62 []))) (fun s=>(.lit 26 [.sl 29 10 0 v2_4.length false]::.dead::.dead::.dead::.dead::.dead::.dead::.dead::.dead::.dead::.dead::.dead::.dead::.dead::.dead::.dead::.dead::.dead::.dead::.dead::.dead::.dead::.dead::.dead::.dead::.lit 36 [.sl 41 1 0 s.2.length false]::.dead::.lit 37 [.val (.map (some mk31))]::.lit 3 [.int .i64 (wr .i64 (v2_2+((gd p1 v2_1.toNat).Wait)))]::.row 30 10 v2_4.length (upc (enR zG v2_4) w5_1.toNat 0 [.ro 3 r38.1.Table.length false (enR c_TRegulateChannel r38.1.Table),.int .i64 r38.1.Channel,.bool r38.1.Lead,.int .i64 r38.1.Heard,.bool r38.1.Stopped,.bool r38.1.Moving,.int .i64 r38.1.To,.int .i64 r38.1.At,.ro 2 r38.1.Blocked.length false (enR zB r38.1.Blocked),.ro 1 r38.1.Clear.length false (enR yG r38.1.Clear)])::.dead::.dead::.dead::.dead::.dead::.dead::.row 43 4 r38.2.1.length (enR zR r38.2.1)::.dead::.dead::.dead::.mapb mk31 w8_4::.row 39 1 s.2.length (enR wD s.2)::[])) (fun e:List (List Int)=>(tp 74 [])) (fun e=>(.lit 26 [.sl 29 10 0 v2_4.length false]::.dead::.dead::.dead::.dead::.dead::.dead::.dead::.dead::.dead::.dead::.dead::.dead::.dead::.dead::.dead::.dead::.dead::.dead::.dead::.dead::.dead::.dead::.dead::.dead::.lit 36 [.sl 41 1 0 e.length false]::.dead::.lit 37 [.val (.map (some mk31))]::.lit 3 [.int .i64 (wr .i64 (v2_2+((gd p1 v2_1.toNat).Wait)))]::.row 30 10 v2_4.length (upc (enR zG v2_4) w5_1.toNat 0 [.ro 3 r38.1.Table.length false (enR c_TRegulateChannel r38.1.Table),.int .i64 r38.1.Channel,.bool r38.1.Lead,.int .i64 r38.1.Heard,.bool r38.1.Stopped,.bool r38.1.Moving,.int .i64 r38.1.To,.int .i64 r38.1.At,.ro 2 r38.1.Blocked.length false (enR zB r38.1.Blocked),.ro 1 r38.1.Clear.length false (enR yG r38.1.Clear)])::.dead::.dead::.dead::.dead::.dead::.dead::.dead::.dead::.dead::.dead::.mapb mk31 w8_4::.row 39 1 e.length (enR wD e)::[])) H ?_ (fun s o H hn1_9 hn2_9=>?_) (fun w9_4 H=>?_)
            ·refine Sq [(0,41),(30,1)] ?_ ?_
             ·simp [CvL,Cv,yB,tp]
             ·exact dQ
            ·obtain ⟨v9_1,v9_2⟩:=s
             unfold F3_L9 at H
             try dsimp only at H ⊢
             try simp only [tp]
             refine zC ?_
             refine sq zA ?_
             simp only [go_sem,Nat.reduceAdd]
             repeat ((with_reducible refine aI ?_ ?_);exact an0)
             refine condM' rfl trivial (fun hc=>?_) (fun hc=>?_)
             ·have hk49:(bLt v9_1 (r38.2.1.length:Nat))=false:=by simpa using hc
              replace H:=zK hc H
              refine rg zA ?_
              simp only [go_sem]
              refine ⟨_,(Option.some.inj H).symm,?_⟩
              refine Sq [(0,42)] ?_ ?_
              ·simp [CvL,Cv]
              ·exact dQ
             have hk49:(bLt v9_1 (r38.2.1.length:Nat))=true:=by simpa using hc
             replace H:=zL hc H
             refine rg zA ?_
             simp only [go_sem]
             refine zC ?_
             refine xN ?_
             refine zC ?_
             obtain ⟨f50,H⟩:=nI H
             obtain ⟨r51,e52,H⟩:=bsi H
             refine rg ct3t4_ok ?_
             simp only [go_sem,Nat.reduceLeDiff,Nat.reduceLT,Nat.reduceAdd,ct3t4_8,fD,f50,e52]
             repeat ((with_reducible refine aI ?_ ?_);exact an0)
             refine zC ?_
             refine sq zA ?_
             simp only [go_sem]
             refine zX rfl trivial (fun hc=>?_) (fun hc=>?_)
             ·have hk53:(r51.2)=false:=by simpa using hc
              replace H:=zL hc H
              refine sq zA ?_
              simp only [go_sem]
              refine rg zA ?_
              simp only [go_sem]
              obtain ⟨q54,H,hq55⟩:=bsi H
              replace hq55:=hn2_9 _ (Option.some.inj hq55).symm
              obtain rfl:=(Option.some.inj hq55).symm
              refine ⟨_,(Option.some.inj H).symm,?_⟩
              refine Sq [(0,38),(29,1),(41,1),(40,1)] ?_ ?_
              ·simp [CvL,Cv]
              ·refine pQ ?_
               exact ⟨zJ wY cl (kH (f:=zG) v2_4 w5_1.toNat 0 r38.1 (fun _ _ _ _=>rfl) (fun y hy=>match y,hy with|0,_=>rfl|1,_=>rfl|2,_=>rfl|3,_=>rfl|4,_=>rfl|5,_=>rfl|6,_=>rfl|7,_=>rfl|8,_=>rfl|9,_=>rfl|(y+10),h=>absurd h nlt)),zJ kX cl (fun _ _ _ _=>rfl),dQ⟩
             have hk53:(r51.2)=true:=by simpa using hc
             replace H:=zK hc H
             refine rg zA ?_
             simp only [go_sem]
             refine qP ?_
             refine wL zU zA 2 ?_
             simp only [zV,tS,tZ,dS,dZ,go_sem,Nat.reduceLT]
             repeat ((with_reducible refine aI ?_ ?_);exact an2)
             refine fzO [42] ?_ ?_
             ·simp only [go_sem,Nat.reduceBEq]
              try exact at0
             simp only [go_sem,Nat.reduceBEq,Nat.reduceAdd]
             obtain ⟨f56,H⟩:=nC H
             refine wL zU zA 3 ?_
             simp only [zV,tS,tZ,dS,dZ,go_sem,Nat.reduceLeDiff,Nat.reduceAdd,Nat.reduceBEq,f56]
             repeat ((with_reducible refine aI ?_ ?_);exact an1)
             refine tY ?_
             refine rg zA ?_
             simp only [go_sem]
             refine ⟨_,(Option.some.inj H).symm,?_⟩
             refine Sq [(0,41),(44,1)] ?_ ?_
             ·simp [CvL,Cv,yB]
             ·refine pQ ?_
              exact ⟨zJ kX cl (vO (f:=wD) v9_2 [r51.1] (fun _ _ _ _=>rfl) (wS (f:=wD) [r51.1] (fun _ _=>rfl) rfl)),trivial⟩
            ·try dsimp only at H ⊢
             try simp only [tp]
             try simp only [yS]
             refine sq zA ?_
             simp only [go_sem]
             refine rg zA ?_
             simp only [go_sem]
             refine ⟨_,(Option.some.inj H).symm,?_⟩
             refine Sq [(0,38),(29,1),(41,1),(40,1)] ?_ ?_
             ·simp [CvL,Cv]
             ·refine pQ ?_
              exact ⟨zJ wY cl (kH (f:=zG) v2_4 w5_1.toNat 0 r38.1 (fun _ _ _ _=>rfl) (fun y hy=>match y,hy with|0,_=>rfl|1,_=>rfl|2,_=>rfl|3,_=>rfl|4,_=>rfl|5,_=>rfl|6,_=>rfl|7,_=>rfl|8,_=>rfl|9,_=>rfl|(y+10),h=>absurd h nlt)),zJ kX cl (fun _ _ _ _=>rfl),dQ⟩
         ·obtain ⟨w6_1,w6_2,w6_3,w6_4⟩:=e
          try dsimp only at H ⊢
          try simp only [tp]
          try simp only [r_normal]
          try simp only [go_sem]
          refine wL zU zA 3 ?_
          simp only [zV,tS,tZ,dS,dZ,go_sem]
          repeat ((with_reducible refine aI ?_ ?_);exact an3)
          refine tY ?_
          refine rg zA ?_
          simp only [go_sem]
          refine ⟨_,(Option.some.inj H).symm,?_⟩
          refine Sq [(0,33),(38,3)] ?_ ?_
          ·simp [CvL,Cv,yB]
          ·exact dQ
        replace H:=zK hg41 H
        refine rg zA ?_
        simp only [go_sem,Nat.reduceLT,Nat.reduceAdd,hg40,hg41]
        repeat ((with_reducible refine aI ?_ ?_);exact an3)
        refine rg zA ?_
        simp only [go_sem]
        refine ⟨_,(Option.some.inj H).symm,?_⟩
        refine Sq [(0,33),(29,3)] ?_ ?_
        ·simp [CvL,Cv,yB]
        ·exact dQ
      have hk35:(w4_1)=false:=by simpa using hc
      replace H:=zK hc H
      refine sq zA ?_
      simp only [go_sem]
      refine zX rfl trivial (fun hc=>?_) (fun hc=>?_)
      ·have hk57:(bEq ((gd p1 v2_1.toNat).Kind) 2)=true:=by simpa using hc
       replace H:=zL hc H
       refine zC ?_
       obtain ⟨f58,H⟩:=nI H
       obtain ⟨r59,e60,H⟩:=bsi H
       refine xZ zU ct3t5_ok (by kernel_rfl) (by kernel_rfl) ?_
       simp only [go_sem,Nat.reduceLT,Nat.reduceAdd,ct3t5_10,gJ,f58,e60]
       repeat ((with_reducible refine aI ?_ ?_);exact an0)
       refine zC ?_
       refine sq zA ?_
       simp only [go_sem]
       refine uJ (fun e:Bool × (List (List Int))=>(.top::.ro 3 p1.length false (enR c_TMove p1)::.top::.top::.top::.ptr 0 0 0 0::tp 4 (.ptr 25 0 0 0::.ptr 27 0 0 0::.ptr 28 0 0 0::.fn 7 [.ptr 0 0 0 0,.ptr 28 0 0 0,.ptr 27 0 0 0,.ptr 25 0 0 0]::.bool e.1::.int .i64 v2_1::.top::.int .i64 0::tp 6 (.int .i64 r59.2::tp 328 [])))) (fun e=>(.lit 26 [.sl 29 10 0 v2_4.length false]::.dead::.dead::.dead::.dead::.dead::.dead::.dead::.dead::.dead::.dead::.dead::.dead::.dead::.dead::.dead::.dead::.dead::.dead::.dead::.dead::.dead::.dead::.dead::.dead::.lit 36 [.sl 33 1 0 e.2.length false]::.dead::.lit 37 [.val (.map (some mk31))]::.lit 3 [.int .i64 (wr .i64 (v2_2+((gd p1 v2_1.toNat).Wait)))]::.row 30 10 v2_4.length (enR zG v2_4)::.dead::.mapb mk31 v2_6::.dead::.row 39 1 e.2.length (enR wD e.2)::[])) H (fun o H hn1_10 hn2_10=>?_) (fun e H=>?_)
       ·unfold F3_L10 at H
        try dsimp only at H ⊢
        try simp only [tp]
        refine condM' rfl trivial (fun hc=>?_) (fun hc=>?_)
        ·have hk61:(r59.1)=false:=by simpa using hc
         replace H:=zK hc H
         refine rg zA ?_
         simp only [go_sem,Nat.reduceAdd]
         refine ⟨_,(Option.some.inj H).symm,?_⟩
         refine Sq [(0,33),(30,1)] ?_ ?_
         ·simp [CvL,Cv,yB]
         ·exact dQ
        have hk61:(r59.1)=true:=by simpa using hc
        replace H:=zL hc H
        refine zC ?_
        obtain ⟨f62,H⟩:=nI H
        obtain ⟨r63,e64,H⟩:=bsi H
        obtain ⟨r65,e66,H⟩:=bsi H
        refine xC zU ct3t6_ok 1 (by kernel_rfl) (by kernel_rfl) ?_
        intro an han
        simp only [vH,wI,tC,xrD,xoD,uY,vL,List.append_nil,xF,refs,vN,mask,wN,place,xU,wO,xV,hit,inL,xH,ren,qB,rnN,nrH,nrB,rZ,rS,Nat.sub_self,Nat.add_zero,Nat.zero_add,Nat.reduceSub,Nat.lt_add_one,go_sem,Nat.reduceLeDiff,Nat.reduceLT,Nat.reduceAdd,Nat.reduceSub,Nat.reduceBEq,ct3t6_11,jL,ct3t6_8,fD,f62,e64,e66]
        repeat ((with_reducible refine aI ?_ ?_);exact an5)
        refine zC ?_
        refine qP ?_
        refine wL zU zA 2 ?_
        simp only [zV,tS,tZ,dS,dZ,go_sem,Nat.reduceLT]
        repeat ((with_reducible refine aI ?_ ?_);exact an2)
        refine fzO [33] ?_ ?_
        ·simp only [go_sem,Nat.reduceBEq]
         try exact at0
        simp only [go_sem,Nat.reduceBEq,Nat.reduceAdd]
        obtain ⟨f67,H⟩:=nC H
        refine wL zU zA 3 ?_
        simp only [zV,tS,tZ,dS,dZ,go_sem,Nat.reduceLeDiff,Nat.reduceAdd,Nat.reduceBEq,f67]
        repeat ((with_reducible refine aI ?_ ?_);exact an1)
        refine tY ?_
        refine rg zA ?_
        simp only [go_sem]
        refine ⟨_,(Option.some.inj H).symm,?_⟩
        refine Sq [(0,33),(35,1)] ?_ ?_
        ·simp [CvL,Cv,yB]
        ·refine pQ ?_
         exact ⟨zJ kX cl (vO (f:=wD) v2_5 [r65.1] (fun _ _ _ _=>rfl) (wS (f:=wD) [r65.1] (fun _ _=>rfl) rfl)),trivial⟩
       ·obtain ⟨w10_1,w10_3⟩:=e
        try dsimp only at H ⊢
        try simp only [tp]
        try simp only [yS]
        refine sq zA ?_
        simp only [go_sem]
        repeat ((with_reducible refine aI ?_ ?_);exact an4)
        refine rg zA ?_
        simp only [go_sem]
        refine ⟨_,(Option.some.inj H).symm,?_⟩
        refine Sq [(0,33),(29,1),(33,1),(31,1)] ?_ ?_
        ·simp [CvL,Cv,yB]
        ·exact dQ
      have hk57:(bEq ((gd p1 v2_1.toNat).Kind) 2)=false:=by simpa using hc
      replace H:=zK hc H
      refine zC ?_
      refine sq zA ?_
      simp only [go_sem]
      refine uJ (fun e:Bool=>(.top::.ro 3 p1.length false (enR c_TMove p1)::.top::.top::.top::.ptr 0 0 0 0::tp 4 (.ptr 25 0 0 0::.ptr 27 0 0 0::.ptr 28 0 0 0::.fn 7 [.ptr 0 0 0 0,.ptr 28 0 0 0,.ptr 27 0 0 0,.ptr 25 0 0 0]::.bool v2_3::.int .i64 v2_1::.ptr 32 0 0 0::.int .i64 0::.int .i64 3::tp 160 (.bool e::tp 173 [])))) (fun e=>(.lit 26 [.sl 29 10 0 v2_4.length false]::.dead::.dead::.dead::.dead::.dead::.dead::.dead::.dead::.dead::.dead::.dead::.dead::.dead::.dead::.dead::.dead::.dead::.dead::.dead::.dead::.dead::.dead::.dead::.dead::.lit 36 [.sl 30 1 0 v2_5.length false]::.dead::.lit 37 [.val (.map (some mk31))]::.lit 3 [.int .i64 (wr .i64 (v2_2+((gd p1 v2_1.toNat).Wait)))]::.row 30 10 v2_4.length (enR zG v2_4)::.row 39 1 v2_5.length (enR wD v2_5)::.mapb mk31 v2_6::.lit 48 [.int .u8 ((gd p1 v2_1.toNat).Kind),.int .i64 ((gd p1 v2_1.toNat).Wait),.int .i64 ((gd p1 v2_1.toNat).N)]::[])) H (fun o H hn1_11 hn2_11=>?_) (fun w11_1 H=>?_)
      ·unfold F3_L11 at H
       try dsimp only at H ⊢
       try simp only [tp]
       refine zX rfl trivial (fun hc=>?_) (fun hc=>?_)
       ·have hk68:(bEq ((gd p1 v2_1.toNat).Kind) 3)=true:=by simpa using hc
        replace H:=zL hc H
        refine rg zA ?_
        simp only [go_sem,Nat.reduceAdd]
        refine ⟨_,(Option.some.inj H).symm,?_⟩
        refine Sq [(0,33)] ?_ ?_
        ·simp [CvL,Cv,yB]
        ·exact dQ
       have hk68:(bEq ((gd p1 v2_1.toNat).Kind) 3)=false:=by simpa using hc
       replace H:=zK hc H
       refine sq zA ?_
       simp only [go_sem,Nat.reduceAdd]
       refine zX rfl trivial (fun hc=>?_) (fun hc=>?_)
       ·have hk69:(bEq ((gd p1 v2_1.toNat).Kind) 4)=true:=by simpa using hc
        replace H:=zL hc H
        refine rg zA ?_
        simp only [go_sem]
        refine ⟨_,(Option.some.inj H).symm,?_⟩
        refine Sq [(0,33)] ?_ ?_
        ·simp [CvL,Cv,yB]
        ·exact dQ
       have hk69:(bEq ((gd p1 v2_1.toNat).Kind) 4)=false:=by simpa using hc
       replace H:=zK hc H
       refine rg zA ?_
       simp only [go_sem]
       refine ⟨_,(Option.some.inj H).symm,?_⟩
       refine Sq [(0,33)] ?_ ?_
       ·simp [CvL,Cv,yB]
       ·exact dQ
      ·try dsimp only at H ⊢
       try simp only [tp]
       try simp only [yS]
       refine condM' rfl trivial (fun hc=>?_) (fun hc=>?_)
       ·have hk70:(w11_1)=false:=by simpa using hc
        replace H:=zK hc H
        refine rg zA ?_
        simp only [go_sem]
        refine ⟨_,(Option.some.inj H).symm,?_⟩
        refine Sq [(0,33),(29,3)] ?_ ?_
        ·simp [CvL,Cv,yB]
        ·exact dQ
       have hk70:(w11_1)=true:=by simpa using hc
       replace H:=zL hc H
       refine zC ?_
       refine sq zA ?_
       simp only [go_sem,Nat.reduceLeDiff,Nat.reduceLT,Nat.reduceAdd]
       repeat ((with_reducible refine aI ?_ ?_);exact an4)
       refine uJ (fun e:Int × Int=>(.top::.ro 3 p1.length false (enR c_TMove p1)::.top::.top::.top::.ptr 0 0 0 0::tp 4 (.ptr 25 0 0 0::.ptr 27 0 0 0::.ptr 28 0 0 0::.fn 7 [.ptr 0 0 0 0,.ptr 28 0 0 0,.ptr 27 0 0 0,.ptr 25 0 0 0]::.bool v2_3::.int .i64 v2_1::.ptr 32 0 0 0::.int .i64 e.1::.int .i64 e.2::tp 334 []))) (fun e=>(.lit 26 [.sl 29 10 0 v2_4.length false]::.dead::.dead::.dead::.dead::.dead::.dead::.dead::.dead::.dead::.dead::.dead::.dead::.dead::.dead::.dead::.dead::.dead::.dead::.dead::.dead::.dead::.dead::.dead::.dead::.lit 36 [.sl 30 1 0 v2_5.length false]::.dead::.lit 37 [.val (.map (some mk31))]::.lit 3 [.int .i64 (wr .i64 (v2_2+((gd p1 v2_1.toNat).Wait)))]::.row 30 10 v2_4.length (enR zG v2_4)::.row 39 1 v2_5.length (enR wD v2_5)::.mapb mk31 v2_6::.lit 48 [.int .u8 ((gd p1 v2_1.toNat).Kind),.int .i64 ((gd p1 v2_1.toNat).Wait),.int .i64 ((gd p1 v2_1.toNat).N)]::[])) H (fun o H hn1_12 hn2_12=>?_) (fun e H=>?_)
       ·unfold F3_L12 at H
        try dsimp only at H ⊢
        try simp only [tp]
        refine condM' rfl trivial (fun hc=>?_) (fun hc=>?_)
        ·have hk71:(bEq ((gd p1 v2_1.toNat).Kind) 4)=false:=by simpa using hc
         replace H:=zK hc H
         refine rg zA ?_
         simp only [go_sem,Nat.reduceAdd]
         refine ⟨_,(Option.some.inj H).symm,?_⟩
         refine Sq [(0,33)] ?_ ?_
         ·simp [CvL,Cv,yB]
         ·exact dQ
        have hk71:(bEq ((gd p1 v2_1.toNat).Kind) 4)=true:=by simpa using hc
        replace H:=zL hc H
        refine sq zA ?_
        simp only [go_sem,Nat.reduceLT,Nat.reduceAdd]
        repeat ((with_reducible refine aI ?_ ?_);exact an4)
        refine rg zA ?_
        simp only [go_sem]
        refine ⟨_,(Option.some.inj H).symm,?_⟩
        refine Sq [(0,33)] ?_ ?_
        ·simp [CvL,Cv,yB]
        ·exact dQ
       ·obtain ⟨w12_1,w12_2⟩:=e
        try dsimp only at H ⊢
        try simp only [tp]
        try simp only [yS]
        refine zC ?_
        refine sq zA ?_
        simp only [go_sem,Nat.reduceLT]
        repeat ((with_reducible refine aI ?_ ?_);exact an0)
        refine zX rfl trivial (fun hc=>?_) (fun hc=>?_)
        ·have hk72:(bEq (v2_5.length:Nat) 0)=true:=by simpa using hc
         replace H:=zL hc H
         refine sq zA ?_
         simp only [go_sem]
         refine rg zA ?_
         simp only [go_sem,Nat.reduceBEq]
         obtain ⟨q73,H,hq74⟩:=bsi H
         replace hq74:=hn2_3 _ (Option.some.inj hq74).symm
         obtain rfl:=(Option.some.inj hq74).symm
         refine rg zA ?_
         simp only [go_sem]
         refine ⟨_,(Option.some.inj H).symm,?_⟩
         refine Sq [(0,32)] ?_ ?_
         ·simp [CvL,Cv,yB]
         ·exact dQ
        have hk72:(bEq (v2_5.length:Nat) 0)=false:=by simpa using hc
        replace H:=zK hc H
        refine rg zA ?_
        simp only [go_sem]
        refine zC ?_
        obtain ⟨f75,H⟩:=zP.1 H
        replace f75:=ne0_iff.1 f75
        obtain ⟨f76,H⟩:=nI H
        obtain ⟨f77,H⟩:=nC H
        refine xC zU zA 2 (by kernel_rfl) (by kernel_rfl) ?_
        intro an han
        simp only [vH,wI,tC,xrD,xoD,uY,vL,List.append_nil,xF,refs,vN,mask,wN,place,xU,wO,xV,hit,inL,xH,ren,rnN,nrH,nrB,rZ,rS,Nat.sub_self,Nat.add_zero,Nat.zero_add,Nat.reduceSub,Nat.not_lt_zero,Nat.zero_le,Nat.lt_add_one,go_sem,Nat.reduceLeDiff,Nat.reduceLT,Nat.reduceAdd,Nat.reduceSub,Nat.reduceBEq,f75,f76,f77]
        repeat ((with_reducible refine aI ?_ ?_);exact an6)
        refine zC ?_
        refine sq zA ?_
        simp only [go_sem,Nat.reduceLeDiff,Nat.reduceLT,Nat.reduceAdd]
        repeat ((with_reducible refine aI ?_ ?_);exact an4)
        refine uJ (fun e:Bool × Int × (List Int)=>(.top::.ro 3 p1.length false (enR c_TMove p1)::.top::.top::.top::.ptr 0 0 0 0::tp 4 (.ptr 25 0 0 0::.ptr 27 0 0 0::.ptr 28 0 0 0::.fn 7 [.ptr 0 0 0 0,.ptr 28 0 0 0,.ptr 27 0 0 0,.ptr 25 0 0 0]::.bool e.1::.int .i64 v2_1::.ptr 32 0 0 0::.int .i64 w12_1::.int .i64 e.2.1::tp 8 (.sl 35 1 0 e.2.2.length false::tp 325 [])))) (fun e=>(.lit 26 [.sl 29 10 0 v2_4.length false]::.dead::.dead::.dead::.dead::.dead::.dead::.dead::.dead::.dead::.dead::.dead::.dead::.dead::.dead::.dead::.dead::.dead::.dead::.dead::.dead::.dead::.dead::.dead::.dead::.lit 36 [.sl 30 1 0 v2_5.length false]::.dead::.lit 37 [.val (.map (some mk31))]::.lit 3 [.int .i64 (wr .i64 (v2_2+((gd p1 v2_1.toNat).Wait)))]::.row 30 10 v2_4.length (enR zG v2_4)::.row 39 1 v2_5.length (enR wD v2_5)::.mapb mk31 v2_6::.lit 48 [.int .u8 ((gd p1 v2_1.toNat).Kind),.int .i64 ((gd p1 v2_1.toNat).Wait),.int .i64 ((gd p1 v2_1.toNat).N)]::.dead::.dead::.row 5 1 e.2.2.length (enR c_u8 e.2.2)::[])) H (fun o H hn1_13 hn2_13=>?_) (fun e H=>?_)
        ·unfold F3_L13 at H
         try dsimp only at H ⊢
         try simp only [tp]
         refine condM' rfl trivial (fun hc=>?_) (fun hc=>?_)
         ·have hk78:(bEq ((gd p1 v2_1.toNat).Kind) 5)=false:=by simpa using hc
          replace H:=zK hc H
          refine rg zA ?_
          simp only [go_sem,Nat.reduceAdd]
          refine ⟨_,(Option.some.inj H).symm,?_⟩
          refine Sq [(0,35),(34,1)] ?_ ?_
          ·simp [CvL,Cv,yB]
          ·exact dQ
         have hk78:(bEq ((gd p1 v2_1.toNat).Kind) 5)=true:=by simpa using hc
         replace H:=zL hc H
         refine zC ?_
         obtain ⟨f79,H⟩:=zP.1 H
         replace f79:=ne0_iff.1 f79
         refine rg zA ?_
         simp only [go_sem,Nat.reduceLT,Nat.reduceAdd,f79]
         repeat ((with_reducible refine aI ?_ ?_);exact an1)
         refine zC ?_
         obtain ⟨w81,hw82,H⟩:=bsj H
         have lhw82:w81.length=(gd v2_5 ((((gd p1 v2_1.toNat).N).tmod (v2_5.length:Nat)).toNat)).length:=by rw [← hw82];exact cl
         refine tR (t2:=(.top::.ro 3 p1.length false (enR c_TMove p1)::.top::.top::.top::.ptr 0 0 0 0::tp 4 (.ptr 25 0 0 0::.ptr 27 0 0 0::.ptr 28 0 0 0::.fn 7 [.ptr 0 0 0 0,.ptr 28 0 0 0,.ptr 27 0 0 0,.ptr 25 0 0 0]::.top::.int .i64 v2_1::.ptr 32 0 0 0::.int .i64 w12_1::tp 9 (.sl 34 1 0 w81.length false::.int .i64 (((gd p1 v2_1.toNat).N).tmod (wr .i64 (8 * ((gd v2_5 ((((gd p1 v2_1.toNat).N).tmod (v2_5.length:Nat)).toNat)).length:Nat))))::tp 324 [])))) (h2:=(.lit 26 [.sl 29 10 0 v2_4.length false]::.dead::.dead::.dead::.dead::.dead::.dead::.dead::.dead::.dead::.dead::.dead::.dead::.dead::.dead::.dead::.dead::.dead::.dead::.dead::.dead::.dead::.dead::.dead::.dead::.lit 36 [.sl 30 1 0 v2_5.length false]::.dead::.lit 37 [.val (.map (some mk31))]::.lit 3 [.int .i64 (wr .i64 (v2_2+((gd p1 v2_1.toNat).Wait)))]::.row 30 10 v2_4.length (enR zG v2_4)::.row 39 1 v2_5.length (enR wD v2_5)::.mapb mk31 v2_6::.lit 48 [.int .u8 ((gd p1 v2_1.toNat).Kind),.int .i64 ((gd p1 v2_1.toNat).Wait),.int .i64 ((gd p1 v2_1.toNat).N)]::.dead::.row 5 1 w81.length (enR c_u8 w81)::[])) ?_ ?_
         ·refine Sq [(0,35)] ?_ ?_
          ·simp [CvL,Cv,yB,tp,lhw82]
          ·refine pQ ?_
           exact ⟨zJ vC lhw82 (hw82 ▸ (vO (f:=c_u8) [] (gd v2_5 ((((gd p1 v2_1.toNat).N).tmod (v2_5.length:Nat)).toNat)) (wS (f:=c_u8) [] (fun _ _=>rfl) rfl) (fun _ _ _ _=>rfl))),trivial⟩
         simp only [tp]
         obtain ⟨f83,H⟩:=nI H
         obtain ⟨f84,H⟩:=zP.1 H
         replace f84:=bLe_iff.1 f84
         obtain ⟨f85,H⟩:=nI H
         refine rg zA ?_
         simp only [go_sem,Nat.reduceLT,f83,f84]
         repeat ((with_reducible refine aI ?_ ?_);exact an4)
         refine zC ?_
         obtain ⟨w86,hw87,H⟩:=bsj H
         have lhw87:w86.length=w81.length:=by rw [← hw87];exact cl
         refine tR (t2:=(.top::.ro 3 p1.length false (enR c_TMove p1)::.top::.top::.top::.ptr 0 0 0 0::tp 4 (.ptr 25 0 0 0::.ptr 27 0 0 0::.ptr 28 0 0 0::.fn 7 [.ptr 0 0 0 0,.ptr 28 0 0 0,.ptr 27 0 0 0,.ptr 25 0 0 0]::.top::.int .i64 v2_1::.ptr 32 0 0 0::.int .i64 w12_1::tp 9 (.sl 34 1 0 w86.length false::tp 325 [])))) (h2:=(.lit 26 [.sl 29 10 0 v2_4.length false]::.dead::.dead::.dead::.dead::.dead::.dead::.dead::.dead::.dead::.dead::.dead::.dead::.dead::.dead::.dead::.dead::.dead::.dead::.dead::.dead::.dead::.dead::.dead::.dead::.lit 36 [.sl 30 1 0 v2_5.length false]::.dead::.lit 37 [.val (.map (some mk31))]::.lit 3 [.int .i64 (wr .i64 (v2_2+((gd p1 v2_1.toNat).Wait)))]::.row 30 10 v2_4.length (enR zG v2_4)::.row 39 1 v2_5.length (enR wD v2_5)::.mapb mk31 v2_6::.lit 48 [.int .u8 ((gd p1 v2_1.toNat).Kind),.int .i64 ((gd p1 v2_1.toNat).Wait),.int .i64 ((gd p1 v2_1.toNat).N)]::.dead::.row 5 1 w86.length (enR c_u8 w86)::[])) ?_ ?_
         ·refine Sq [(0,35)] ?_ ?_
          ·simp [CvL,Cv,yB,tp,lhw87]
          ·refine pQ ?_
           exact ⟨zJ vC lhw87 (hw87 ▸ (kH (f:=c_u8) w81 ((wr .i64 ((((gd p1 v2_1.toNat).N).tmod (wr .i64 (8 * ((gd v2_5 ((((gd p1 v2_1.toNat).N).tmod (v2_5.length:Nat)).toNat)).length:Nat)))).tdiv 8)).toNat) 0 (xorI .u8 (gd w81 ((wr .i64 ((((gd p1 v2_1.toNat).N).tmod (wr .i64 (8 * ((gd v2_5 ((((gd p1 v2_1.toNat).N).tmod (v2_5.length:Nat)).toNat)).length:Nat)))).tdiv 8)).toNat)) (cE .u8 1 (wr .u64 ((((gd p1 v2_1.toNat).N).tmod (wr .i64 (8 * ((gd v2_5 ((((gd p1 v2_1.toNat).N).tmod (v2_5.length:Nat)).toNat)).length:Nat)))).tmod 8)))) (fun _ _ _ _=>rfl) (fun y hy=>match y,hy with|0,_=>rfl|(y+1),h=>absurd h nlt))),trivial⟩
         simp only [tp]
         obtain ⟨r88,e89,H⟩:=bsi H
         refine rg ct3t8_ok ?_
         simp only [go_sem,Nat.reduceLT,Nat.reduceAdd,ct3t8_12,fW,e89]
         repeat ((with_reducible refine aI ?_ ?_);exact an0)
         refine sq zA ?_
         simp only [go_sem]
         refine rg zA ?_
         simp only [go_sem]
         refine ⟨_,(Option.some.inj H).symm,?_⟩
         refine Sq [(0,35),(34,1)] ?_ ?_
         ·simp [CvL,Cv,yB]
         ·exact dQ
        ·obtain ⟨w13_1,w13_2,w13_3⟩:=e
         try dsimp only at H ⊢
         try simp only [tp]
         try simp only [yS]
         refine zC ?_
         obtain ⟨r90,e91,H⟩:=bsi H
         refine rg ct3t8_ok ?_
         simp only [go_sem,Nat.reduceLT,Nat.reduceAdd,ct3t8_12,fW,e91]
         repeat ((with_reducible refine aI ?_ ?_);exact an0)
         refine sq zA ?_
         simp only [go_sem,Nat.reduceLeDiff,Nat.reduceLT,Nat.reduceAdd]
         repeat ((with_reducible refine aI ?_ ?_);exact an4)
         refine zC ?_
         refine sq zA ?_
         simp only [go_sem]
         refine xN ?_
         refine xP (fun s:Bool × Int × (List TRegulate) × (List (List Int)) × (List (Int × Int))=>(.top::.ro 3 p1.length false (enR c_TMove p1)::.top::.top::.top::.ptr 0 0 0 0::tp 4 (.ptr 25 0 0 0::.ptr 27 0 0 0::.ptr 28 0 0 0::.fn 7 [.ptr 0 0 0 0,.ptr 28 0 0 0,.ptr 27 0 0 0,.ptr 25 0 0 0]::.bool s.1::.int .i64 v2_1::.ptr 32 0 0 0::.int .i64 w12_1::.int .i64 w13_2::tp 12 (.ptr 36 0 0 0::.top::.int .i64 s.2.1::tp 319 [])))) (fun s=>(.lit 26 [.sl 37 10 0 s.2.2.1.length false]::.dead::.dead::.dead::.dead::.dead::.dead::.dead::.dead::.dead::.dead::.dead::.dead::.dead::.dead::.dead::.dead::.dead::.dead::.dead::.dead::.dead::.dead::.dead::.dead::.lit 36 [.sl 38 1 0 s.2.2.2.1.length false]::.dead::.lit 37 [.val (.map (some mk31))]::.lit 3 [.int .i64 (wr .i64 (v2_2+((gd p1 v2_1.toNat).Wait)))]::.dead::.dead::.dead::.lit 48 [.int .u8 ((gd p1 v2_1.toNat).Kind),.int .i64 ((gd p1 v2_1.toNat).Wait),.int .i64 ((gd p1 v2_1.toNat).N)]::.dead::.dead::.dead::.lit 43 [.int .u8 r90.1.Kind,.int .i64 r90.1.Channel,.int .i64 r90.1.To,.int .i64 r90.1.At]::.row 30 10 s.2.2.1.length (enR zG s.2.2.1)::.row 39 1 s.2.2.2.1.length (enR wD s.2.2.2.1)::.mapb mk31 s.2.2.2.2::[])) (fun e:Bool × (List TRegulate) × (List (List Int)) × (List (Int × Int))=>(.top::.ro 3 p1.length false (enR c_TMove p1)::.top::.top::.top::.ptr 0 0 0 0::tp 4 (.ptr 25 0 0 0::.ptr 27 0 0 0::.ptr 28 0 0 0::.fn 7 [.ptr 0 0 0 0,.ptr 28 0 0 0,.ptr 27 0 0 0,.ptr 25 0 0 0]::.bool e.1::.int .i64 v2_1::.top::.int .i64 w12_1::tp 335 []))) (fun e=>(.lit 26 [.sl 37 10 0 e.2.1.length false]::.dead::.dead::.dead::.dead::.dead::.dead::.dead::.dead::.dead::.dead::.dead::.dead::.dead::.dead::.dead::.dead::.dead::.dead::.dead::.dead::.dead::.dead::.dead::.dead::.lit 36 [.sl 38 1 0 e.2.2.1.length false]::.dead::.lit 37 [.val (.map (some mk31))]::.lit 3 [.int .i64 (wr .i64 (v2_2+((gd p1 v2_1.toNat).Wait)))]::.dead::.dead::.dead::.dead::.dead::.dead::.dead::.dead::.row 30 10 e.2.1.length (enR zG e.2.1)::.row 39 1 e.2.2.1.length (enR wD e.2.2.1)::.mapb mk31 e.2.2.2::[])) H ?_ (fun s o H hn1_14 hn2_14=>?_) (fun e H=>?_)
         ·refine Sq [(0,37),(29,3)] ?_ ?_
          ·simp [CvL,Cv,yB,tp]
          ·exact dQ
         ·obtain ⟨v14_1,v14_2,v14_3,v14_4,v14_5⟩:=s
          unfold jK at H
          try dsimp only at H ⊢
          try simp only [tp]
          refine zC ?_
          refine sq zA ?_
          simp only [go_sem,Nat.reduceAdd]
          repeat ((with_reducible refine aI ?_ ?_);exact an4)
          refine condM' rfl trivial (fun hc=>?_) (fun hc=>?_)
          ·have hk92:((bLe v14_2 w13_2) && v14_1)=false:=by first|simpa using hc|simpa only [Bool.not_eq_true',Bool.not_eq_false'] using hc
           replace H:=zK hc H
           refine rg zA ?_
           simp only [go_sem,Nat.reduceBEq]
           refine ⟨_,(Option.some.inj H).symm,?_⟩
           refine Sq [(0,40)] ?_ ?_
           ·simp [CvL,Cv,yB]
           ·exact dQ
          have hk92:((bLe v14_2 w13_2) && v14_1)=true:=by first|simpa using hc|simpa only [Bool.not_eq_true',Bool.not_eq_false'] using hc
          replace H:=zL hc H
          refine rg zA ?_
          simp only [go_sem]
          refine zC ?_
          refine xN ?_
          refine zC ?_
          obtain ⟨f93,H⟩:=nI H
          obtain ⟨r94,e95,H⟩:=bsi H
          refine xC zU ct3t9_ok 5 (by kernel_rfl) (by kernel_rfl) ?_
          intro an han
          simp only [vH,wI,tC,xrD,xoD,uY,vL,List.append_nil,xF,refs,vN,mask,wN,place,xU,wO,xV,hit,inL,xH,ren,qB,rnN,nrH,nrB,nrL,nr,rZ,rS,Nat.sub_self,Nat.add_zero,Nat.zero_add,Nat.reduceSub,Nat.lt_add_one,go_sem,Nat.reduceLeDiff,Nat.reduceLT,Nat.reduceAdd,Nat.reduceSub,Nat.reduceBEq,ct3t9_13,dM,f93,e95]
          repeat ((with_reducible refine aI ?_ ?_);exact an5)
          refine wG (c:=(bEq r94.2.2 21)) (fun hg96=>?_) (fun hg96=>?_)
          ·replace H:=zL hg96 H
           have hx96:(bEq r94.2.2 0)=false:=bEq_ex (a:=21) (by assumption) (by decide)
           refine rg zA ?_
           simp only [go_sem,Nat.reduceLT,Nat.reduceAdd,hg96,hx96]
           repeat ((with_reducible refine aI ?_ ?_);exact an3)
           refine rg zA ?_
           simp only [go_sem]
           refine ⟨_,(Option.some.inj H).symm,?_⟩
           refine Sq [(0,40)] ?_ ?_
           ·simp [CvL,Cv,yB]
           ·exact dQ
          replace H:=zK hg96 H
          refine wG (c:=(bEq r94.2.2 0)) (fun hg97=>?_) (fun hg97=>?_)
          ·replace H:=zL hg97 H
           refine qP ?_
           refine wL zU zA 10 ?_
           simp only [zV,tS,tZ,dS,dZ,go_sem,Nat.reduceLT,Nat.reduceAdd,hg96,hg97]
           repeat ((with_reducible refine aI ?_ ?_);exact an3)
           refine inlG (rs:=[.tmp 10]) Tryz.func7 (by kernel_rfl) rfl rfl Tryz.ntmps7 (caps:=[.ptr 0 0 0 0,.ptr 28 0 0 0,.ptr 27 0 0 0,.ptr 25 0 0 0]) (tc:=[.int .i64 v14_2,.agg [.sl 40 3 0 r94.1.Table.length false,.int .i64 r94.1.Channel,.bool r94.1.Lead,.int .i64 r94.1.Heard,.bool r94.1.Stopped,.bool r94.1.Moving,.int .i64 r94.1.To,.int .i64 r94.1.At,.sl 41 2 0 r94.1.Blocked.length false,.sl 42 1 0 r94.1.Clear.length false],.sl 43 4 0 r94.2.1.length false,.ptr 0 0 0 0,.ptr 28 0 0 0,.ptr 27 0 0 0,.ptr 25 0 0 0]) (by first|rfl|simp only [gok,go_sem,Nat.reduceLeDiff,Nat.reduceLT,Nat.reduceAdd,Nat.reduceMul,Nat.reduceSub,Nat.reduceEqDiff,Nat.reduceBEq,Int.reduceToNat,reduceCtorEq,hg96,hg97]) rfl (by simp only [go_sem]) rfl ?_
           simp only [lC,lN,Nat.reduceAdd,Nat.reduceSub,rS,rZ,aC,aN]
           refine joinR_den (fun e:Bool × (List TRegulate) × (List (List Int)) × (List (Int × Int))=>(tp 10 (.bool e.1::tp 63 []))) (fun e=>(.lit 26 [.sl 45 10 0 e.2.1.length false]::.dead::.dead::.dead::.dead::.dead::.dead::.dead::.dead::.dead::.dead::.dead::.dead::.dead::.dead::.dead::.dead::.dead::.dead::.dead::.dead::.dead::.dead::.dead::.dead::.lit 36 [.sl 46 1 0 e.2.2.1.length false]::.dead::.lit 37 [.val (.map (some mk31))]::.lit 3 [.int .i64 (wr .i64 (v2_2+((gd p1 v2_1.toNat).Wait)))]::.dead::.dead::.dead::.lit 48 [.int .u8 ((gd p1 v2_1.toNat).Kind),.int .i64 ((gd p1 v2_1.toNat).Wait),.int .i64 ((gd p1 v2_1.toNat).N)]::.dead::.dead::.dead::.lit 43 [.int .u8 r90.1.Kind,.int .i64 r90.1.Channel,.int .i64 r90.1.To,.int .i64 r90.1.At]::.dead::.dead::.dead::.dead::.dead::.dead::.dead::.dead::.row 30 10 e.2.1.length (enR zG e.2.1)::.row 39 1 e.2.2.1.length (enR wD e.2.2.1)::.mapb mk31 e.2.2.2::[])) H (fun o H hn1_15 hn2_15=>?_) (fun e H=>?_)
           ·unfold F3_L15 at H
            try dsimp only at H ⊢
            try simp only [tp]
            refine sq zA ?_
            simp only [go_sem,Nat.reduceAdd]
            refine zC ?_
            refine zC ?_
            obtain ⟨f98,H⟩:=zP.1 H
            replace f98:=xR.1 f98
            replace f98:=fun g=>uF.1 (f98 g)
            refine rg zA ?_
            simp only [go_sem,Nat.reduceLeDiff,Nat.reduceLT,Nat.reduceAdd]
            repeat ((with_reducible refine And.intro ?_ ?_);focus exact bn3 f98)
            refine uJ (fun e:List (Int × Int)=>(.int .i64 v14_2::.top::.sl 43 4 0 r94.2.1.length false::.ptr 0 0 0 0::.top::.ptr 27 0 0 0::.ptr 25 0 0 0::.top::.ptr 45 0 0 0::tp 65 [])) (fun e=>(.lit 26 [.sl 37 10 0 v14_3.length false]::.dead::.dead::.dead::.dead::.dead::.dead::.dead::.dead::.dead::.dead::.dead::.dead::.dead::.dead::.dead::.dead::.dead::.dead::.dead::.dead::.dead::.dead::.dead::.dead::.lit 36 [.sl 38 1 0 v14_4.length false]::.dead::.lit 37 [.val (.map (some mk31))]::.lit 3 [.int .i64 (wr .i64 (v2_2+((gd p1 v2_1.toNat).Wait)))]::.dead::.dead::.dead::.lit 48 [.int .u8 ((gd p1 v2_1.toNat).Kind),.int .i64 ((gd p1 v2_1.toNat).Wait),.int .i64 ((gd p1 v2_1.toNat).N)]::.dead::.dead::.dead::.lit 43 [.int .u8 r90.1.Kind,.int .i64 r90.1.Channel,.int .i64 r90.1.To,.int .i64 r90.1.At]::.row 30 10 v14_3.length (enR zG v14_3)::.row 39 1 v14_4.length (enR wD v14_4)::.dead::.row 35 3 r94.1.Table.length (enR c_TRegulateChannel r94.1.Table)::.row 97 2 r94.1.Blocked.length (enR zB r94.1.Blocked)::.row 3 1 r94.1.Clear.length (enR yG r94.1.Clear)::.row 43 4 r94.2.1.length (enR zR r94.2.1)::.dead::.lit 30 [.sl 40 3 0 r94.1.Table.length false,.int .i64 r94.1.Channel,.bool r94.1.Lead,.int .i64 r94.1.Heard,.bool r94.1.Stopped,.bool r94.1.Moving,.int .i64 r94.1.To,.int .i64 r94.1.At,.sl 41 2 0 r94.1.Blocked.length false,.sl 42 1 0 r94.1.Clear.length false]::.mapb mk31 e::[])) H (fun o H hn1_16 hn2_16=>?_) (fun w16_4 H=>?_)
            ·unfold F3_L16 at H
             try dsimp only at H ⊢
             try simp only [tp]
             refine condM' rfl trivial (fun hc=>?_) (fun hc=>?_)
             ·have hk99:(((bEq v14_2 0) && r94.1.Stopped) && (!((gd v14_3 0).Stopped)))=false:=by first|simpa using hc|simpa only [Bool.not_eq_true',Bool.not_eq_false'] using hc
              replace H:=zK hc H
              refine rg zA ?_
              simp only [go_sem,Nat.reduceAdd]
              refine ⟨_,(Option.some.inj H).symm,?_⟩
              refine Sq [(0,46),(39,1)] ?_ ?_
              ·simp [CvL,Cv,yB]
              ·exact dQ
             have hk99:(((bEq v14_2 0) && r94.1.Stopped) && (!((gd v14_3 0).Stopped)))=true:=by first|simpa using hc|simpa only [Bool.not_eq_true',Bool.not_eq_false'] using hc
             replace H:=zL hc H
             obtain ⟨f100,H⟩:=nI H
             refine draw_tail zU zA 6 (by kernel_rfl) (by kernel_rfl) (by kernel_rfl) ?_
             simp only [zV,tS,tZ,dS,dZ,go_sem,Nat.reduceLeDiff,Nat.reduceLT,Nat.reduceAdd,f100]
             repeat ((with_reducible refine aI ?_ ?_);exact an4)
             obtain ⟨f101,H⟩:=zP.1 H
             replace f101:=decide_eq_true_iff.1 f101
             refine mapUpdateO (kt:=3) (et:=3) (b:=39) (k:=mk31) (m:=v14_5) (x:=(gd v14_3 0).Channel) (v:=wr .i64 (v2_2+((gd p1 v2_1.toNat).Wait))) rfl rfl (by kernel_rfl) (by kernel_rfl) (by first|exact trivial|(simp only [go_sem,Nat.reduceLeDiff,Nat.reduceLT,Nat.reduceAdd,Nat.reduceMul,Nat.reduceSub,Nat.reduceEqDiff,Nat.reduceBEq,Int.reduceToNat,reduceCtorEq];done)|simp [og]) (by first|exact trivial|(simp only [go_sem,Nat.reduceLeDiff,Nat.reduceLT,Nat.reduceAdd,Nat.reduceMul,Nat.reduceSub,Nat.reduceEqDiff,Nat.reduceBEq,Int.reduceToNat,reduceCtorEq];done)|simp [og]) (by first|exact trivial|(simp only [go_sem,Nat.reduceLeDiff,Nat.reduceLT,Nat.reduceAdd,Nat.reduceMul,Nat.reduceSub,Nat.reduceEqDiff,Nat.reduceBEq,Int.reduceToNat,reduceCtorEq];done)|simp [og]) rfl rfl rfl rfl f101 ?_
             simp only [go_sem]
             refine wL zU zA 0 ?_
             simp only [zV,tZ,dZ,go_sem]
             repeat ((with_reducible refine aI ?_ ?_);exact an4)
             refine tY ?_
             refine ⟨_,(Option.some.inj H).symm,?_⟩
             refine Sq [(0,46),(39,1)] ?_ ?_
             ·simp [CvL,Cv,yB]
             ·exact dQ
            ·try dsimp only at H ⊢
             try simp only [tp]
             try simp only [yS]
             refine zC ?_
             refine zC ?_
             obtain ⟨f102,H⟩:=zP.1 H
             replace f102:=xR.1 f102
             replace f102:=fun g=>uF.1 (f102 g)
             refine xZ zU zA (by kernel_rfl) (by kernel_rfl) ?_
             simp only [go_sem,Nat.reduceLeDiff,Nat.reduceLT,Nat.reduceAdd]
             repeat ((with_reducible refine And.intro ?_ ?_);focus exact bn3 f102)
             refine uJ (fun e:List (Int × Int)=>(.int .i64 v14_2::.top::.sl 43 4 0 r94.2.1.length false::.ptr 0 0 0 0::.top::.top::.ptr 25 0 0 0::.top::.ptr 45 0 0 0::tp 65 [])) (fun e=>(.lit 26 [.sl 37 10 0 v14_3.length false]::.dead::.dead::.dead::.dead::.dead::.dead::.dead::.dead::.dead::.dead::.dead::.dead::.dead::.dead::.dead::.dead::.dead::.dead::.dead::.dead::.dead::.dead::.dead::.dead::.lit 36 [.sl 38 1 0 v14_4.length false]::.dead::.lit 37 [.val (.map (some mk31))]::.lit 3 [.int .i64 (wr .i64 (v2_2+((gd p1 v2_1.toNat).Wait)))]::.dead::.dead::.dead::.lit 48 [.int .u8 ((gd p1 v2_1.toNat).Kind),.int .i64 ((gd p1 v2_1.toNat).Wait),.int .i64 ((gd p1 v2_1.toNat).N)]::.dead::.dead::.dead::.lit 43 [.int .u8 r90.1.Kind,.int .i64 r90.1.Channel,.int .i64 r90.1.To,.int .i64 r90.1.At]::.row 30 10 v14_3.length (enR zG v14_3)::.row 39 1 v14_4.length (enR wD v14_4)::.dead::.row 35 3 r94.1.Table.length (enR c_TRegulateChannel r94.1.Table)::.row 97 2 r94.1.Blocked.length (enR zB r94.1.Blocked)::.row 3 1 r94.1.Clear.length (enR yG r94.1.Clear)::.row 43 4 r94.2.1.length (enR zR r94.2.1)::.dead::.lit 30 [.sl 40 3 0 r94.1.Table.length false,.int .i64 r94.1.Channel,.bool r94.1.Lead,.int .i64 r94.1.Heard,.bool r94.1.Stopped,.bool r94.1.Moving,.int .i64 r94.1.To,.int .i64 r94.1.At,.sl 41 2 0 r94.1.Blocked.length false,.sl 42 1 0 r94.1.Clear.length false]::.dead::.mapb mk31 e::[])) H (fun o H hn1_17 hn2_17=>?_) (fun w17_4 H=>?_)
             ·unfold F3_L17 at H
              try dsimp only at H ⊢
              try simp only [tp]
              refine condM' rfl trivial (fun hc=>?_) (fun hc=>?_)
              ·have hk103:((bEq v14_2 0) && (!bEq r94.1.Channel ((gd v14_3 0).Channel)))=false:=by first|simpa using hc|simpa only [Bool.not_eq_true',Bool.not_eq_false'] using hc
               replace H:=zK hc H
               refine rg zA ?_
               simp only [go_sem,Nat.reduceAdd]
               refine ⟨_,(Option.some.inj H).symm,?_⟩
               refine Sq [(0,47),(46,1)] ?_ ?_
               ·simp [CvL,Cv,yB]
               ·exact dQ
              have hk103:((bEq v14_2 0) && (!bEq r94.1.Channel ((gd v14_3 0).Channel)))=true:=by first|simpa using hc|simpa only [Bool.not_eq_true',Bool.not_eq_false'] using hc
              replace H:=zL hc H
              refine qP ?_
              refine wL zU zA 3 ?_
              simp only [zV,tS,tZ,dS,dZ,go_sem,Nat.reduceLeDiff,Nat.reduceLT,Nat.reduceAdd]
              repeat ((with_reducible refine aI ?_ ?_);exact an0)
              refine deleteO (kt:=3) (et:=3) (b:=46) (k:=mk31) (m:=w16_4) (x:=r94.1.Channel) rfl rfl rfl (by kernel_rfl) (by kernel_rfl) (by first|exact trivial|(simp only [go_sem,Nat.reduceLeDiff,Nat.reduceLT,Nat.reduceAdd,Nat.reduceMul,Nat.reduceSub,Nat.reduceEqDiff,Nat.reduceBEq,Int.reduceToNat,reduceCtorEq];done)|simp [og]) (by first|exact trivial|(simp only [go_sem,Nat.reduceLeDiff,Nat.reduceLT,Nat.reduceAdd,Nat.reduceMul,Nat.reduceSub,Nat.reduceEqDiff,Nat.reduceBEq,Int.reduceToNat,reduceCtorEq];done)|simp [og]) rfl rfl rfl ?_
              simp only [go_sem]
              refine wL zU zA 0 ?_
              simp only [zV,tZ,dZ,go_sem]
              repeat ((with_reducible refine aI ?_ ?_);exact an0)
              refine tY ?_
              refine ⟨_,(Option.some.inj H).symm,?_⟩
              refine Sq [(0,47),(46,1)] ?_ ?_
              ·simp [CvL,Cv,yB]
              ·exact dQ
             ·try dsimp only at H ⊢
              try simp only [tp]
              try simp only [yS]
              refine zC ?_
              refine qP ?_
              obtain ⟨f104,H⟩:=nI H
              refine wL zU zA 4 ?_
              simp only [zV,tS,tZ,dS,dZ,go_sem,Nat.reduceLT,Nat.reduceAdd,f104]
              repeat ((with_reducible refine aI ?_ ?_);exact an4)
              refine fzO [40,41,42] ?_ ?_
              ·simp only [go_sem,Nat.reduceBEq]
               try exact at0
              simp only [go_sem,Nat.reduceBEq,Nat.reduceAdd]
              refine wL zU zA 1 ?_
              simp only [zV,tS,tZ,dS,dZ,go_sem,Nat.reduceAdd]
              repeat ((with_reducible refine aI ?_ ?_);exact an4)
              refine tY ?_
              refine zC ?_
              refine sq zA ?_
              simp only [go_sem]
              refine xN ?_
              refine xP (fun s:Int × (List (List Int))=>(.int .i64 v14_2::.top::.sl 43 4 0 r94.2.1.length false::.top::.top::.top::.ptr 25 0 0 0::tp 4 (.int .i64 s.1::tp 62 []))) (fun s=>(.lit 26 [.sl 37 10 0 v14_3.length false]::.dead::.dead::.dead::.dead::.dead::.dead::.dead::.dead::.dead::.dead::.dead::.dead::.dead::.dead::.dead::.dead::.dead::.dead::.dead::.dead::.dead::.dead::.dead::.dead::.lit 36 [.sl 48 1 0 s.2.length false]::.dead::.lit 37 [.val (.map (some mk31))]::.lit 3 [.int .i64 (wr .i64 (v2_2+((gd p1 v2_1.toNat).Wait)))]::.dead::.dead::.dead::.lit 48 [.int .u8 ((gd p1 v2_1.toNat).Kind),.int .i64 ((gd p1 v2_1.toNat).Wait),.int .i64 ((gd p1 v2_1.toNat).N)]::.dead::.dead::.dead::.lit 43 [.int .u8 r90.1.Kind,.int .i64 r90.1.Channel,.int .i64 r90.1.To,.int .i64 r90.1.At]::.row 30 10 v14_3.length (upc (enR zG v14_3) v14_2.toNat 0 [.ro 3 r94.1.Table.length false (enR c_TRegulateChannel r94.1.Table),.int .i64 r94.1.Channel,.bool r94.1.Lead,.int .i64 r94.1.Heard,.bool r94.1.Stopped,.bool r94.1.Moving,.int .i64 r94.1.To,.int .i64 r94.1.At,.ro 2 r94.1.Blocked.length false (enR zB r94.1.Blocked),.ro 1 r94.1.Clear.length false (enR yG r94.1.Clear)])::.dead::.dead::.dead::.dead::.dead::.row 43 4 r94.2.1.length (enR zR r94.2.1)::.dead::.dead::.dead::.mapb mk31 w17_4::.row 39 1 s.2.length (enR wD s.2)::[])) (fun e:List (List Int)=>(tp 74 [])) (fun e=>(.lit 26 [.sl 37 10 0 v14_3.length false]::.dead::.dead::.dead::.dead::.dead::.dead::.dead::.dead::.dead::.dead::.dead::.dead::.dead::.dead::.dead::.dead::.dead::.dead::.dead::.dead::.dead::.dead::.dead::.dead::.lit 36 [.sl 48 1 0 e.length false]::.dead::.lit 37 [.val (.map (some mk31))]::.lit 3 [.int .i64 (wr .i64 (v2_2+((gd p1 v2_1.toNat).Wait)))]::.dead::.dead::.dead::.lit 48 [.int .u8 ((gd p1 v2_1.toNat).Kind),.int .i64 ((gd p1 v2_1.toNat).Wait),.int .i64 ((gd p1 v2_1.toNat).N)]::.dead::.dead::.dead::.lit 43 [.int .u8 r90.1.Kind,.int .i64 r90.1.Channel,.int .i64 r90.1.To,.int .i64 r90.1.At]::.row 30 10 v14_3.length (upc (enR zG v14_3) v14_2.toNat 0 [.ro 3 r94.1.Table.length false (enR c_TRegulateChannel r94.1.Table),.int .i64 r94.1.Channel,.bool r94.1.Lead,.int .i64 r94.1.Heard,.bool r94.1.Stopped,.bool r94.1.Moving,.int .i64 r94.1.To,.int .i64 r94.1.At,.ro 2 r94.1.Blocked.length false (enR zB r94.1.Blocked),.ro 1 r94.1.Clear.length false (enR yG r94.1.Clear)])::.dead::.dead::.dead::.dead::.dead::.dead::.dead::.dead::.dead::.mapb mk31 w17_4::.row 39 1 e.length (enR wD e)::[])) H ?_ (fun s o H hn1_18 hn2_18=>?_) (fun w18_4 H=>?_)
              ·refine Sq [(0,48),(38,1)] ?_ ?_
               ·simp [CvL,Cv,yB,tp]
               ·exact dQ
              ·obtain ⟨v18_1,v18_2⟩:=s
               unfold F3_L18 at H
               try dsimp only at H ⊢
               try simp only [tp]
               refine zC ?_
               refine sq zA ?_
               simp only [go_sem,Nat.reduceAdd]
               repeat ((with_reducible refine aI ?_ ?_);exact an0)
               refine condM' rfl trivial (fun hc=>?_) (fun hc=>?_)
               ·have hk105:(bLt v18_1 (r94.2.1.length:Nat))=false:=by simpa using hc
                replace H:=zK hc H
                refine rg zA ?_
                simp only [go_sem]
                refine ⟨_,(Option.some.inj H).symm,?_⟩
                refine Sq [(0,49)] ?_ ?_
                ·simp [CvL,Cv]
                ·exact dQ
               have hk105:(bLt v18_1 (r94.2.1.length:Nat))=true:=by simpa using hc
               replace H:=zL hc H
               refine rg zA ?_
               simp only [go_sem]
               refine zC ?_
               refine xN ?_
               refine zC ?_
               obtain ⟨f106,H⟩:=nI H
               obtain ⟨r107,e108,H⟩:=bsi H
               refine rg ct3t4_ok ?_
               simp only [go_sem,Nat.reduceLeDiff,Nat.reduceLT,Nat.reduceAdd,ct3t4_8,fD,f106,e108]
               repeat ((with_reducible refine aI ?_ ?_);exact an0)
               refine zC ?_
               refine sq zA ?_
               simp only [go_sem]
               refine zX rfl trivial (fun hc=>?_) (fun hc=>?_)
               ·have hk109:(r107.2)=false:=by simpa using hc
                replace H:=zL hc H
                refine sq zA ?_
                simp only [go_sem]
                refine rg zA ?_
                simp only [go_sem]
                obtain ⟨q110,H,hq111⟩:=bsi H
                replace hq111:=hn2_18 _ (Option.some.inj hq111).symm
                obtain rfl:=(Option.some.inj hq111).symm
                refine ⟨_,(Option.some.inj H).symm,?_⟩
                refine Sq [(0,45),(37,1),(48,1),(47,1)] ?_ ?_
                ·simp [CvL,Cv]
                ·refine pQ ?_
                 exact ⟨zJ wY cl (kH (f:=zG) v14_3 v14_2.toNat 0 r94.1 (fun _ _ _ _=>rfl) (fun y hy=>match y,hy with|0,_=>rfl|1,_=>rfl|2,_=>rfl|3,_=>rfl|4,_=>rfl|5,_=>rfl|6,_=>rfl|7,_=>rfl|8,_=>rfl|9,_=>rfl|(y+10),h=>absurd h nlt)),zJ kX cl (fun _ _ _ _=>rfl),dQ⟩
               have hk109:(r107.2)=true:=by simpa using hc
               replace H:=zK hc H
               refine rg zA ?_
               simp only [go_sem]
               refine qP ?_
               refine wL zU zA 2 ?_
               simp only [zV,tS,tZ,dS,dZ,go_sem,Nat.reduceLT]
               repeat ((with_reducible refine aI ?_ ?_);exact an2)
               refine fzO [49] ?_ ?_
               ·simp only [go_sem,Nat.reduceBEq]
                try exact at0
               simp only [go_sem,Nat.reduceBEq,Nat.reduceAdd]
               obtain ⟨f112,H⟩:=nC H
               refine wL zU zA 3 ?_
               simp only [zV,tS,tZ,dS,dZ,go_sem,Nat.reduceLeDiff,Nat.reduceAdd,Nat.reduceBEq,f112]
               repeat ((with_reducible refine aI ?_ ?_);exact an1)
               refine tY ?_
               refine rg zA ?_
               simp only [go_sem]
               refine ⟨_,(Option.some.inj H).symm,?_⟩
               refine Sq [(0,48),(51,1)] ?_ ?_
               ·simp [CvL,Cv,yB]
               ·refine pQ ?_
                exact ⟨zJ kX cl (vO (f:=wD) v18_2 [r107.1] (fun _ _ _ _=>rfl) (wS (f:=wD) [r107.1] (fun _ _=>rfl) rfl)),trivial⟩
              ·try dsimp only at H ⊢
               try simp only [tp]
               try simp only [yS]
               refine sq zA ?_
               simp only [go_sem]
               refine rg zA ?_
               simp only [go_sem]
               refine ⟨_,(Option.some.inj H).symm,?_⟩
               refine Sq [(0,45),(37,1),(48,1),(47,1)] ?_ ?_
               ·simp [CvL,Cv]
               ·refine pQ ?_
                exact ⟨zJ wY cl (kH (f:=zG) v14_3 v14_2.toNat 0 r94.1 (fun _ _ _ _=>rfl) (fun y hy=>match y,hy with|0,_=>rfl|1,_=>rfl|2,_=>rfl|3,_=>rfl|4,_=>rfl|5,_=>rfl|6,_=>rfl|7,_=>rfl|8,_=>rfl|9,_=>rfl|(y+10),h=>absurd h nlt)),zJ kX cl (fun _ _ _ _=>rfl),dQ⟩
           ·obtain ⟨w15_1,w15_2,w15_3,w15_4⟩:=e
            try dsimp only at H ⊢
            try simp only [tp]
            try simp only [r_normal]
            try simp only [go_sem]
            refine wL zU zA 3 ?_
            simp only [zV,tS,tZ,dS,dZ,go_sem]
            repeat ((with_reducible refine aI ?_ ?_);exact an3)
            refine tY ?_
            refine rg zA ?_
            simp only [go_sem]
            refine ⟨_,(Option.some.inj H).symm,?_⟩
            refine Sq [(0,37),(45,3)] ?_ ?_
            ·simp [CvL,Cv,yB]
            ·exact dQ
          replace H:=zK hg97 H
          refine rg zA ?_
          simp only [go_sem,Nat.reduceLT,Nat.reduceAdd,hg96,hg97]
          repeat ((with_reducible refine aI ?_ ?_);exact an3)
          refine rg zA ?_
          simp only [go_sem]
          refine ⟨_,(Option.some.inj H).symm,?_⟩
          refine Sq [(0,40)] ?_ ?_
          ·simp [CvL,Cv,yB]
          ·exact dQ
         ·obtain ⟨w14_6,w14_7,w14_8,w14_9⟩:=e
          try dsimp only at H ⊢
          try simp only [tp]
          try simp only [yS]
          refine rg zA ?_
          simp only [go_sem]
          refine ⟨_,(Option.some.inj H).symm,?_⟩
          refine Sq [(0,33),(37,3)] ?_ ?_
          ·simp [CvL,Cv,yB]
          ·exact dQ
    ·obtain ⟨w3_1,w3_2,w3_3,w3_4,w3_5,w3_6⟩:=e
     try dsimp only at H ⊢
     try simp only [tp]
     try simp only [yS]
     refine zC ?_
     refine sq zA ?_
     simp only [go_sem]
     refine xN ?_
     refine xP (fun s:Bool × Int × (List TRegulate) × (List (List Int)) × (List (Int × Int))=>(.top::.ro 3 p1.length false (enR c_TMove p1)::.top::.top::.top::.ptr 0 0 0 0::tp 4 (.ptr 25 0 0 0::.ptr 27 0 0 0::.ptr 28 0 0 0::.fn 7 [.ptr 0 0 0 0,.ptr 28 0 0 0,.ptr 27 0 0 0,.ptr 25 0 0 0]::.bool s.1::.int .i64 v2_1::.top::.top::.int .i64 w3_3::tp 18 (.int .i64 s.2.1::tp 315 [])))) (fun s=>(.lit 26 [.sl 36 10 0 s.2.2.1.length false]::.dead::.dead::.dead::.dead::.dead::.dead::.dead::.dead::.dead::.dead::.dead::.dead::.dead::.dead::.dead::.dead::.dead::.dead::.dead::.dead::.dead::.dead::.dead::.dead::.lit 36 [.sl 37 1 0 s.2.2.2.1.length false]::.dead::.lit 37 [.val (.map (some mk31))]::.lit 3 [.int .i64 (wr .i64 (v2_2+((gd p1 v2_1.toNat).Wait)))]::.dead::.dead::.dead::.dead::.dead::.dead::.dead::.row 30 10 s.2.2.1.length (enR zG s.2.2.1)::.row 39 1 s.2.2.2.1.length (enR wD s.2.2.2.1)::.mapb mk31 s.2.2.2.2::[])) (fun e:Bool × (List TRegulate) × (List (List Int)) × (List (Int × Int))=>(.top::.ro 3 p1.length false (enR c_TMove p1)::.top::.top::.top::.ptr 0 0 0 0::tp 4 (.ptr 25 0 0 0::.ptr 27 0 0 0::.ptr 28 0 0 0::.fn 7 [.ptr 0 0 0 0,.ptr 28 0 0 0,.ptr 27 0 0 0,.ptr 25 0 0 0]::.bool e.1::.int .i64 v2_1::tp 337 []))) (fun e=>(.lit 26 [.sl 36 10 0 e.2.1.length false]::.dead::.dead::.dead::.dead::.dead::.dead::.dead::.dead::.dead::.dead::.dead::.dead::.dead::.dead::.dead::.dead::.dead::.dead::.dead::.dead::.dead::.dead::.dead::.dead::.lit 36 [.sl 37 1 0 e.2.2.1.length false]::.dead::.lit 37 [.val (.map (some mk31))]::.lit 3 [.int .i64 (wr .i64 (v2_2+((gd p1 v2_1.toNat).Wait)))]::.dead::.dead::.dead::.dead::.dead::.dead::.dead::.row 30 10 e.2.1.length (enR zG e.2.1)::.row 39 1 e.2.2.1.length (enR wD e.2.2.1)::.mapb mk31 e.2.2.2::[])) H ?_ (fun s o H hn1_19 hn2_19=>?_) (fun e H=>?_)
     ·refine Sq [(0,36),(33,3)] ?_ ?_
      ·simp [CvL,Cv,yB,tp]
      ·exact dQ
     ·obtain ⟨v19_1,v19_2,v19_3,v19_4,v19_5⟩:=s
      unfold fR at H
      try dsimp only at H ⊢
      try simp only [tp]
      refine zC ?_
      refine sq zA ?_
      simp only [go_sem,Nat.reduceAdd]
      repeat ((with_reducible refine aI ?_ ?_);exact an4)
      refine condM' rfl trivial (fun hc=>?_) (fun hc=>?_)
      ·have hk113:((bLe v19_2 w3_3) && v19_1)=false:=by first|simpa using hc|simpa only [Bool.not_eq_true',Bool.not_eq_false'] using hc
       replace H:=zK hc H
       refine rg zA ?_
       simp only [go_sem,Nat.reduceBEq]
       refine ⟨_,(Option.some.inj H).symm,?_⟩
       refine Sq [(0,39)] ?_ ?_
       ·simp [CvL,Cv,yB]
       ·exact dQ
      have hk113:((bLe v19_2 w3_3) && v19_1)=true:=by first|simpa using hc|simpa only [Bool.not_eq_true',Bool.not_eq_false'] using hc
      replace H:=zL hc H
      refine rg zA ?_
      simp only [go_sem]
      refine zC ?_
      refine xN ?_
      refine zC ?_
      obtain ⟨f114,H⟩:=nI H
      obtain ⟨r115,e116,H⟩:=bsi H
      refine xC zU ct3t7_ok 5 (by kernel_rfl) (by kernel_rfl) ?_
      intro an han
      simp only [vH,wI,tC,xrD,xoD,uY,vL,List.append_nil,xF,refs,vN,mask,wN,place,xU,wO,xV,hit,inL,xH,ren,qB,rnN,nrH,nrB,nrL,nr,rZ,rS,Nat.sub_self,Nat.add_zero,Nat.zero_add,Nat.reduceSub,Nat.lt_add_one,go_sem,Nat.reduceLeDiff,Nat.reduceLT,Nat.reduceAdd,Nat.reduceSub,Nat.reduceBEq,ct3t7_14,body14,f114,e116]
      repeat ((with_reducible refine aI ?_ ?_);exact an5)
      refine wG (c:=(bEq r115.2.2 0)) (fun hg117=>?_) (fun hg117=>?_)
      ·replace H:=zL hg117 H
       refine qP ?_
       refine wL zU zA 7 ?_
       simp only [zV,tS,tZ,dS,dZ,go_sem,Nat.reduceLT,Nat.reduceAdd,hg117]
       repeat ((with_reducible refine aI ?_ ?_);exact an3)
       refine inlG (rs:=[.tmp 10]) Tryz.func7 (by kernel_rfl) rfl rfl Tryz.ntmps7 (caps:=[.ptr 0 0 0 0,.ptr 28 0 0 0,.ptr 27 0 0 0,.ptr 25 0 0 0]) (tc:=[.int .i64 v19_2,.agg [.sl 39 3 0 r115.1.Table.length false,.int .i64 r115.1.Channel,.bool r115.1.Lead,.int .i64 r115.1.Heard,.bool r115.1.Stopped,.bool r115.1.Moving,.int .i64 r115.1.To,.int .i64 r115.1.At,.sl 40 2 0 r115.1.Blocked.length false,.sl 41 1 0 r115.1.Clear.length false],.sl 42 4 0 r115.2.1.length false,.ptr 0 0 0 0,.ptr 28 0 0 0,.ptr 27 0 0 0,.ptr 25 0 0 0]) (by first|rfl|simp only [gok,go_sem,Nat.reduceLeDiff,Nat.reduceLT,Nat.reduceAdd,Nat.reduceMul,Nat.reduceSub,Nat.reduceEqDiff,Nat.reduceBEq,Int.reduceToNat,reduceCtorEq,hg117]) rfl (by simp only [go_sem]) rfl ?_
       simp only [lC,lN,Nat.reduceAdd,Nat.reduceSub,rS,rZ,aC,aN]
       refine joinR_den (fun e:Bool × (List TRegulate) × (List (List Int)) × (List (Int × Int))=>(tp 10 (.bool e.1::tp 63 []))) (fun e=>(.lit 26 [.sl 44 10 0 e.2.1.length false]::.dead::.dead::.dead::.dead::.dead::.dead::.dead::.dead::.dead::.dead::.dead::.dead::.dead::.dead::.dead::.dead::.dead::.dead::.dead::.dead::.dead::.dead::.dead::.dead::.lit 36 [.sl 45 1 0 e.2.2.1.length false]::.dead::.lit 37 [.val (.map (some mk31))]::.lit 3 [.int .i64 (wr .i64 (v2_2+((gd p1 v2_1.toNat).Wait)))]::.dead::.dead::.dead::.dead::.dead::.dead::.dead::.dead::.dead::.dead::.dead::.dead::.dead::.dead::.dead::.row 30 10 e.2.1.length (enR zG e.2.1)::.row 39 1 e.2.2.1.length (enR wD e.2.2.1)::.mapb mk31 e.2.2.2::[])) H (fun o H hn1_20 hn2_20=>?_) (fun e H=>?_)
       ·unfold F3_L20 at H
        try dsimp only at H ⊢
        try simp only [tp]
        refine sq zA ?_
        simp only [go_sem,Nat.reduceAdd]
        refine zC ?_
        refine zC ?_
        obtain ⟨f118,H⟩:=zP.1 H
        replace f118:=xR.1 f118
        replace f118:=fun g=>uF.1 (f118 g)
        refine rg zA ?_
        simp only [go_sem,Nat.reduceLeDiff,Nat.reduceLT,Nat.reduceAdd]
        repeat ((with_reducible refine And.intro ?_ ?_);focus exact bn3 f118)
        refine uJ (fun e:List (Int × Int)=>(.int .i64 v19_2::.top::.sl 42 4 0 r115.2.1.length false::.ptr 0 0 0 0::.top::.ptr 27 0 0 0::.ptr 25 0 0 0::.top::.ptr 44 0 0 0::tp 65 [])) (fun e=>(.lit 26 [.sl 36 10 0 v19_3.length false]::.dead::.dead::.dead::.dead::.dead::.dead::.dead::.dead::.dead::.dead::.dead::.dead::.dead::.dead::.dead::.dead::.dead::.dead::.dead::.dead::.dead::.dead::.dead::.dead::.lit 36 [.sl 37 1 0 v19_4.length false]::.dead::.lit 37 [.val (.map (some mk31))]::.lit 3 [.int .i64 (wr .i64 (v2_2+((gd p1 v2_1.toNat).Wait)))]::.dead::.dead::.dead::.dead::.dead::.dead::.dead::.row 30 10 v19_3.length (enR zG v19_3)::.row 39 1 v19_4.length (enR wD v19_4)::.dead::.row 35 3 r115.1.Table.length (enR c_TRegulateChannel r115.1.Table)::.row 97 2 r115.1.Blocked.length (enR zB r115.1.Blocked)::.row 3 1 r115.1.Clear.length (enR yG r115.1.Clear)::.row 43 4 r115.2.1.length (enR zR r115.2.1)::.dead::.lit 30 [.sl 39 3 0 r115.1.Table.length false,.int .i64 r115.1.Channel,.bool r115.1.Lead,.int .i64 r115.1.Heard,.bool r115.1.Stopped,.bool r115.1.Moving,.int .i64 r115.1.To,.int .i64 r115.1.At,.sl 40 2 0 r115.1.Blocked.length false,.sl 41 1 0 r115.1.Clear.length false]::.mapb mk31 e::[])) H (fun o H hn1_21 hn2_21=>?_) (fun w21_4 H=>?_)
        ·unfold F3_L21 at H
         try dsimp only at H ⊢
         try simp only [tp]
         refine condM' rfl trivial (fun hc=>?_) (fun hc=>?_)
         ·have hk119:(((bEq v19_2 0) && r115.1.Stopped) && (!((gd v19_3 0).Stopped)))=false:=by first|simpa using hc|simpa only [Bool.not_eq_true',Bool.not_eq_false'] using hc
          replace H:=zK hc H
          refine rg zA ?_
          simp only [go_sem,Nat.reduceAdd]
          refine ⟨_,(Option.some.inj H).symm,?_⟩
          refine Sq [(0,45),(38,1)] ?_ ?_
          ·simp [CvL,Cv,yB]
          ·exact dQ
         have hk119:(((bEq v19_2 0) && r115.1.Stopped) && (!((gd v19_3 0).Stopped)))=true:=by first|simpa using hc|simpa only [Bool.not_eq_true',Bool.not_eq_false'] using hc
         replace H:=zL hc H
         obtain ⟨f120,H⟩:=nI H
         refine draw_tail zU zA 6 (by kernel_rfl) (by kernel_rfl) (by kernel_rfl) ?_
         simp only [zV,tS,tZ,dS,dZ,go_sem,Nat.reduceLeDiff,Nat.reduceLT,Nat.reduceAdd,f120]
         repeat ((with_reducible refine aI ?_ ?_);exact an4)
         obtain ⟨f121,H⟩:=zP.1 H
         replace f121:=decide_eq_true_iff.1 f121
         refine mapUpdateO (kt:=3) (et:=3) (b:=38) (k:=mk31) (m:=v19_5) (x:=(gd v19_3 0).Channel) (v:=wr .i64 (v2_2+((gd p1 v2_1.toNat).Wait))) rfl rfl (by kernel_rfl) (by kernel_rfl) (by first|exact trivial|(simp only [go_sem,Nat.reduceLeDiff,Nat.reduceLT,Nat.reduceAdd,Nat.reduceMul,Nat.reduceSub,Nat.reduceEqDiff,Nat.reduceBEq,Int.reduceToNat,reduceCtorEq];done)|simp [og]) (by first|exact trivial|(simp only [go_sem,Nat.reduceLeDiff,Nat.reduceLT,Nat.reduceAdd,Nat.reduceMul,Nat.reduceSub,Nat.reduceEqDiff,Nat.reduceBEq,Int.reduceToNat,reduceCtorEq];done)|simp [og]) (by first|exact trivial|(simp only [go_sem,Nat.reduceLeDiff,Nat.reduceLT,Nat.reduceAdd,Nat.reduceMul,Nat.reduceSub,Nat.reduceEqDiff,Nat.reduceBEq,Int.reduceToNat,reduceCtorEq];done)|simp [og]) rfl rfl rfl rfl f121 ?_
         simp only [go_sem]
         refine wL zU zA 0 ?_
         simp only [zV,tZ,dZ,go_sem]
         repeat ((with_reducible refine aI ?_ ?_);exact an4)
         refine tY ?_
         refine ⟨_,(Option.some.inj H).symm,?_⟩
         refine Sq [(0,45),(38,1)] ?_ ?_
         ·simp [CvL,Cv,yB]
         ·exact dQ
        ·try dsimp only at H ⊢
         try simp only [tp]
         try simp only [yS]
         refine zC ?_
         refine zC ?_
         obtain ⟨f122,H⟩:=zP.1 H
         replace f122:=xR.1 f122
         replace f122:=fun g=>uF.1 (f122 g)
         refine xZ zU zA (by kernel_rfl) (by kernel_rfl) ?_
         simp only [go_sem,Nat.reduceLeDiff,Nat.reduceLT,Nat.reduceAdd]
         repeat ((with_reducible refine And.intro ?_ ?_);focus exact bn3 f122)
         refine uJ (fun e:List (Int × Int)=>(.int .i64 v19_2::.top::.sl 42 4 0 r115.2.1.length false::.ptr 0 0 0 0::.top::.top::.ptr 25 0 0 0::.top::.ptr 44 0 0 0::tp 65 [])) (fun e=>(.lit 26 [.sl 36 10 0 v19_3.length false]::.dead::.dead::.dead::.dead::.dead::.dead::.dead::.dead::.dead::.dead::.dead::.dead::.dead::.dead::.dead::.dead::.dead::.dead::.dead::.dead::.dead::.dead::.dead::.dead::.lit 36 [.sl 37 1 0 v19_4.length false]::.dead::.lit 37 [.val (.map (some mk31))]::.lit 3 [.int .i64 (wr .i64 (v2_2+((gd p1 v2_1.toNat).Wait)))]::.dead::.dead::.dead::.dead::.dead::.dead::.dead::.row 30 10 v19_3.length (enR zG v19_3)::.row 39 1 v19_4.length (enR wD v19_4)::.dead::.row 35 3 r115.1.Table.length (enR c_TRegulateChannel r115.1.Table)::.row 97 2 r115.1.Blocked.length (enR zB r115.1.Blocked)::.row 3 1 r115.1.Clear.length (enR yG r115.1.Clear)::.row 43 4 r115.2.1.length (enR zR r115.2.1)::.dead::.lit 30 [.sl 39 3 0 r115.1.Table.length false,.int .i64 r115.1.Channel,.bool r115.1.Lead,.int .i64 r115.1.Heard,.bool r115.1.Stopped,.bool r115.1.Moving,.int .i64 r115.1.To,.int .i64 r115.1.At,.sl 40 2 0 r115.1.Blocked.length false,.sl 41 1 0 r115.1.Clear.length false]::.dead::.mapb mk31 e::[])) H (fun o H hn1_22 hn2_22=>?_) (fun w22_4 H=>?_)
         ·unfold F3_L22 at H
          try dsimp only at H ⊢
          try simp only [tp]
          refine condM' rfl trivial (fun hc=>?_) (fun hc=>?_)
          ·have hk123:((bEq v19_2 0) && (!bEq r115.1.Channel ((gd v19_3 0).Channel)))=false:=by first|simpa using hc|simpa only [Bool.not_eq_true',Bool.not_eq_false'] using hc
           replace H:=zK hc H
           refine rg zA ?_
           simp only [go_sem,Nat.reduceAdd]
           refine ⟨_,(Option.some.inj H).symm,?_⟩
           refine Sq [(0,46),(45,1)] ?_ ?_
           ·simp [CvL,Cv,yB]
           ·exact dQ
          have hk123:((bEq v19_2 0) && (!bEq r115.1.Channel ((gd v19_3 0).Channel)))=true:=by first|simpa using hc|simpa only [Bool.not_eq_true',Bool.not_eq_false'] using hc
          replace H:=zL hc H
          refine qP ?_
          refine wL zU zA 3 ?_
          simp only [zV,tS,tZ,dS,dZ,go_sem,Nat.reduceLeDiff,Nat.reduceLT,Nat.reduceAdd]
          repeat ((with_reducible refine aI ?_ ?_);exact an0)
          refine deleteO (kt:=3) (et:=3) (b:=45) (k:=mk31) (m:=w21_4) (x:=r115.1.Channel) rfl rfl rfl (by kernel_rfl) (by kernel_rfl) (by first|exact trivial|(simp only [go_sem,Nat.reduceLeDiff,Nat.reduceLT,Nat.reduceAdd,Nat.reduceMul,Nat.reduceSub,Nat.reduceEqDiff,Nat.reduceBEq,Int.reduceToNat,reduceCtorEq];done)|simp [og]) (by first|exact trivial|(simp only [go_sem,Nat.reduceLeDiff,Nat.reduceLT,Nat.reduceAdd,Nat.reduceMul,Nat.reduceSub,Nat.reduceEqDiff,Nat.reduceBEq,Int.reduceToNat,reduceCtorEq];done)|simp [og]) rfl rfl rfl ?_
          simp only [go_sem]
          refine wL zU zA 0 ?_
          simp only [zV,tZ,dZ,go_sem]
          repeat ((with_reducible refine aI ?_ ?_);exact an0)
          refine tY ?_
          refine ⟨_,(Option.some.inj H).symm,?_⟩
          refine Sq [(0,46),(45,1)] ?_ ?_
          ·simp [CvL,Cv,yB]
          ·exact dQ
         ·try dsimp only at H ⊢
          try simp only [tp]
          try simp only [yS]
          refine zC ?_
          refine qP ?_
          obtain ⟨f124,H⟩:=nI H
          refine wL zU zA 4 ?_
          simp only [zV,tS,tZ,dS,dZ,go_sem,Nat.reduceLT,Nat.reduceAdd,f124]
          repeat ((with_reducible refine aI ?_ ?_);exact an4)
          refine fzO [39,40,41] ?_ ?_
          ·simp only [go_sem,Nat.reduceBEq]
           try exact at0
          simp only [go_sem,Nat.reduceBEq,Nat.reduceAdd]
          refine wL zU zA 1 ?_
          simp only [zV,tS,tZ,dS,dZ,go_sem,Nat.reduceAdd]
          repeat ((with_reducible refine aI ?_ ?_);exact an4)
          refine tY ?_
          refine zC ?_
          refine sq zA ?_
          simp only [go_sem]
          refine xN ?_
          refine xP (fun s:Int × (List (List Int))=>(.int .i64 v19_2::.top::.sl 42 4 0 r115.2.1.length false::.top::.top::.top::.ptr 25 0 0 0::tp 4 (.int .i64 s.1::tp 62 []))) (fun s=>(.lit 26 [.sl 36 10 0 v19_3.length false]::.dead::.dead::.dead::.dead::.dead::.dead::.dead::.dead::.dead::.dead::.dead::.dead::.dead::.dead::.dead::.dead::.dead::.dead::.dead::.dead::.dead::.dead::.dead::.dead::.lit 36 [.sl 47 1 0 s.2.length false]::.dead::.lit 37 [.val (.map (some mk31))]::.lit 3 [.int .i64 (wr .i64 (v2_2+((gd p1 v2_1.toNat).Wait)))]::.dead::.dead::.dead::.dead::.dead::.dead::.dead::.row 30 10 v19_3.length (upc (enR zG v19_3) v19_2.toNat 0 [.ro 3 r115.1.Table.length false (enR c_TRegulateChannel r115.1.Table),.int .i64 r115.1.Channel,.bool r115.1.Lead,.int .i64 r115.1.Heard,.bool r115.1.Stopped,.bool r115.1.Moving,.int .i64 r115.1.To,.int .i64 r115.1.At,.ro 2 r115.1.Blocked.length false (enR zB r115.1.Blocked),.ro 1 r115.1.Clear.length false (enR yG r115.1.Clear)])::.dead::.dead::.dead::.dead::.dead::.row 43 4 r115.2.1.length (enR zR r115.2.1)::.dead::.dead::.dead::.mapb mk31 w22_4::.row 39 1 s.2.length (enR wD s.2)::[])) (fun e:List (List Int)=>(tp 74 [])) (fun e=>(.lit 26 [.sl 36 10 0 v19_3.length false]::.dead::.dead::.dead::.dead::.dead::.dead::.dead::.dead::.dead::.dead::.dead::.dead::.dead::.dead::.dead::.dead::.dead::.dead::.dead::.dead::.dead::.dead::.dead::.dead::.lit 36 [.sl 47 1 0 e.length false]::.dead::.lit 37 [.val (.map (some mk31))]::.lit 3 [.int .i64 (wr .i64 (v2_2+((gd p1 v2_1.toNat).Wait)))]::.dead::.dead::.dead::.dead::.dead::.dead::.dead::.row 30 10 v19_3.length (upc (enR zG v19_3) v19_2.toNat 0 [.ro 3 r115.1.Table.length false (enR c_TRegulateChannel r115.1.Table),.int .i64 r115.1.Channel,.bool r115.1.Lead,.int .i64 r115.1.Heard,.bool r115.1.Stopped,.bool r115.1.Moving,.int .i64 r115.1.To,.int .i64 r115.1.At,.ro 2 r115.1.Blocked.length false (enR zB r115.1.Blocked),.ro 1 r115.1.Clear.length false (enR yG r115.1.Clear)])::.dead::.dead::.dead::.dead::.dead::.dead::.dead::.dead::.dead::.mapb mk31 w22_4::.row 39 1 e.length (enR wD e)::[])) H ?_ (fun s o H hn1_23 hn2_23=>?_) (fun w23_4 H=>?_)
          ·refine Sq [(0,47),(37,1)] ?_ ?_
           ·simp [CvL,Cv,yB,tp]
           ·exact dQ
          ·obtain ⟨v23_1,v23_2⟩:=s
           unfold F3_L23 at H
           try dsimp only at H ⊢
           try simp only [tp]
           refine zC ?_
           refine sq zA ?_
           simp only [go_sem,Nat.reduceAdd]
           repeat ((with_reducible refine aI ?_ ?_);exact an0)
           refine condM' rfl trivial (fun hc=>?_) (fun hc=>?_)
           ·have hk125:(bLt v23_1 (r115.2.1.length:Nat))=false:=by simpa using hc
            replace H:=zK hc H
            refine rg zA ?_
            simp only [go_sem]
            refine ⟨_,(Option.some.inj H).symm,?_⟩
            refine Sq [(0,48)] ?_ ?_
            ·simp [CvL,Cv]
            ·exact dQ
           have hk125:(bLt v23_1 (r115.2.1.length:Nat))=true:=by simpa using hc
           replace H:=zL hc H
           refine rg zA ?_
           simp only [go_sem]
           refine zC ?_
           refine xN ?_
           refine zC ?_
           obtain ⟨f126,H⟩:=nI H
           obtain ⟨r127,e128,H⟩:=bsi H
           refine rg ct3t4_ok ?_
           simp only [go_sem,Nat.reduceLeDiff,Nat.reduceLT,Nat.reduceAdd,ct3t4_8,fD,f126,e128]
           repeat ((with_reducible refine aI ?_ ?_);exact an0)
           refine zC ?_
           refine sq zA ?_
           simp only [go_sem]
           refine zX rfl trivial (fun hc=>?_) (fun hc=>?_)
           ·have hk129:(r127.2)=false:=by simpa using hc
            replace H:=zL hc H
            refine sq zA ?_
            simp only [go_sem]
            refine rg zA ?_
            simp only [go_sem]
            obtain ⟨q130,H,hq131⟩:=bsi H
            replace hq131:=hn2_23 _ (Option.some.inj hq131).symm
            obtain rfl:=(Option.some.inj hq131).symm
            refine ⟨_,(Option.some.inj H).symm,?_⟩
            refine Sq [(0,44),(36,1),(47,1),(46,1)] ?_ ?_
            ·simp [CvL,Cv]
            ·refine pQ ?_
             exact ⟨zJ wY cl (kH (f:=zG) v19_3 v19_2.toNat 0 r115.1 (fun _ _ _ _=>rfl) (fun y hy=>match y,hy with|0,_=>rfl|1,_=>rfl|2,_=>rfl|3,_=>rfl|4,_=>rfl|5,_=>rfl|6,_=>rfl|7,_=>rfl|8,_=>rfl|9,_=>rfl|(y+10),h=>absurd h nlt)),zJ kX cl (fun _ _ _ _=>rfl),dQ⟩
           have hk129:(r127.2)=true:=by simpa using hc
           replace H:=zK hc H
           refine rg zA ?_
           simp only [go_sem]
           refine qP ?_
           refine wL zU zA 2 ?_
           simp only [zV,tS,tZ,dS,dZ,go_sem,Nat.reduceLT]
           repeat ((with_reducible refine aI ?_ ?_);exact an2)
           refine fzO [48] ?_ ?_
           ·simp only [go_sem,Nat.reduceBEq]
            try exact at0
           simp only [go_sem,Nat.reduceBEq,Nat.reduceAdd]
           obtain ⟨f132,H⟩:=nC H
           refine wL zU zA 3 ?_
           simp only [zV,tS,tZ,dS,dZ,go_sem,Nat.reduceLeDiff,Nat.reduceAdd,Nat.reduceBEq,f132]
           repeat ((with_reducible refine aI ?_ ?_);exact an1)
           refine tY ?_
           refine rg zA ?_
           simp only [go_sem]
           refine ⟨_,(Option.some.inj H).symm,?_⟩
           refine Sq [(0,47),(50,1)] ?_ ?_
           ·simp [CvL,Cv,yB]
           ·refine pQ ?_
            exact ⟨zJ kX cl (vO (f:=wD) v23_2 [r127.1] (fun _ _ _ _=>rfl) (wS (f:=wD) [r127.1] (fun _ _=>rfl) rfl)),trivial⟩
          ·try dsimp only at H ⊢
           try simp only [tp]
           try simp only [yS]
           refine sq zA ?_
           simp only [go_sem]
           refine rg zA ?_
           simp only [go_sem]
           refine ⟨_,(Option.some.inj H).symm,?_⟩
           refine Sq [(0,44),(36,1),(47,1),(46,1)] ?_ ?_
           ·simp [CvL,Cv]
           ·refine pQ ?_
            exact ⟨zJ wY cl (kH (f:=zG) v19_3 v19_2.toNat 0 r115.1 (fun _ _ _ _=>rfl) (fun y hy=>match y,hy with|0,_=>rfl|1,_=>rfl|2,_=>rfl|3,_=>rfl|4,_=>rfl|5,_=>rfl|6,_=>rfl|7,_=>rfl|8,_=>rfl|9,_=>rfl|(y+10),h=>absurd h nlt)),zJ kX cl (fun _ _ _ _=>rfl),dQ⟩
       ·obtain ⟨w20_1,w20_2,w20_3,w20_4⟩:=e
        try dsimp only at H ⊢
        try simp only [tp]
        try simp only [r_normal]
        try simp only [go_sem]
        refine wL zU zA 2 ?_
        simp only [zV,tS,tZ,dS,dZ,go_sem]
        repeat ((with_reducible refine aI ?_ ?_);exact an3)
        refine tY ?_
        refine rg zA ?_
        simp only [go_sem]
        refine ⟨_,(Option.some.inj H).symm,?_⟩
        refine Sq [(0,36),(44,3)] ?_ ?_
        ·simp [CvL,Cv,yB]
        ·exact dQ
      replace H:=zK hg117 H
      refine rg zA ?_
      simp only [go_sem,Nat.reduceLT,Nat.reduceAdd,hg117]
      repeat ((with_reducible refine aI ?_ ?_);exact an3)
      refine rg zA ?_
      simp only [go_sem]
      refine ⟨_,(Option.some.inj H).symm,?_⟩
      refine Sq [(0,39)] ?_ ?_
      ·simp [CvL,Cv,yB]
      ·exact dQ
     ·obtain ⟨w19_6,w19_7,w19_8,w19_9⟩:=e
      try dsimp only at H ⊢
      try simp only [tp]
      try simp only [yS]
      refine sq zA ?_
      simp only [go_sem]
      refine xN ?_
      refine xP (fun s:Bool × Int=>(.top::.ro 3 p1.length false (enR c_TMove p1)::.top::.top::.top::.ptr 0 0 0 0::tp 4 (.ptr 25 0 0 0::.ptr 27 0 0 0::.ptr 28 0 0 0::.fn 7 [.ptr 0 0 0 0,.ptr 28 0 0 0,.ptr 27 0 0 0,.ptr 25 0 0 0]::.bool s.1::.int .i64 v2_1::tp 25 (.int .i64 s.2::tp 311 [])))) (fun s=>(.lit 26 [.sl 36 10 0 w19_7.length false]::.dead::.dead::.dead::.dead::.dead::.dead::.dead::.dead::.dead::.dead::.dead::.dead::.dead::.dead::.dead::.dead::.dead::.dead::.dead::.dead::.dead::.dead::.dead::.dead::.lit 36 [.sl 37 1 0 w19_8.length false]::.dead::.lit 37 [.val (.map (some mk31))]::.lit 3 [.int .i64 (wr .i64 (v2_2+((gd p1 v2_1.toNat).Wait)))]::.dead::.dead::.dead::.dead::.dead::.dead::.dead::.row 30 10 w19_7.length (enR zG w19_7)::.row 39 1 w19_8.length (enR wD w19_8)::.mapb mk31 w19_9::[])) (fun e:Bool=>(.top::.ro 3 p1.length false (enR c_TMove p1)::.top::.top::.top::.ptr 0 0 0 0::tp 4 (.ptr 25 0 0 0::.ptr 27 0 0 0::.ptr 28 0 0 0::.fn 7 [.ptr 0 0 0 0,.ptr 28 0 0 0,.ptr 27 0 0 0,.ptr 25 0 0 0]::.bool e::.int .i64 v2_1::tp 337 []))) (fun e=>(.lit 26 [.sl 36 10 0 w19_7.length false]::.dead::.dead::.dead::.dead::.dead::.dead::.dead::.dead::.dead::.dead::.dead::.dead::.dead::.dead::.dead::.dead::.dead::.dead::.dead::.dead::.dead::.dead::.dead::.dead::.lit 36 [.sl 37 1 0 w19_8.length false]::.dead::.lit 37 [.val (.map (some mk31))]::.lit 3 [.int .i64 (wr .i64 (v2_2+((gd p1 v2_1.toNat).Wait)))]::.dead::.dead::.dead::.dead::.dead::.dead::.dead::.row 30 10 w19_7.length (enR zG w19_7)::.row 39 1 w19_8.length (enR wD w19_8)::.mapb mk31 w19_9::[])) H ?_ (fun s o H hn1_24 hn2_24=>?_) (fun w24_3 H=>?_)
      ·refine Sq [(0,39)] ?_ ?_
       ·simp [CvL,Cv,yB,tp]
       ·exact dQ
      ·obtain ⟨v24_1,v24_2⟩:=s
       unfold F3_L24 at H
       try dsimp only at H ⊢
       try simp only [tp]
       refine zC ?_
       refine sq zA ?_
       simp only [go_sem,Nat.reduceAdd]
       repeat ((with_reducible refine aI ?_ ?_);exact an4)
       refine condM' rfl trivial (fun hc=>?_) (fun hc=>?_)
       ·have hk133:((bLt v24_2 4) && v24_1)=false:=by first|simpa using hc|simpa only [Bool.not_eq_true',Bool.not_eq_false'] using hc
        replace H:=zK hc H
        refine rg zA ?_
        simp only [go_sem,Nat.reduceBEq]
        refine ⟨_,(Option.some.inj H).symm,?_⟩
        refine Sq [(0,39)] ?_ ?_
        ·simp [CvL,Cv,yB]
        ·exact dQ
       have hk133:((bLt v24_2 4) && v24_1)=true:=by first|simpa using hc|simpa only [Bool.not_eq_true',Bool.not_eq_false'] using hc
       replace H:=zL hc H
       refine rg zA ?_
       simp only [go_sem]
       refine zC ?_
       refine xN ?_
       refine zC ?_
       obtain ⟨f134,H⟩:=nI H
       refine xZ zU zA (by kernel_rfl) (by kernel_rfl) ?_
       simp only [go_sem,Nat.reduceLeDiff,Nat.reduceLT,Nat.reduceAdd,f134]
       repeat ((with_reducible refine aI ?_ ?_);exact an4)
       refine zC ?_
       obtain ⟨f135,H⟩:=nI H
       obtain ⟨r136,e137,H⟩:=bsi H
       refine xZ zU ct3t5_ok (by kernel_rfl) (by kernel_rfl) ?_
       simp only [go_sem,Nat.reduceLT,Nat.reduceAdd,ct3t5_10,gJ,f135,e137]
       repeat ((with_reducible refine aI ?_ ?_);exact an0)
       refine rg zA ?_
       simp only [go_sem,Nat.reduceLT]
       repeat ((with_reducible refine aI ?_ ?_);exact an4)
       refine rg zA ?_
       simp only [go_sem]
       refine ⟨_,(Option.some.inj H).symm,?_⟩
       refine Sq [(0,39)] ?_ ?_
       ·simp [CvL,Cv,yB]
       ·exact dQ
      ·try dsimp only at H ⊢
       try simp only [tp]
       try simp only [yS,b_normal]
       refine rg zA ?_
       simp only [go_sem]
       refine ⟨_,(Option.some.inj H).symm,?_⟩
       refine Sq [(0,29),(36,3)] ?_ ?_
       ·simp [CvL,Cv,yB]
       ·exact dQ
   ·try dsimp only at H ⊢
    try simp only [tp]
    try simp only [yS]
    refine sq zA ?_
    simp only [go_sem]
    refine rg zA ?_
    simp only [go_sem]
    obtain rfl:=Option.some.inj H
    exact fB
 ·cases hb
end
end Go.Proofs.YtooepgpfaaddbaaGreat
