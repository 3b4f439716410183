/-
  What RootSettled reaches.
-/
import Derived.Test.YtdcepineppafpaaY7p2
namespace Go.Proofs.Ytdcepineppafpaa
open Go.Am
set_option maxHeartbeats 4000000
set_option maxRecDepth 20000
set_option linter.unusedVariables false
set_option linter.unusedSimpArgs false
noncomputable def ct40t0:Ct:=tab [(33,edC fF),(42,yD vX)]
theorem ct40t0_ok:xK Try.prog ct40t0:=yG ok33 <| yG ok42 <| yM
theorem ct40t0_33 (l:List AV) (h:List ABlk):ct40t0 33 l h=edC fF l h:=rfl
theorem ct40t0_42 (l:List AV) (h:List ABlk):ct40t0 42 l h=yD vX l h:=rfl
noncomputable def ct40t1:Ct:=tab [(18,edC body18)]
theorem ct40t1_ok:xK Try.prog ct40t1:=yG ok18 <| yM
theorem ct40t1_18 (l:List AV) (h:List ABlk):ct40t1 18 l h=edC body18 l h:=rfl
noncomputable def ct40t3:Ct:=tab [(20,edC jA),(42,yD vX)]
theorem ct40t3_ok:xK Try.prog ct40t3:=yG ok20 <| yG ok42 <| yM
theorem ct40t3_20 (l:List AV) (h:List ABlk):ct40t3 20 l h=edC jA l h:=rfl
theorem ct40t3_42 (l:List AV) (h:List ABlk):ct40t3 42 l h=yD vX l h:=rfl
noncomputable def ct40t4:Ct:=tab [(77,edC jB)]
theorem ct40t4_ok:xK Try.prog ct40t4:=yG ok77_1 <| yM
theorem ct40t4_77 (l:List AV) (h:List ABlk):ct40t4 77 l h=edC jB l h:=rfl
noncomputable def ct40t5:Ct:=tab [(78,yD body78)]
theorem ct40t5_ok:xK Try.prog ct40t5:=yG ok78 <| yM
theorem ct40t5_78 (l:List AV) (h:List ABlk):ct40t5 78 l h=yD body78 l h:=rfl
noncomputable def F40_L1 (v1_1:List TRoots) (v1_2:Int):Option (Lp ((List TRoots) × Int) ((List TRoots) ⊕ (A8TRoots × Bool))) :=
 bif (bLt v1_2 8) then ((F42 v1_2).bind fun r5=>(F33 r5 (bEq v1_2 0) false).bind fun r7=>need (inb v1_2 8) <| need (inb v1_2 v1_1.length) <| some (.next ((v1_1.set v1_2.toNat r7.1),wr .i64 (v1_2+1)))) else (some (.done (.inl v1_1)))
noncomputable def F40_L3 (p2:List Int) (v2_4:Int):Option (Lp (Unit) ((Int) ⊕ (A8TRoots × Bool))) :=
 bif (bLt v2_4 (p2.length:Nat)) then (need (inb v2_4 p2.length) <| some (.done (.inl (gd p2 v2_4.toNat)))) else (some (.done (.inl 0)))
noncomputable def F40_L4 (w1:List Int) (v2_1:Int) (v2_2:List TRoots) (v2_3:List Tmessage) (w3_2:Int):Option (Lp (Unit) ((Int × (List TRoots) × (List Tmessage)) ⊕ (A8TRoots × Bool))) :=
 bif ((bLt 0 v2_1) && ((bEq (v2_3.length:Nat) 0) || (bEq (w3_2.tmod 3) 1))) then (need (inb 0 8) <| need (inb 0 v2_2.length) <| (F18 (TRoots.mk (A6u8.mk (((gd v2_2 0).Own).x0) (((gd v2_2 0).Own).x1) (((gd v2_2 0).Own).x2) (((gd v2_2 0).Own).x3) (((gd v2_2 0).Own).x4) (((gd v2_2 0).Own).x5)) ((gd v2_2 0).Root) ((gd v2_2 0).Gate) ((gd v2_2 0).Seq) ((gd v2_2 0).Trees) ((gd v2_2 0).Proxies))).bind fun r14=>bif (!bEq r14.2.2 0) then (need (decide (v2_2.length=8)) <| some (.done (.inr ((A8TRoots.mk (TRoots.mk (A6u8.mk (((gd v2_2 0).Own).x0) (((gd v2_2 0).Own).x1) (((gd v2_2 0).Own).x2) (((gd v2_2 0).Own).x3) (((gd v2_2 0).Own).x4) (((gd v2_2 0).Own).x5)) ((gd v2_2 0).Root) ((gd v2_2 0).Gate) ((gd v2_2 0).Seq) ((gd v2_2 0).Trees) ((gd v2_2 0).Proxies)) (TRoots.mk (A6u8.mk (((gd v2_2 1).Own).x0) (((gd v2_2 1).Own).x1) (((gd v2_2 1).Own).x2) (((gd v2_2 1).Own).x3) (((gd v2_2 1).Own).x4) (((gd v2_2 1).Own).x5)) ((gd v2_2 1).Root) ((gd v2_2 1).Gate) ((gd v2_2 1).Seq) ((gd v2_2 1).Trees) ((gd v2_2 1).Proxies)) (TRoots.mk (A6u8.mk (((gd v2_2 2).Own).x0) (((gd v2_2 2).Own).x1) (((gd v2_2 2).Own).x2) (((gd v2_2 2).Own).x3) (((gd v2_2 2).Own).x4) (((gd v2_2 2).Own).x5)) ((gd v2_2 2).Root) ((gd v2_2 2).Gate) ((gd v2_2 2).Seq) ((gd v2_2 2).Trees) ((gd v2_2 2).Proxies)) (TRoots.mk (A6u8.mk (((gd v2_2 3).Own).x0) (((gd v2_2 3).Own).x1) (((gd v2_2 3).Own).x2) (((gd v2_2 3).Own).x3) (((gd v2_2 3).Own).x4) (((gd v2_2 3).Own).x5)) ((gd v2_2 3).Root) ((gd v2_2 3).Gate) ((gd v2_2 3).Seq) ((gd v2_2 3).Trees) ((gd v2_2 3).Proxies)) (TRoots.mk (A6u8.mk (((gd v2_2 4).Own).x0) (((gd v2_2 4).Own).x1) (((gd v2_2 4).Own).x2) (((gd v2_2 4).Own).x3) (((gd v2_2 4).Own).x4) (((gd v2_2 4).Own).x5)) ((gd v2_2 4).Root) ((gd v2_2 4).Gate) ((gd v2_2 4).Seq) ((gd v2_2 4).Trees) ((gd v2_2 4).Proxies)) (TRoots.mk (A6u8.mk (((gd v2_2 5).Own).x0) (((gd v2_2 5).Own).x1) (((gd v2_2 5).Own).x2) (((gd v2_2 5).Own).x3) (((gd v2_2 5).Own).x4) (((gd v2_2 5).Own).x5)) ((gd v2_2 5).Root) ((gd v2_2 5).Gate) ((gd v2_2 5).Seq) ((gd v2_2 5).Trees) ((gd v2_2 5).Proxies)) (TRoots.mk (A6u8.mk (((gd v2_2 6).Own).x0) (((gd v2_2 6).Own).x1) (((gd v2_2 6).Own).x2) (((gd v2_2 6).Own).x3) (((gd v2_2 6).Own).x4) (((gd v2_2 6).Own).x5)) ((gd v2_2 6).Root) ((gd v2_2 6).Gate) ((gd v2_2 6).Seq) ((gd v2_2 6).Trees) ((gd v2_2 6).Proxies)) (TRoots.mk (A6u8.mk (((gd v2_2 7).Own).x0) (((gd v2_2 7).Own).x1) (((gd v2_2 7).Own).x2) (((gd v2_2 7).Own).x3) (((gd v2_2 7).Own).x4) (((gd v2_2 7).Own).x5)) ((gd v2_2 7).Root) ((gd v2_2 7).Gate) ((gd v2_2 7).Seq) ((gd v2_2 7).Trees) ((gd v2_2 7).Proxies))),false)))) else (need (inb 0 8) <| need (inb 0 v2_2.length) <| need (decide (w1.length=64)) <| (bC v2_3 (A8A8i64.mk (A8i64.mk (gd w1 0) (gd w1 1) (gd w1 2) (gd w1 3) (gd w1 4) (gd w1 5) (gd w1 6) (gd w1 7)) (A8i64.mk (gd w1 8) (gd w1 9) (gd w1 10) (gd w1 11) (gd w1 12) (gd w1 13) (gd w1 14) (gd w1 15)) (A8i64.mk (gd w1 16) (gd w1 17) (gd w1 18) (gd w1 19) (gd w1 20) (gd w1 21) (gd w1 22) (gd w1 23)) (A8i64.mk (gd w1 24) (gd w1 25) (gd w1 26) (gd w1 27) (gd w1 28) (gd w1 29) (gd w1 30) (gd w1 31)) (A8i64.mk (gd w1 32) (gd w1 33) (gd w1 34) (gd w1 35) (gd w1 36) (gd w1 37) (gd w1 38) (gd w1 39)) (A8i64.mk (gd w1 40) (gd w1 41) (gd w1 42) (gd w1 43) (gd w1 44) (gd w1 45) (gd w1 46) (gd w1 47)) (A8i64.mk (gd w1 48) (gd w1 49) (gd w1 50) (gd w1 51) (gd w1 52) (gd w1 53) (gd w1 54) (gd w1 55)) (A8i64.mk (gd w1 56) (gd w1 57) (gd w1 58) (gd w1 59) (gd w1 60) (gd w1 61) (gd w1 62) (gd w1 63))) 0 (TRootWord.mk (A6u8.mk r14.1.Root.x0 r14.1.Root.x1 r14.1.Root.x2 r14.1.Root.x3 r14.1.Root.x4 r14.1.Root.x5) r14.1.Seq r14.1.Hops r14.1.Cost r14.1.Gate)).bind fun r20=>some (.done (.inl (wr .i64 (v2_1 - 1),(v2_2.set 0 r14.2.1),r20))))) else (some (.done (.inl (v2_1,v2_2,v2_3))))
noncomputable def F40_L5 (w3_2:Int):Option (Lp (Unit) ((Int) ⊕ (A8TRoots × Bool))) :=
 bif (bLt w3_2 0) then (some (.done (.inl 0))) else (some (.done (.inl w3_2)))
noncomputable def F40_L6 (w1:List Int) (w4_3:List Tmessage) (w5_2:Int) (r40:TRoots × (List TRootWord) × Int) (v6_1:List Tmessage) (v6_2:Int):Option (Lp ((List Tmessage) × Int) ((List Tmessage) ⊕ (A8TRoots × Bool))) :=
 bif (bLt v6_2 (r40.2.1.length:Nat)) then (need (decide (w1.length=64)) <| need (inb v6_2 r40.2.1.length) <| (bC v6_1 (A8A8i64.mk (A8i64.mk (gd w1 0) (gd w1 1) (gd w1 2) (gd w1 3) (gd w1 4) (gd w1 5) (gd w1 6) (gd w1 7)) (A8i64.mk (gd w1 8) (gd w1 9) (gd w1 10) (gd w1 11) (gd w1 12) (gd w1 13) (gd w1 14) (gd w1 15)) (A8i64.mk (gd w1 16) (gd w1 17) (gd w1 18) (gd w1 19) (gd w1 20) (gd w1 21) (gd w1 22) (gd w1 23)) (A8i64.mk (gd w1 24) (gd w1 25) (gd w1 26) (gd w1 27) (gd w1 28) (gd w1 29) (gd w1 30) (gd w1 31)) (A8i64.mk (gd w1 32) (gd w1 33) (gd w1 34) (gd w1 35) (gd w1 36) (gd w1 37) (gd w1 38) (gd w1 39)) (A8i64.mk (gd w1 40) (gd w1 41) (gd w1 42) (gd w1 43) (gd w1 44) (gd w1 45) (gd w1 46) (gd w1 47)) (A8i64.mk (gd w1 48) (gd w1 49) (gd w1 50) (gd w1 51) (gd w1 52) (gd w1 53) (gd w1 54) (gd w1 55)) (A8i64.mk (gd w1 56) (gd w1 57) (gd w1 58) (gd w1 59) (gd w1 60) (gd w1 61) (gd w1 62) (gd w1 63))) ((gd w4_3 ((w5_2.tmod (w4_3.length:Nat)).toNat)).to_) (TRootWord.mk (A6u8.mk (((gd r40.2.1 v6_2.toNat).Root).x0) (((gd r40.2.1 v6_2.toNat).Root).x1) (((gd r40.2.1 v6_2.toNat).Root).x2) (((gd r40.2.1 v6_2.toNat).Root).x3) (((gd r40.2.1 v6_2.toNat).Root).x4) (((gd r40.2.1 v6_2.toNat).Root).x5)) ((gd r40.2.1 v6_2.toNat).Seq) ((gd r40.2.1 v6_2.toNat).Hops) ((gd r40.2.1 v6_2.toNat).Cost) ((gd r40.2.1 v6_2.toNat).Gate))).bind fun r46=>some (.next (r46,wr .i64 (v6_2+1)))) else (some (.done (.inl v6_1)))
noncomputable def F40_L2 (p2:List Int) (w1:List Int) (v2_1:Int) (v2_2:List TRoots) (v2_3:List Tmessage) (v2_4:Int):Option (Lp (Int × (List TRoots) × (List Tmessage) × Int) ((List TRoots) ⊕ (A8TRoots × Bool))) :=
 bif (bLt v2_4 1000000) then (lp (yP (fun s=>F40_L3 p2 v2_4) ()) (fun w3_2=>lp (yP (fun s=>F40_L4 w1 v2_1 v2_2 v2_3 w3_2) ()) (fun e4=>bif (bEq (e4.2.2.length:Nat) 0) then (need (decide (e4.2.1.length=8)) <| some (.done (.inr ((A8TRoots.mk (TRoots.mk (A6u8.mk (((gd e4.2.1 0).Own).x0) (((gd e4.2.1 0).Own).x1) (((gd e4.2.1 0).Own).x2) (((gd e4.2.1 0).Own).x3) (((gd e4.2.1 0).Own).x4) (((gd e4.2.1 0).Own).x5)) ((gd e4.2.1 0).Root) ((gd e4.2.1 0).Gate) ((gd e4.2.1 0).Seq) ((gd e4.2.1 0).Trees) ((gd e4.2.1 0).Proxies)) (TRoots.mk (A6u8.mk (((gd e4.2.1 1).Own).x0) (((gd e4.2.1 1).Own).x1) (((gd e4.2.1 1).Own).x2) (((gd e4.2.1 1).Own).x3) (((gd e4.2.1 1).Own).x4) (((gd e4.2.1 1).Own).x5)) ((gd e4.2.1 1).Root) ((gd e4.2.1 1).Gate) ((gd e4.2.1 1).Seq) ((gd e4.2.1 1).Trees) ((gd e4.2.1 1).Proxies)) (TRoots.mk (A6u8.mk (((gd e4.2.1 2).Own).x0) (((gd e4.2.1 2).Own).x1) (((gd e4.2.1 2).Own).x2) (((gd e4.2.1 2).Own).x3) (((gd e4.2.1 2).Own).x4) (((gd e4.2.1 2).Own).x5)) ((gd e4.2.1 2).Root) ((gd e4.2.1 2).Gate) ((gd e4.2.1 2).Seq) ((gd e4.2.1 2).Trees) ((gd e4.2.1 2).Proxies)) (TRoots.mk (A6u8.mk (((gd e4.2.1 3).Own).x0) (((gd e4.2.1 3).Own).x1) (((gd e4.2.1 3).Own).x2) (((gd e4.2.1 3).Own).x3) (((gd e4.2.1 3).Own).x4) (((gd e4.2.1 3).Own).x5)) ((gd e4.2.1 3).Root) ((gd e4.2.1 3).Gate) ((gd e4.2.1 3).Seq) ((gd e4.2.1 3).Trees) ((gd e4.2.1 3).Proxies)) (TRoots.mk (A6u8.mk (((gd e4.2.1 4).Own).x0) (((gd e4.2.1 4).Own).x1) (((gd e4.2.1 4).Own).x2) (((gd e4.2.1 4).Own).x3) (((gd e4.2.1 4).Own).x4) (((gd e4.2.1 4).Own).x5)) ((gd e4.2.1 4).Root) ((gd e4.2.1 4).Gate) ((gd e4.2.1 4).Seq) ((gd e4.2.1 4).Trees) ((gd e4.2.1 4).Proxies)) (TRoots.mk (A6u8.mk (((gd e4.2.1 5).Own).x0) (((gd e4.2.1 5).Own).x1) (((gd e4.2.1 5).Own).x2) (((gd e4.2.1 5).Own).x3) (((gd e4.2.1 5).Own).x4) (((gd e4.2.1 5).Own).x5)) ((gd e4.2.1 5).Root) ((gd e4.2.1 5).Gate) ((gd e4.2.1 5).Seq) ((gd e4.2.1 5).Trees) ((gd e4.2.1 5).Proxies)) (TRoots.mk (A6u8.mk (((gd e4.2.1 6).Own).x0) (((gd e4.2.1 6).Own).x1) (((gd e4.2.1 6).Own).x2) (((gd e4.2.1 6).Own).x3) (((gd e4.2.1 6).Own).x4) (((gd e4.2.1 6).Own).x5)) ((gd e4.2.1 6).Root) ((gd e4.2.1 6).Gate) ((gd e4.2.1 6).Seq) ((gd e4.2.1 6).Trees) ((gd e4.2.1 6).Proxies)) (TRoots.mk (A6u8.mk (((gd e4.2.1 7).Own).x0) (((gd e4.2.1 7).Own).x1) (((gd e4.2.1 7).Own).x2) (((gd e4.2.1 7).Own).x3) (((gd e4.2.1 7).Own).x4) (((gd e4.2.1 7).Own).x5)) ((gd e4.2.1 7).Root) ((gd e4.2.1 7).Gate) ((gd e4.2.1 7).Seq) ((gd e4.2.1 7).Trees) ((gd e4.2.1 7).Proxies))),true)))) else (lp (yP (fun s=>F40_L5 w3_2) ()) (fun w5_2=>need (!(bEq (e4.2.2.length:Nat) 0)) <| need (inb (w5_2.tmod (e4.2.2.length:Nat)) e4.2.2.length) <| need (slb 0 (w5_2.tmod (e4.2.2.length:Nat)) e4.2.2.length) <| need (capb 56 ((w5_2.tmod (e4.2.2.length:Nat)).toNat)) <| need (slb (wr .i64 ((w5_2.tmod (e4.2.2.length:Nat))+1)) (e4.2.2.length:Nat) e4.2.2.length) <| need (capb 56 ((w5_2.tmod (e4.2.2.length:Nat)).toNat+(e4.2.2.length - (wr .i64 ((w5_2.tmod (e4.2.2.length:Nat))+1)).toNat))) <| (some (([] ++ (List.take ((w5_2.tmod (e4.2.2.length:Nat)).toNat) e4.2.2)) ++ (List.take (e4.2.2.length - (wr .i64 ((w5_2.tmod (e4.2.2.length:Nat))+1)).toNat) (List.drop ((wr .i64 ((w5_2.tmod (e4.2.2.length:Nat))+1)).toNat) e4.2.2)))).bind fun w29=>(some (List.drop (wr .i64 ((w5_2.tmod (e4.2.2.length:Nat))+1)).toNat e4.2.2)).bind fun w31=>need (inb ((gd e4.2.2 ((w5_2.tmod (e4.2.2.length:Nat)).toNat)).to_) 8) <| need (inb ((gd e4.2.2 ((w5_2.tmod (e4.2.2.length:Nat)).toNat)).to_) e4.2.1.length) <| (F42 ((gd e4.2.2 ((w5_2.tmod (e4.2.2.length:Nat)).toNat)).from_)).bind fun r35=>need (inb ((gd e4.2.2 ((w5_2.tmod (e4.2.2.length:Nat)).toNat)).from_) 8) <| need (inb ((gd e4.2.2 ((w5_2.tmod (e4.2.2.length:Nat)).toNat)).to_) 8) <| need (decide ((((gd e4.2.2 ((w5_2.tmod (e4.2.2.length:Nat)).toNat)).from_).toNat) * 8+(((gd e4.2.2 ((w5_2.tmod (e4.2.2.length:Nat)).toNat)).to_).toNat) < w1.length)) <| (F20 (TRoots.mk (A6u8.mk (((gd e4.2.1 (((gd e4.2.2 ((w5_2.tmod (e4.2.2.length:Nat)).toNat)).to_).toNat)).Own).x0) (((gd e4.2.1 (((gd e4.2.2 ((w5_2.tmod (e4.2.2.length:Nat)).toNat)).to_).toNat)).Own).x1) (((gd e4.2.1 (((gd e4.2.2 ((w5_2.tmod (e4.2.2.length:Nat)).toNat)).to_).toNat)).Own).x2) (((gd e4.2.1 (((gd e4.2.2 ((w5_2.tmod (e4.2.2.length:Nat)).toNat)).to_).toNat)).Own).x3) (((gd e4.2.1 (((gd e4.2.2 ((w5_2.tmod (e4.2.2.length:Nat)).toNat)).to_).toNat)).Own).x4) (((gd e4.2.1 (((gd e4.2.2 ((w5_2.tmod (e4.2.2.length:Nat)).toNat)).to_).toNat)).Own).x5)) ((gd e4.2.1 (((gd e4.2.2 ((w5_2.tmod (e4.2.2.length:Nat)).toNat)).to_).toNat)).Root) ((gd e4.2.1 (((gd e4.2.2 ((w5_2.tmod (e4.2.2.length:Nat)).toNat)).to_).toNat)).Gate) ((gd e4.2.1 (((gd e4.2.2 ((w5_2.tmod (e4.2.2.length:Nat)).toNat)).to_).toNat)).Seq) ((gd e4.2.1 (((gd e4.2.2 ((w5_2.tmod (e4.2.2.length:Nat)).toNat)).to_).toNat)).Trees) ((gd e4.2.1 (((gd e4.2.2 ((w5_2.tmod (e4.2.2.length:Nat)).toNat)).to_).toNat)).Proxies)) (TRootWord.mk (A6u8.mk ((((gd e4.2.2 ((w5_2.tmod (e4.2.2.length:Nat)).toNat)).w).Root).x0) ((((gd e4.2.2 ((w5_2.tmod (e4.2.2.length:Nat)).toNat)).w).Root).x1) ((((gd e4.2.2 ((w5_2.tmod (e4.2.2.length:Nat)).toNat)).w).Root).x2) ((((gd e4.2.2 ((w5_2.tmod (e4.2.2.length:Nat)).toNat)).w).Root).x3) ((((gd e4.2.2 ((w5_2.tmod (e4.2.2.length:Nat)).toNat)).w).Root).x4) ((((gd e4.2.2 ((w5_2.tmod (e4.2.2.length:Nat)).toNat)).w).Root).x5)) (((gd e4.2.2 ((w5_2.tmod (e4.2.2.length:Nat)).toNat)).w).Seq) (((gd e4.2.2 ((w5_2.tmod (e4.2.2.length:Nat)).toNat)).w).Hops) (((gd e4.2.2 ((w5_2.tmod (e4.2.2.length:Nat)).toNat)).w).Cost) (((gd e4.2.2 ((w5_2.tmod (e4.2.2.length:Nat)).toNat)).w).Gate)) r35 (gd w1 ((((gd e4.2.2 ((w5_2.tmod (e4.2.2.length:Nat)).toNat)).from_).toNat) * 8+(((gd e4.2.2 ((w5_2.tmod (e4.2.2.length:Nat)).toNat)).to_).toNat))) v2_4).bind fun r40=>bif (!bEq r40.2.2 0) then (some (.next (e4.1,e4.2.1,w29,wr .i64 (v2_4+1)))) else (need (inb ((gd e4.2.2 ((w5_2.tmod (e4.2.2.length:Nat)).toNat)).to_) 8) <| need (inb ((gd e4.2.2 ((w5_2.tmod (e4.2.2.length:Nat)).toNat)).to_) e4.2.1.length) <| lp (yP (fun s=>F40_L6 w1 e4.2.2 w5_2 r40 s.1 s.2) (w29,0)) (fun w6_3=>(some (e4.2.1.set (((gd e4.2.2 ((w5_2.tmod (e4.2.2.length:Nat)).toNat)).to_).toNat) r40.1)).bind fun w48=>need (decide (w48.length=8)) <| (F78 (A8TRoots.mk (TRoots.mk (A6u8.mk (((gd w48 0).Own).x0) (((gd w48 0).Own).x1) (((gd w48 0).Own).x2) (((gd w48 0).Own).x3) (((gd w48 0).Own).x4) (((gd w48 0).Own).x5)) ((gd w48 0).Root) ((gd w48 0).Gate) ((gd w48 0).Seq) ((gd w48 0).Trees) ((gd w48 0).Proxies)) (TRoots.mk (A6u8.mk (((gd w48 1).Own).x0) (((gd w48 1).Own).x1) (((gd w48 1).Own).x2) (((gd w48 1).Own).x3) (((gd w48 1).Own).x4) (((gd w48 1).Own).x5)) ((gd w48 1).Root) ((gd w48 1).Gate) ((gd w48 1).Seq) ((gd w48 1).Trees) ((gd w48 1).Proxies)) (TRoots.mk (A6u8.mk (((gd w48 2).Own).x0) (((gd w48 2).Own).x1) (((gd w48 2).Own).x2) (((gd w48 2).Own).x3) (((gd w48 2).Own).x4) (((gd w48 2).Own).x5)) ((gd w48 2).Root) ((gd w48 2).Gate) ((gd w48 2).Seq) ((gd w48 2).Trees) ((gd w48 2).Proxies)) (TRoots.mk (A6u8.mk (((gd w48 3).Own).x0) (((gd w48 3).Own).x1) (((gd w48 3).Own).x2) (((gd w48 3).Own).x3) (((gd w48 3).Own).x4) (((gd w48 3).Own).x5)) ((gd w48 3).Root) ((gd w48 3).Gate) ((gd w48 3).Seq) ((gd w48 3).Trees) ((gd w48 3).Proxies)) (TRoots.mk (A6u8.mk (((gd w48 4).Own).x0) (((gd w48 4).Own).x1) (((gd w48 4).Own).x2) (((gd w48 4).Own).x3) (((gd w48 4).Own).x4) (((gd w48 4).Own).x5)) ((gd w48 4).Root) ((gd w48 4).Gate) ((gd w48 4).Seq) ((gd w48 4).Trees) ((gd w48 4).Proxies)) (TRoots.mk (A6u8.mk (((gd w48 5).Own).x0) (((gd w48 5).Own).x1) (((gd w48 5).Own).x2) (((gd w48 5).Own).x3) (((gd w48 5).Own).x4) (((gd w48 5).Own).x5)) ((gd w48 5).Root) ((gd w48 5).Gate) ((gd w48 5).Seq) ((gd w48 5).Trees) ((gd w48 5).Proxies)) (TRoots.mk (A6u8.mk (((gd w48 6).Own).x0) (((gd w48 6).Own).x1) (((gd w48 6).Own).x2) (((gd w48 6).Own).x3) (((gd w48 6).Own).x4) (((gd w48 6).Own).x5)) ((gd w48 6).Root) ((gd w48 6).Gate) ((gd w48 6).Seq) ((gd w48 6).Trees) ((gd w48 6).Proxies)) (TRoots.mk (A6u8.mk (((gd w48 7).Own).x0) (((gd w48 7).Own).x1) (((gd w48 7).Own).x2) (((gd w48 7).Own).x3) (((gd w48 7).Own).x4) (((gd w48 7).Own).x5)) ((gd w48 7).Root) ((gd w48 7).Gate) ((gd w48 7).Seq) ((gd w48 7).Trees) ((gd w48 7).Proxies)))).bind fun r51=>bif (!r51) then (need (decide (w48.length=8)) <| some (.done (.inr ((A8TRoots.mk (TRoots.mk (A6u8.mk (((gd w48 0).Own).x0) (((gd w48 0).Own).x1) (((gd w48 0).Own).x2) (((gd w48 0).Own).x3) (((gd w48 0).Own).x4) (((gd w48 0).Own).x5)) ((gd w48 0).Root) ((gd w48 0).Gate) ((gd w48 0).Seq) ((gd w48 0).Trees) ((gd w48 0).Proxies)) (TRoots.mk (A6u8.mk (((gd w48 1).Own).x0) (((gd w48 1).Own).x1) (((gd w48 1).Own).x2) (((gd w48 1).Own).x3) (((gd w48 1).Own).x4) (((gd w48 1).Own).x5)) ((gd w48 1).Root) ((gd w48 1).Gate) ((gd w48 1).Seq) ((gd w48 1).Trees) ((gd w48 1).Proxies)) (TRoots.mk (A6u8.mk (((gd w48 2).Own).x0) (((gd w48 2).Own).x1) (((gd w48 2).Own).x2) (((gd w48 2).Own).x3) (((gd w48 2).Own).x4) (((gd w48 2).Own).x5)) ((gd w48 2).Root) ((gd w48 2).Gate) ((gd w48 2).Seq) ((gd w48 2).Trees) ((gd w48 2).Proxies)) (TRoots.mk (A6u8.mk (((gd w48 3).Own).x0) (((gd w48 3).Own).x1) (((gd w48 3).Own).x2) (((gd w48 3).Own).x3) (((gd w48 3).Own).x4) (((gd w48 3).Own).x5)) ((gd w48 3).Root) ((gd w48 3).Gate) ((gd w48 3).Seq) ((gd w48 3).Trees) ((gd w48 3).Proxies)) (TRoots.mk (A6u8.mk (((gd w48 4).Own).x0) (((gd w48 4).Own).x1) (((gd w48 4).Own).x2) (((gd w48 4).Own).x3) (((gd w48 4).Own).x4) (((gd w48 4).Own).x5)) ((gd w48 4).Root) ((gd w48 4).Gate) ((gd w48 4).Seq) ((gd w48 4).Trees) ((gd w48 4).Proxies)) (TRoots.mk (A6u8.mk (((gd w48 5).Own).x0) (((gd w48 5).Own).x1) (((gd w48 5).Own).x2) (((gd w48 5).Own).x3) (((gd w48 5).Own).x4) (((gd w48 5).Own).x5)) ((gd w48 5).Root) ((gd w48 5).Gate) ((gd w48 5).Seq) ((gd w48 5).Trees) ((gd w48 5).Proxies)) (TRoots.mk (A6u8.mk (((gd w48 6).Own).x0) (((gd w48 6).Own).x1) (((gd w48 6).Own).x2) (((gd w48 6).Own).x3) (((gd w48 6).Own).x4) (((gd w48 6).Own).x5)) ((gd w48 6).Root) ((gd w48 6).Gate) ((gd w48 6).Seq) ((gd w48 6).Trees) ((gd w48 6).Proxies)) (TRoots.mk (A6u8.mk (((gd w48 7).Own).x0) (((gd w48 7).Own).x1) (((gd w48 7).Own).x2) (((gd w48 7).Own).x3) (((gd w48 7).Own).x4) (((gd w48 7).Own).x5)) ((gd w48 7).Root) ((gd w48 7).Gate) ((gd w48 7).Seq) ((gd w48 7).Trees) ((gd w48 7).Proxies))),false)))) else (some (.next (e4.1,w48,w6_3,wr .i64 (v2_4+1))))) (fun r=>some (.done (.inr r))))) (fun r=>some (.done (.inr r))))) (fun r=>some (.done (.inr r)))) (fun r=>some (.done (.inr r)))) else (some (.done (.inl v2_2)))
noncomputable def F40 (p0:A8A8i64) (p1:Int) (p2:List Int):Option (A8TRoots × Bool) :=
 (some [p0.x0.x0,p0.x0.x1,p0.x0.x2,p0.x0.x3,p0.x0.x4,p0.x0.x5,p0.x0.x6,p0.x0.x7,p0.x1.x0,p0.x1.x1,p0.x1.x2,p0.x1.x3,p0.x1.x4,p0.x1.x5,p0.x1.x6,p0.x1.x7,p0.x2.x0,p0.x2.x1,p0.x2.x2,p0.x2.x3,p0.x2.x4,p0.x2.x5,p0.x2.x6,p0.x2.x7,p0.x3.x0,p0.x3.x1,p0.x3.x2,p0.x3.x3,p0.x3.x4,p0.x3.x5,p0.x3.x6,p0.x3.x7,p0.x4.x0,p0.x4.x1,p0.x4.x2,p0.x4.x3,p0.x4.x4,p0.x4.x5,p0.x4.x6,p0.x4.x7,p0.x5.x0,p0.x5.x1,p0.x5.x2,p0.x5.x3,p0.x5.x4,p0.x5.x5,p0.x5.x6,p0.x5.x7,p0.x6.x0,p0.x6.x1,p0.x6.x2,p0.x6.x3,p0.x6.x4,p0.x6.x5,p0.x6.x6,p0.x6.x7,p0.x7.x0,p0.x7.x1,p0.x7.x2,p0.x7.x3,p0.x7.x4,p0.x7.x5,p0.x7.x6,p0.x7.x7]).bind fun w1=>(some ([(TRoots.mk (A6u8.mk 0 0 0 0 0 0) false false 0 [] []),(TRoots.mk (A6u8.mk 0 0 0 0 0 0) false false 0 [] []),(TRoots.mk (A6u8.mk 0 0 0 0 0 0) false false 0 [] []),(TRoots.mk (A6u8.mk 0 0 0 0 0 0) false false 0 [] []),(TRoots.mk (A6u8.mk 0 0 0 0 0 0) false false 0 [] []),(TRoots.mk (A6u8.mk 0 0 0 0 0 0) false false 0 [] []),(TRoots.mk (A6u8.mk 0 0 0 0 0 0) false false 0 [] []),(TRoots.mk (A6u8.mk 0 0 0 0 0 0) false false 0 [] [])])).bind fun w3=>lp (yP (fun s=>F40_L1 s.1 s.2) (w3,0)) (fun w1_3=>lp (yP (fun s=>F40_L2 p2 w1 s.1 s.2.1 s.2.2.1 s.2.2.2) (p1,w1_3,[],0)) (fun w2_5=>need (decide (w2_5.length=8)) <| some ((A8TRoots.mk (TRoots.mk (A6u8.mk (((gd w2_5 0).Own).x0) (((gd w2_5 0).Own).x1) (((gd w2_5 0).Own).x2) (((gd w2_5 0).Own).x3) (((gd w2_5 0).Own).x4) (((gd w2_5 0).Own).x5)) ((gd w2_5 0).Root) ((gd w2_5 0).Gate) ((gd w2_5 0).Seq) ((gd w2_5 0).Trees) ((gd w2_5 0).Proxies)) (TRoots.mk (A6u8.mk (((gd w2_5 1).Own).x0) (((gd w2_5 1).Own).x1) (((gd w2_5 1).Own).x2) (((gd w2_5 1).Own).x3) (((gd w2_5 1).Own).x4) (((gd w2_5 1).Own).x5)) ((gd w2_5 1).Root) ((gd w2_5 1).Gate) ((gd w2_5 1).Seq) ((gd w2_5 1).Trees) ((gd w2_5 1).Proxies)) (TRoots.mk (A6u8.mk (((gd w2_5 2).Own).x0) (((gd w2_5 2).Own).x1) (((gd w2_5 2).Own).x2) (((gd w2_5 2).Own).x3) (((gd w2_5 2).Own).x4) (((gd w2_5 2).Own).x5)) ((gd w2_5 2).Root) ((gd w2_5 2).Gate) ((gd w2_5 2).Seq) ((gd w2_5 2).Trees) ((gd w2_5 2).Proxies)) (TRoots.mk (A6u8.mk (((gd w2_5 3).Own).x0) (((gd w2_5 3).Own).x1) (((gd w2_5 3).Own).x2) (((gd w2_5 3).Own).x3) (((gd w2_5 3).Own).x4) (((gd w2_5 3).Own).x5)) ((gd w2_5 3).Root) ((gd w2_5 3).Gate) ((gd w2_5 3).Seq) ((gd w2_5 3).Trees) ((gd w2_5 3).Proxies)) (TRoots.mk (A6u8.mk (((gd w2_5 4).Own).x0) (((gd w2_5 4).Own).x1) (((gd w2_5 4).Own).x2) (((gd w2_5 4).Own).x3) (((gd w2_5 4).Own).x4) (((gd w2_5 4).Own).x5)) ((gd w2_5 4).Root) ((gd w2_5 4).Gate) ((gd w2_5 4).Seq) ((gd w2_5 4).Trees) ((gd w2_5 4).Proxies)) (TRoots.mk (A6u8.mk (((gd w2_5 5).Own).x0) (((gd w2_5 5).Own).x1) (((gd w2_5 5).Own).x2) (((gd w2_5 5).Own).x3) (((gd w2_5 5).Own).x4) (((gd w2_5 5).Own).x5)) ((gd w2_5 5).Root) ((gd w2_5 5).Gate) ((gd w2_5 5).Seq) ((gd w2_5 5).Trees) ((gd w2_5 5).Proxies)) (TRoots.mk (A6u8.mk (((gd w2_5 6).Own).x0) (((gd w2_5 6).Own).x1) (((gd w2_5 6).Own).x2) (((gd w2_5 6).Own).x3) (((gd w2_5 6).Own).x4) (((gd w2_5 6).Own).x5)) ((gd w2_5 6).Root) ((gd w2_5 6).Gate) ((gd w2_5 6).Seq) ((gd w2_5 6).Trees) ((gd w2_5 6).Proxies)) (TRoots.mk (A6u8.mk (((gd w2_5 7).Own).x0) (((gd w2_5 7).Own).x1) (((gd w2_5 7).Own).x2) (((gd w2_5 7).Own).x3) (((gd w2_5 7).Own).x4) (((gd w2_5 7).Own).x5)) ((gd w2_5 7).Root) ((gd w2_5 7).Gate) ((gd w2_5 7).Seq) ((gd w2_5 7).Trees) ((gd w2_5 7).Proxies))),false)) some) some
noncomputable def cE:List AV->Nat->AR
 | [v0,v1,v2],_=>.pure (aK 64 vC v0/\iK .i64 v1/\lK dV 1 v2/\(F40 (g_A8A8i64 (aL v0)) (iA v1) (lA g_i64 v2)).isSome=true) (.tup [.agg (.int .u8 (((((gt (F40 (g_A8A8i64 (aL v0)) (iA v1) (lA g_i64 v2))).1).x0).Own).x0)::.int .u8 (((((gt (F40 (g_A8A8i64 (aL v0)) (iA v1) (lA g_i64 v2))).1).x0).Own).x1)::.int .u8 (((((gt (F40 (g_A8A8i64 (aL v0)) (iA v1) (lA g_i64 v2))).1).x0).Own).x2)::.int .u8 (((((gt (F40 (g_A8A8i64 (aL v0)) (iA v1) (lA g_i64 v2))).1).x0).Own).x3)::.int .u8 (((((gt (F40 (g_A8A8i64 (aL v0)) (iA v1) (lA g_i64 v2))).1).x0).Own).x4)::.int .u8 (((((gt (F40 (g_A8A8i64 (aL v0)) (iA v1) (lA g_i64 v2))).1).x0).Own).x5)::.bool ((((gt (F40 (g_A8A8i64 (aL v0)) (iA v1) (lA g_i64 v2))).1).x0).Root)::.bool ((((gt (F40 (g_A8A8i64 (aL v0)) (iA v1) (lA g_i64 v2))).1).x0).Gate)::.int .i64 ((((gt (F40 (g_A8A8i64 (aL v0)) (iA v1) (lA g_i64 v2))).1).x0).Seq)::.ro 17 (((((gt (F40 (g_A8A8i64 (aL v0)) (iA v1) (lA g_i64 v2))).1).x0).Trees).length) false (enR zH ((((gt (F40 (g_A8A8i64 (aL v0)) (iA v1) (lA g_i64 v2))).1).x0).Trees))::.ro 13 (((((gt (F40 (g_A8A8i64 (aL v0)) (iA v1) (lA g_i64 v2))).1).x0).Proxies).length) false (enR zC ((((gt (F40 (g_A8A8i64 (aL v0)) (iA v1) (lA g_i64 v2))).1).x0).Proxies))::.int .u8 (((((gt (F40 (g_A8A8i64 (aL v0)) (iA v1) (lA g_i64 v2))).1).x1).Own).x0)::.int .u8 (((((gt (F40 (g_A8A8i64 (aL v0)) (iA v1) (lA g_i64 v2))).1).x1).Own).x1)::.int .u8 (((((gt (F40 (g_A8A8i64 (aL v0)) (iA v1) (lA g_i64 v2))).1).x1).Own).x2)::.int .u8 (((((gt (F40 (g_A8A8i64 (aL v0)) (iA v1) (lA g_i64 v2))).1).x1).Own).x3)::.int .u8 (((((gt (F40 (g_A8A8i64 (aL v0)) (iA v1) (lA g_i64 v2))).1).x1).Own).x4)::.int .u8 (((((gt (F40 (g_A8A8i64 (aL v0)) (iA v1) (lA g_i64 v2))).1).x1).Own).x5)::.bool ((((gt (F40 (g_A8A8i64 (aL v0)) (iA v1) (lA g_i64 v2))).1).x1).Root)::.bool ((((gt (F40 (g_A8A8i64 (aL v0)) (iA v1) (lA g_i64 v2))).1).x1).Gate)::.int .i64 ((((gt (F40 (g_A8A8i64 (aL v0)) (iA v1) (lA g_i64 v2))).1).x1).Seq)::.ro 17 (((((gt (F40 (g_A8A8i64 (aL v0)) (iA v1) (lA g_i64 v2))).1).x1).Trees).length) false (enR zH ((((gt (F40 (g_A8A8i64 (aL v0)) (iA v1) (lA g_i64 v2))).1).x1).Trees))::.ro 13 (((((gt (F40 (g_A8A8i64 (aL v0)) (iA v1) (lA g_i64 v2))).1).x1).Proxies).length) false (enR zC ((((gt (F40 (g_A8A8i64 (aL v0)) (iA v1) (lA g_i64 v2))).1).x1).Proxies))::.int .u8 (((((gt (F40 (g_A8A8i64 (aL v0)) (iA v1) (lA g_i64 v2))).1).x2).Own).x0)::.int .u8 (((((gt (F40 (g_A8A8i64 (aL v0)) (iA v1) (lA g_i64 v2))).1).x2).Own).x1)::.int .u8 (((((gt (F40 (g_A8A8i64 (aL v0)) (iA v1) (lA g_i64 v2))).1).x2).Own).x2)::.int .u8 (((((gt (F40 (g_A8A8i64 (aL v0)) (iA v1) (lA g_i64 v2))).1).x2).Own).x3)::.int .u8 (((((gt (F40 (g_A8A8i64 (aL v0)) (iA v1) (lA g_i64 v2))).1).x2).Own).x4)::.int .u8 (((((gt (F40 (g_A8A8i64 (aL v0)) (iA v1) (lA g_i64 v2))).1).x2).Own).x5)::.bool ((((gt (F40 (g_A8A8i64 (aL v0)) (iA v1) (lA g_i64 v2))).1).x2).Root)::.bool ((((gt (F40 (g_A8A8i64 (aL v0)) (iA v1) (lA g_i64 v2))).1).x2).Gate)::.int .i64 ((((gt (F40 (g_A8A8i64 (aL v0)) (iA v1) (lA g_i64 v2))).1).x2).Seq)::.ro 17 (((((gt (F40 (g_A8A8i64 (aL v0)) (iA v1) (lA g_i64 v2))).1).x2).Trees).length) false (enR zH ((((gt (F40 (g_A8A8i64 (aL v0)) (iA v1) (lA g_i64 v2))).1).x2).Trees))::.ro 13 (((((gt (F40 (g_A8A8i64 (aL v0)) (iA v1) (lA g_i64 v2))).1).x2).Proxies).length) false (enR zC ((((gt (F40 (g_A8A8i64 (aL v0)) (iA v1) (lA g_i64 v2))).1).x2).Proxies))::.int .u8 (((((gt (F40 (g_A8A8i64 (aL v0)) (iA v1) (lA g_i64 v2))).1).x3).Own).x0)::.int .u8 (((((gt (F40 (g_A8A8i64 (aL v0)) (iA v1) (lA g_i64 v2))).1).x3).Own).x1)::.int .u8 (((((gt (F40 (g_A8A8i64 (aL v0)) (iA v1) (lA g_i64 v2))).1).x3).Own).x2)::.int .u8 (((((gt (F40 (g_A8A8i64 (aL v0)) (iA v1) (lA g_i64 v2))).1).x3).Own).x3)::.int .u8 (((((gt (F40 (g_A8A8i64 (aL v0)) (iA v1) (lA g_i64 v2))).1).x3).Own).x4)::.int .u8 (((((gt (F40 (g_A8A8i64 (aL v0)) (iA v1) (lA g_i64 v2))).1).x3).Own).x5)::.bool ((((gt (F40 (g_A8A8i64 (aL v0)) (iA v1) (lA g_i64 v2))).1).x3).Root)::.bool ((((gt (F40 (g_A8A8i64 (aL v0)) (iA v1) (lA g_i64 v2))).1).x3).Gate)::.int .i64 ((((gt (F40 (g_A8A8i64 (aL v0)) (iA v1) (lA g_i64 v2))).1).x3).Seq)::.ro 17 (((((gt (F40 (g_A8A8i64 (aL v0)) (iA v1) (lA g_i64 v2))).1).x3).Trees).length) false (enR zH ((((gt (F40 (g_A8A8i64 (aL v0)) (iA v1) (lA g_i64 v2))).1).x3).Trees))::.ro 13 (((((gt (F40 (g_A8A8i64 (aL v0)) (iA v1) (lA g_i64 v2))).1).x3).Proxies).length) false (enR zC ((((gt (F40 (g_A8A8i64 (aL v0)) (iA v1) (lA g_i64 v2))).1).x3).Proxies))::.int .u8 (((((gt (F40 (g_A8A8i64 (aL v0)) (iA v1) (lA g_i64 v2))).1).x4).Own).x0)::.int .u8 (((((gt (F40 (g_A8A8i64 (aL v0)) (iA v1) (lA g_i64 v2))).1).x4).Own).x1)::.int .u8 (((((gt (F40 (g_A8A8i64 (aL v0)) (iA v1) (lA g_i64 v2))).1).x4).Own).x2)::.int .u8 (((((gt (F40 (g_A8A8i64 (aL v0)) (iA v1) (lA g_i64 v2))).1).x4).Own).x3)::.int .u8 (((((gt (F40 (g_A8A8i64 (aL v0)) (iA v1) (lA g_i64 v2))).1).x4).Own).x4)::.int .u8 (((((gt (F40 (g_A8A8i64 (aL v0)) (iA v1) (lA g_i64 v2))).1).x4).Own).x5)::.bool ((((gt (F40 (g_A8A8i64 (aL v0)) (iA v1) (lA g_i64 v2))).1).x4).Root)::.bool ((((gt (F40 (g_A8A8i64 (aL v0)) (iA v1) (lA g_i64 v2))).1).x4).Gate)::.int .i64 ((((gt (F40 (g_A8A8i64 (aL v0)) (iA v1) (lA g_i64 v2))).1).x4).Seq)::.ro 17 (((((gt (F40 (g_A8A8i64 (aL v0)) (iA v1) (lA g_i64 v2))).1).x4).Trees).length) false (enR zH ((((gt (F40 (g_A8A8i64 (aL v0)) (iA v1) (lA g_i64 v2))).1).x4).Trees))::.ro 13 (((((gt (F40 (g_A8A8i64 (aL v0)) (iA v1) (lA g_i64 v2))).1).x4).Proxies).length) false (enR zC ((((gt (F40 (g_A8A8i64 (aL v0)) (iA v1) (lA g_i64 v2))).1).x4).Proxies))::.int .u8 (((((gt (F40 (g_A8A8i64 (aL v0)) (iA v1) (lA g_i64 v2))).1).x5).Own).x0)::.int .u8 (((((gt (F40 (g_A8A8i64 (aL v0)) (iA v1) (lA g_i64 v2))).1).x5).Own).x1)::.int .u8 (((((gt (F40 (g_A8A8i64 (aL v0)) (iA v1) (lA g_i64 v2))).1).x5).Own).x2)::.int .u8 (((((gt (F40 (g_A8A8i64 (aL v0)) (iA v1) (lA g_i64 v2))).1).x5).Own).x3)::.int .u8 (((((gt (F40 (g_A8A8i64 (aL v0)) (iA v1) (lA g_i64 v2))).1).x5).Own).x4)::.int .u8 (((((gt (F40 (g_A8A8i64 (aL v0)) (iA v1) (lA g_i64 v2))).1).x5).Own).x5)::.bool ((((gt (F40 (g_A8A8i64 (aL v0)) (iA v1) (lA g_i64 v2))).1).x5).Root)::.bool ((((gt (F40 (g_A8A8i64 (aL v0)) (iA v1) (lA g_i64 v2))).1).x5).Gate)::.int .i64 ((((gt (F40 (g_A8A8i64 (aL v0)) (iA v1) (lA g_i64 v2))).1).x5).Seq)::.ro 17 (((((gt (F40 (g_A8A8i64 (aL v0)) (iA v1) (lA g_i64 v2))).1).x5).Trees).length) false (enR zH ((((gt (F40 (g_A8A8i64 (aL v0)) (iA v1) (lA g_i64 v2))).1).x5).Trees))::.ro 13 (((((gt (F40 (g_A8A8i64 (aL v0)) (iA v1) (lA g_i64 v2))).1).x5).Proxies).length) false (enR zC ((((gt (F40 (g_A8A8i64 (aL v0)) (iA v1) (lA g_i64 v2))).1).x5).Proxies))::.int .u8 (((((gt (F40 (g_A8A8i64 (aL v0)) (iA v1) (lA g_i64 v2))).1).x6).Own).x0)::.int .u8 (((((gt (F40 (g_A8A8i64 (aL v0)) (iA v1) (lA g_i64 v2))).1).x6).Own).x1)::.int .u8 (((((gt (F40 (g_A8A8i64 (aL v0)) (iA v1) (lA g_i64 v2))).1).x6).Own).x2)::.int .u8 (((((gt (F40 (g_A8A8i64 (aL v0)) (iA v1) (lA g_i64 v2))).1).x6).Own).x3)::.int .u8 (((((gt (F40 (g_A8A8i64 (aL v0)) (iA v1) (lA g_i64 v2))).1).x6).Own).x4)::.int .u8 (((((gt (F40 (g_A8A8i64 (aL v0)) (iA v1) (lA g_i64 v2))).1).x6).Own).x5)::.bool ((((gt (F40 (g_A8A8i64 (aL v0)) (iA v1) (lA g_i64 v2))).1).x6).Root)::.bool ((((gt (F40 (g_A8A8i64 (aL v0)) (iA v1) (lA g_i64 v2))).1).x6).Gate)::.int .i64 ((((gt (F40 (g_A8A8i64 (aL v0)) (iA v1) (lA g_i64 v2))).1).x6).Seq)::.ro 17 (((((gt (F40 (g_A8A8i64 (aL v0)) (iA v1) (lA g_i64 v2))).1).x6).Trees).length) false (enR zH ((((gt (F40 (g_A8A8i64 (aL v0)) (iA v1) (lA g_i64 v2))).1).x6).Trees))::.ro 13 (((((gt (F40 (g_A8A8i64 (aL v0)) (iA v1) (lA g_i64 v2))).1).x6).Proxies).length) false (enR zC ((((gt (F40 (g_A8A8i64 (aL v0)) (iA v1) (lA g_i64 v2))).1).x6).Proxies))::.int .u8 (((((gt (F40 (g_A8A8i64 (aL v0)) (iA v1) (lA g_i64 v2))).1).x7).Own).x0)::.int .u8 (((((gt (F40 (g_A8A8i64 (aL v0)) (iA v1) (lA g_i64 v2))).1).x7).Own).x1)::.int .u8 (((((gt (F40 (g_A8A8i64 (aL v0)) (iA v1) (lA g_i64 v2))).1).x7).Own).x2)::.int .u8 (((((gt (F40 (g_A8A8i64 (aL v0)) (iA v1) (lA g_i64 v2))).1).x7).Own).x3)::.int .u8 (((((gt (F40 (g_A8A8i64 (aL v0)) (iA v1) (lA g_i64 v2))).1).x7).Own).x4)::.int .u8 (((((gt (F40 (g_A8A8i64 (aL v0)) (iA v1) (lA g_i64 v2))).1).x7).Own).x5)::.bool ((((gt (F40 (g_A8A8i64 (aL v0)) (iA v1) (lA g_i64 v2))).1).x7).Root)::.bool ((((gt (F40 (g_A8A8i64 (aL v0)) (iA v1) (lA g_i64 v2))).1).x7).Gate)::.int .i64 ((((gt (F40 (g_A8A8i64 (aL v0)) (iA v1) (lA g_i64 v2))).1).x7).Seq)::.ro 17 (((((gt (F40 (g_A8A8i64 (aL v0)) (iA v1) (lA g_i64 v2))).1).x7).Trees).length) false (enR zH ((((gt (F40 (g_A8A8i64 (aL v0)) (iA v1) (lA g_i64 v2))).1).x7).Trees))::.ro 13 (((((gt (F40 (g_A8A8i64 (aL v0)) (iA v1) (lA g_i64 v2))).1).x7).Proxies).length) false (enR zC ((((gt (F40 (g_A8A8i64 (aL v0)) (iA v1) (lA g_i64 v2))).1).x7).Proxies))::[]),.bool ((gt (F40 (g_A8A8i64 (aL v0)) (iA v1) (lA g_i64 v2))).2)])
 | _,_=>.fail
theorem ok40:wS Try.prog 40 (genC cE):=by
 refine gen_fn cE (rs:=[.cell 6 84,.tmp 7]) Try.func40 (by kernel_rfl) rfl rfl ?_
 intro l s ob v ns hb hob
 rcases hb with ⟨hb,rfl⟩|hb
 ·unfold cE at hb
  split at hb
  ·rename_i v0 v1 v2
   injection hb with q1 q2;subst q1 q2
   obtain ⟨hk0_0,hk1_0,hk2_0,hob⟩:=hob
   obtain ⟨r,H⟩:=oE.1 hob
   rw [H,zU]
   have hw0:=jQ hk0_0
   have hw1:=zK hk1_0
   have hw2:=vN (fun r h=>w_i64 h) hk2_0
   generalize g_A8A8i64 (aL v0)=p0 at H hw0
   generalize iA v1=p1 at H hw1
   generalize lA g_i64 v2=p2 at H hw2
   refine ⟨[.agg (.int .i64 p0.x0.x0::.int .i64 p0.x0.x1::.int .i64 p0.x0.x2::.int .i64 p0.x0.x3::.int .i64 p0.x0.x4::.int .i64 p0.x0.x5::.int .i64 p0.x0.x6::.int .i64 p0.x0.x7::.int .i64 p0.x1.x0::.int .i64 p0.x1.x1::.int .i64 p0.x1.x2::.int .i64 p0.x1.x3::.int .i64 p0.x1.x4::.int .i64 p0.x1.x5::.int .i64 p0.x1.x6::.int .i64 p0.x1.x7::.int .i64 p0.x2.x0::.int .i64 p0.x2.x1::.int .i64 p0.x2.x2::.int .i64 p0.x2.x3::.int .i64 p0.x2.x4::.int .i64 p0.x2.x5::.int .i64 p0.x2.x6::.int .i64 p0.x2.x7::.int .i64 p0.x3.x0::.int .i64 p0.x3.x1::.int .i64 p0.x3.x2::.int .i64 p0.x3.x3::.int .i64 p0.x3.x4::.int .i64 p0.x3.x5::.int .i64 p0.x3.x6::.int .i64 p0.x3.x7::.int .i64 p0.x4.x0::.int .i64 p0.x4.x1::.int .i64 p0.x4.x2::.int .i64 p0.x4.x3::.int .i64 p0.x4.x4::.int .i64 p0.x4.x5::.int .i64 p0.x4.x6::.int .i64 p0.x4.x7::.int .i64 p0.x5.x0::.int .i64 p0.x5.x1::.int .i64 p0.x5.x2::.int .i64 p0.x5.x3::.int .i64 p0.x5.x4::.int .i64 p0.x5.x5::.int .i64 p0.x5.x6::.int .i64 p0.x5.x7::.int .i64 p0.x6.x0::.int .i64 p0.x6.x1::.int .i64 p0.x6.x2::.int .i64 p0.x6.x3::.int .i64 p0.x6.x4::.int .i64 p0.x6.x5::.int .i64 p0.x6.x6::.int .i64 p0.x6.x7::.int .i64 p0.x7.x0::.int .i64 p0.x7.x1::.int .i64 p0.x7.x2::.int .i64 p0.x7.x3::.int .i64 p0.x7.x4::.int .i64 p0.x7.x5::.int .i64 p0.x7.x6::.int .i64 p0.x7.x7::[]),.int .i64 p1,.ro 1 p2.length false (enR c_i64 p2)],.tup [.agg (.int .u8 r.1.x0.Own.x0::.int .u8 r.1.x0.Own.x1::.int .u8 r.1.x0.Own.x2::.int .u8 r.1.x0.Own.x3::.int .u8 r.1.x0.Own.x4::.int .u8 r.1.x0.Own.x5::.bool r.1.x0.Root::.bool r.1.x0.Gate::.int .i64 r.1.x0.Seq::.ro 17 r.1.x0.Trees.length false (enR zH r.1.x0.Trees)::.ro 13 r.1.x0.Proxies.length false (enR zC r.1.x0.Proxies)::.int .u8 r.1.x1.Own.x0::.int .u8 r.1.x1.Own.x1::.int .u8 r.1.x1.Own.x2::.int .u8 r.1.x1.Own.x3::.int .u8 r.1.x1.Own.x4::.int .u8 r.1.x1.Own.x5::.bool r.1.x1.Root::.bool r.1.x1.Gate::.int .i64 r.1.x1.Seq::.ro 17 r.1.x1.Trees.length false (enR zH r.1.x1.Trees)::.ro 13 r.1.x1.Proxies.length false (enR zC r.1.x1.Proxies)::.int .u8 r.1.x2.Own.x0::.int .u8 r.1.x2.Own.x1::.int .u8 r.1.x2.Own.x2::.int .u8 r.1.x2.Own.x3::.int .u8 r.1.x2.Own.x4::.int .u8 r.1.x2.Own.x5::.bool r.1.x2.Root::.bool r.1.x2.Gate::.int .i64 r.1.x2.Seq::.ro 17 r.1.x2.Trees.length false (enR zH r.1.x2.Trees)::.ro 13 r.1.x2.Proxies.length false (enR zC r.1.x2.Proxies)::.int .u8 r.1.x3.Own.x0::.int .u8 r.1.x3.Own.x1::.int .u8 r.1.x3.Own.x2::.int .u8 r.1.x3.Own.x3::.int .u8 r.1.x3.Own.x4::.int .u8 r.1.x3.Own.x5::.bool r.1.x3.Root::.bool r.1.x3.Gate::.int .i64 r.1.x3.Seq::.ro 17 r.1.x3.Trees.length false (enR zH r.1.x3.Trees)::.ro 13 r.1.x3.Proxies.length false (enR zC r.1.x3.Proxies)::.int .u8 r.1.x4.Own.x0::.int .u8 r.1.x4.Own.x1::.int .u8 r.1.x4.Own.x2::.int .u8 r.1.x4.Own.x3::.int .u8 r.1.x4.Own.x4::.int .u8 r.1.x4.Own.x5::.bool r.1.x4.Root::.bool r.1.x4.Gate::.int .i64 r.1.x4.Seq::.ro 17 r.1.x4.Trees.length false (enR zH r.1.x4.Trees)::.ro 13 r.1.x4.Proxies.length false (enR zC r.1.x4.Proxies)::.int .u8 r.1.x5.Own.x0::.int .u8 r.1.x5.Own.x1::.int .u8 r.1.x5.Own.x2::.int .u8 r.1.x5.Own.x3::.int .u8 r.1.x5.Own.x4::.int .u8 r.1.x5.Own.x5::.bool r.1.x5.Root::.bool r.1.x5.Gate::.int .i64 r.1.x5.Seq::.ro 17 r.1.x5.Trees.length false (enR zH r.1.x5.Trees)::.ro 13 r.1.x5.Proxies.length false (enR zC r.1.x5.Proxies)::.int .u8 r.1.x6.Own.x0::.int .u8 r.1.x6.Own.x1::.int .u8 r.1.x6.Own.x2::.int .u8 r.1.x6.Own.x3::.int .u8 r.1.x6.Own.x4::.int .u8 r.1.x6.Own.x5::.bool r.1.x6.Root::.bool r.1.x6.Gate::.int .i64 r.1.x6.Seq::.ro 17 r.1.x6.Trees.length false (enR zH r.1.x6.Trees)::.ro 13 r.1.x6.Proxies.length false (enR zC r.1.x6.Proxies)::.int .u8 r.1.x7.Own.x0::.int .u8 r.1.x7.Own.x1::.int .u8 r.1.x7.Own.x2::.int .u8 r.1.x7.Own.x3::.int .u8 r.1.x7.Own.x4::.int .u8 r.1.x7.Own.x5::.bool r.1.x7.Root::.bool r.1.x7.Gate::.int .i64 r.1.x7.Seq::.ro 17 r.1.x7.Trees.length false (enR zH r.1.x7.Trees)::.ro 13 r.1.x7.Proxies.length false (enR zC r.1.x7.Proxies)::[]),.bool r.2],[],(fun E vs F=>yU hw0.1 F (fun vs F=>yU hw1.1 F (fun vs F=>yU hw2.1 F (fun vs F=>F)))),by simp only [ren,jO],trivial,?_⟩
   rw [Try.ntmps40]
   simp only [lC,lN,Nat.reduceAdd,Nat.reduceSub,rS,rZ,aC,aN]
   unfold F40 at H
   try dsimp only at H
   refine zW ?_
   refine jT ?_
   refine wP zR zB 0 ?_
   simp only [zY,tZ,dZ,go_sem]
   refine dA zR zB (len:=64) (z:=1) rfl rfl rfl rfl (by first|exact trivial|(simp only [go_sem,Nat.reduceLeDiff,Nat.reduceLT,Nat.reduceAdd,Nat.reduceMul,Nat.reduceSub,Nat.reduceEqDiff,Nat.reduceBEq,Int.reduceToNat,reduceCtorEq];done)|simp [og]) rfl ?_
   simp only [go_sem]
   refine wP zR zB 2 ?_
   simp only [zY,tS,tZ,dS,dZ,go_sem]
   refine jD ?_
   refine zW ?_
   obtain ⟨w1,hw2,H⟩:=bsj H
   have lhw2:w1.length=64:=by rw [← hw2];exact (by first|rfl|simp)
   refine vD (t2:=(.top::.int .i64 p1::.ro 1 p2.length false (enR c_i64 p2)::.ptr 0 1 0 0::.top::.top::.ptr 1 0 0 0::tp 142 [])) (h2:=[.row 81 1 w1.length (enR c_i64 w1),.lit 84 (.int .u8 0::.int .u8 0::.int .u8 0::.int .u8 0::.int .u8 0::.int .u8 0::.bool false::.bool false::.int .i64 0::.ro 0 0 true (fun _ _=>.top)::.ro 0 0 true (fun _ _=>.top)::.int .u8 0::.int .u8 0::.int .u8 0::.int .u8 0::.int .u8 0::.int .u8 0::.bool false::.bool false::.int .i64 0::.ro 0 0 true (fun _ _=>.top)::.ro 0 0 true (fun _ _=>.top)::.int .u8 0::.int .u8 0::.int .u8 0::.int .u8 0::.int .u8 0::.int .u8 0::.bool false::.bool false::.int .i64 0::.ro 0 0 true (fun _ _=>.top)::.ro 0 0 true (fun _ _=>.top)::.int .u8 0::.int .u8 0::.int .u8 0::.int .u8 0::.int .u8 0::.int .u8 0::.bool false::.bool false::.int .i64 0::.ro 0 0 true (fun _ _=>.top)::.ro 0 0 true (fun _ _=>.top)::.int .u8 0::.int .u8 0::.int .u8 0::.int .u8 0::.int .u8 0::.int .u8 0::.bool false::.bool false::.int .i64 0::.ro 0 0 true (fun _ _=>.top)::.ro 0 0 true (fun _ _=>.top)::.int .u8 0::.int .u8 0::.int .u8 0::.int .u8 0::.int .u8 0::.int .u8 0::.bool false::.bool false::.int .i64 0::.ro 0 0 true (fun _ _=>.top)::.ro 0 0 true (fun _ _=>.top)::.int .u8 0::.int .u8 0::.int .u8 0::.int .u8 0::.int .u8 0::.int .u8 0::.bool false::.bool false::.int .i64 0::.ro 0 0 true (fun _ _=>.top)::.ro 0 0 true (fun _ _=>.top)::.int .u8 0::.int .u8 0::.int .u8 0::.int .u8 0::.int .u8 0::.int .u8 0::.bool false::.bool false::.int .i64 0::.ro 0 0 true (fun _ _=>.top)::.ro 0 0 true (fun _ _=>.top)::[])]) ?_ ?_
   ·refine zN ⟨[some 0,some 1],?_,?_,by rfl,by rfl⟩
    ·simp [CvL,Cv,yE,tp]
    ·exact ⟨zO xN lhw2 (hw2 ▸ (vP (f:=c_i64) [p0.x0.x0,p0.x0.x1,p0.x0.x2,p0.x0.x3,p0.x0.x4,p0.x0.x5,p0.x0.x6,p0.x0.x7,p0.x1.x0,p0.x1.x1,p0.x1.x2,p0.x1.x3,p0.x1.x4,p0.x1.x5,p0.x1.x6,p0.x1.x7,p0.x2.x0,p0.x2.x1,p0.x2.x2,p0.x2.x3,p0.x2.x4,p0.x2.x5,p0.x2.x6,p0.x2.x7,p0.x3.x0,p0.x3.x1,p0.x3.x2,p0.x3.x3,p0.x3.x4,p0.x3.x5,p0.x3.x6,p0.x3.x7,p0.x4.x0,p0.x4.x1,p0.x4.x2,p0.x4.x3,p0.x4.x4,p0.x4.x5,p0.x4.x6,p0.x4.x7,p0.x5.x0,p0.x5.x1,p0.x5.x2,p0.x5.x3,p0.x5.x4,p0.x5.x5,p0.x5.x6,p0.x5.x7,p0.x6.x0,p0.x6.x1,p0.x6.x2,p0.x6.x3,p0.x6.x4,p0.x6.x5,p0.x6.x6,p0.x6.x7,p0.x7.x0,p0.x7.x1,p0.x7.x2,p0.x7.x3,p0.x7.x4,p0.x7.x5,p0.x7.x6,p0.x7.x7] (fun _ _=>rfl) rfl)),(by simp [CvB,CvL,Cv,tC,geth]),trivial⟩
   simp only [tp]
   refine jT ?_
   refine wP zR zB 0 ?_
   simp only [zY,tZ,dZ,go_sem]
   refine allocO zR zB (len:=8) (z:=11) (l:=(.int .u8 0::.int .u8 0::.int .u8 0::.int .u8 0::.int .u8 0::.int .u8 0::.bool false::.bool false::.int .i64 0::.ro 0 0 true (fun _ _=>.top)::.ro 0 0 true (fun _ _=>.top)::.int .u8 0::.int .u8 0::.int .u8 0::.int .u8 0::.int .u8 0::.int .u8 0::.bool false::.bool false::.int .i64 0::.ro 0 0 true (fun _ _=>.top)::.ro 0 0 true (fun _ _=>.top)::.int .u8 0::.int .u8 0::.int .u8 0::.int .u8 0::.int .u8 0::.int .u8 0::.bool false::.bool false::.int .i64 0::.ro 0 0 true (fun _ _=>.top)::.ro 0 0 true (fun _ _=>.top)::.int .u8 0::.int .u8 0::.int .u8 0::.int .u8 0::.int .u8 0::.int .u8 0::.bool false::.bool false::.int .i64 0::.ro 0 0 true (fun _ _=>.top)::.ro 0 0 true (fun _ _=>.top)::.int .u8 0::.int .u8 0::.int .u8 0::.int .u8 0::.int .u8 0::.int .u8 0::.bool false::.bool false::.int .i64 0::.ro 0 0 true (fun _ _=>.top)::.ro 0 0 true (fun _ _=>.top)::.int .u8 0::.int .u8 0::.int .u8 0::.int .u8 0::.int .u8 0::.int .u8 0::.bool false::.bool false::.int .i64 0::.ro 0 0 true (fun _ _=>.top)::.ro 0 0 true (fun _ _=>.top)::.int .u8 0::.int .u8 0::.int .u8 0::.int .u8 0::.int .u8 0::.int .u8 0::.bool false::.bool false::.int .i64 0::.ro 0 0 true (fun _ _=>.top)::.ro 0 0 true (fun _ _=>.top)::.int .u8 0::.int .u8 0::.int .u8 0::.int .u8 0::.int .u8 0::.int .u8 0::.bool false::.bool false::.int .i64 0::.ro 0 0 true (fun _ _=>.top)::.ro 0 0 true (fun _ _=>.top)::[])) (c:=qS 11 (.int .u8 0::.int .u8 0::.int .u8 0::.int .u8 0::.int .u8 0::.int .u8 0::.bool false::.bool false::.int .i64 0::.ro 0 0 true (fun _ _=>.top)::.ro 0 0 true (fun _ _=>.top)::.int .u8 0::.int .u8 0::.int .u8 0::.int .u8 0::.int .u8 0::.int .u8 0::.bool false::.bool false::.int .i64 0::.ro 0 0 true (fun _ _=>.top)::.ro 0 0 true (fun _ _=>.top)::.int .u8 0::.int .u8 0::.int .u8 0::.int .u8 0::.int .u8 0::.int .u8 0::.bool false::.bool false::.int .i64 0::.ro 0 0 true (fun _ _=>.top)::.ro 0 0 true (fun _ _=>.top)::.int .u8 0::.int .u8 0::.int .u8 0::.int .u8 0::.int .u8 0::.int .u8 0::.bool false::.bool false::.int .i64 0::.ro 0 0 true (fun _ _=>.top)::.ro 0 0 true (fun _ _=>.top)::.int .u8 0::.int .u8 0::.int .u8 0::.int .u8 0::.int .u8 0::.int .u8 0::.bool false::.bool false::.int .i64 0::.ro 0 0 true (fun _ _=>.top)::.ro 0 0 true (fun _ _=>.top)::.int .u8 0::.int .u8 0::.int .u8 0::.int .u8 0::.int .u8 0::.int .u8 0::.bool false::.bool false::.int .i64 0::.ro 0 0 true (fun _ _=>.top)::.ro 0 0 true (fun _ _=>.top)::.int .u8 0::.int .u8 0::.int .u8 0::.int .u8 0::.int .u8 0::.int .u8 0::.bool false::.bool false::.int .i64 0::.ro 0 0 true (fun _ _=>.top)::.ro 0 0 true (fun _ _=>.top)::.int .u8 0::.int .u8 0::.int .u8 0::.int .u8 0::.int .u8 0::.int .u8 0::.bool false::.bool false::.int .i64 0::.ro 0 0 true (fun _ _=>.top)::.ro 0 0 true (fun _ _=>.top)::[])) rfl rfl rfl (by kernel_rfl) rfl (fun _ _ _ _=>rfl) ?_
   simp only [go_sem,Nat.reduceAdd]
   refine wP zR zB 0 ?_
   simp only [zY,tZ,dZ,go_sem]
   refine jD ?_
   refine zW ?_
   refine zW ?_
   obtain ⟨w3,hw4,H⟩:=bsj H
   have lhw4:w3.length=8:=by rw [← hw4];exact (by first|rfl|simp)
   refine vD (t2:=(.top::.int .i64 p1::.ro 1 p2.length false (enR c_i64 p2)::.ptr 0 1 0 0::.top::.top::.ptr 1 0 0 0::.top::.ptr 2 11 0 0::tp 140 [])) (h2:=[.row 81 1 w1.length (enR c_i64 w1),.lit 84 (.int .u8 0::.int .u8 0::.int .u8 0::.int .u8 0::.int .u8 0::.int .u8 0::.bool false::.bool false::.int .i64 0::.ro 0 0 true (fun _ _=>.top)::.ro 0 0 true (fun _ _=>.top)::.int .u8 0::.int .u8 0::.int .u8 0::.int .u8 0::.int .u8 0::.int .u8 0::.bool false::.bool false::.int .i64 0::.ro 0 0 true (fun _ _=>.top)::.ro 0 0 true (fun _ _=>.top)::.int .u8 0::.int .u8 0::.int .u8 0::.int .u8 0::.int .u8 0::.int .u8 0::.bool false::.bool false::.int .i64 0::.ro 0 0 true (fun _ _=>.top)::.ro 0 0 true (fun _ _=>.top)::.int .u8 0::.int .u8 0::.int .u8 0::.int .u8 0::.int .u8 0::.int .u8 0::.bool false::.bool false::.int .i64 0::.ro 0 0 true (fun _ _=>.top)::.ro 0 0 true (fun _ _=>.top)::.int .u8 0::.int .u8 0::.int .u8 0::.int .u8 0::.int .u8 0::.int .u8 0::.bool false::.bool false::.int .i64 0::.ro 0 0 true (fun _ _=>.top)::.ro 0 0 true (fun _ _=>.top)::.int .u8 0::.int .u8 0::.int .u8 0::.int .u8 0::.int .u8 0::.int .u8 0::.bool false::.bool false::.int .i64 0::.ro 0 0 true (fun _ _=>.top)::.ro 0 0 true (fun _ _=>.top)::.int .u8 0::.int .u8 0::.int .u8 0::.int .u8 0::.int .u8 0::.int .u8 0::.bool false::.bool false::.int .i64 0::.ro 0 0 true (fun _ _=>.top)::.ro 0 0 true (fun _ _=>.top)::.int .u8 0::.int .u8 0::.int .u8 0::.int .u8 0::.int .u8 0::.int .u8 0::.bool false::.bool false::.int .i64 0::.ro 0 0 true (fun _ _=>.top)::.ro 0 0 true (fun _ _=>.top)::[]),.row 84 11 w3.length (enR yA w3)]) ?_ ?_
   ·refine zN ⟨[some 0,some 1,some 2],?_,?_,by rfl,by rfl⟩
    ·simp [CvL,Cv,yE,tp]
    ·exact ⟨zO xN rfl (fun _ _ _ _=>rfl),(by simp [CvB,CvL,Cv,tC,geth]),CvB_rowW lhw4 (hw4 ▸ (lit_rowW (f:=yA) ([(TRoots.mk (A6u8.mk 0 0 0 0 0 0) false false 0 [] []),(TRoots.mk (A6u8.mk 0 0 0 0 0 0) false false 0 [] []),(TRoots.mk (A6u8.mk 0 0 0 0 0 0) false false 0 [] []),(TRoots.mk (A6u8.mk 0 0 0 0 0 0) false false 0 [] []),(TRoots.mk (A6u8.mk 0 0 0 0 0 0) false false 0 [] []),(TRoots.mk (A6u8.mk 0 0 0 0 0 0) false false 0 [] []),(TRoots.mk (A6u8.mk 0 0 0 0 0 0) false false 0 [] []),(TRoots.mk (A6u8.mk 0 0 0 0 0 0) false false 0 [] [])]) (.int .u8 0::.int .u8 0::.int .u8 0::.int .u8 0::.int .u8 0::.int .u8 0::.bool false::.bool false::.int .i64 0::.ro 0 0 true (fun _ _=>.top)::.ro 0 0 true (fun _ _=>.top)::.int .u8 0::.int .u8 0::.int .u8 0::.int .u8 0::.int .u8 0::.int .u8 0::.bool false::.bool false::.int .i64 0::.ro 0 0 true (fun _ _=>.top)::.ro 0 0 true (fun _ _=>.top)::.int .u8 0::.int .u8 0::.int .u8 0::.int .u8 0::.int .u8 0::.int .u8 0::.bool false::.bool false::.int .i64 0::.ro 0 0 true (fun _ _=>.top)::.ro 0 0 true (fun _ _=>.top)::.int .u8 0::.int .u8 0::.int .u8 0::.int .u8 0::.int .u8 0::.int .u8 0::.bool false::.bool false::.int .i64 0::.ro 0 0 true (fun _ _=>.top)::.ro 0 0 true (fun _ _=>.top)::.int .u8 0::.int .u8 0::.int .u8 0::.int .u8 0::.int .u8 0::.int .u8 0::.bool false::.bool false::.int .i64 0::.ro 0 0 true (fun _ _=>.top)::.ro 0 0 true (fun _ _=>.top)::.int .u8 0::.int .u8 0::.int .u8 0::.int .u8 0::.int .u8 0::.int .u8 0::.bool false::.bool false::.int .i64 0::.ro 0 0 true (fun _ _=>.top)::.ro 0 0 true (fun _ _=>.top)::.int .u8 0::.int .u8 0::.int .u8 0::.int .u8 0::.int .u8 0::.int .u8 0::.bool false::.bool false::.int .i64 0::.ro 0 0 true (fun _ _=>.top)::.ro 0 0 true (fun _ _=>.top)::.int .u8 0::.int .u8 0::.int .u8 0::.int .u8 0::.int .u8 0::.int .u8 0::.bool false::.bool false::.int .i64 0::.ro 0 0 true (fun _ _=>.top)::.ro 0 0 true (fun _ _=>.top)::[]) (fun _ _=>rfl) (fun _=>by simp [yA,CvL,Cv]))),trivial⟩
   simp only [tp]
   refine rg zB ?_
   simp only [go_sem]
   refine vE ?_
   refine xQ (fun s:(List TRoots) × Int=>(.top::.int .i64 p1::.ro 1 p2.length false (enR c_i64 p2)::.ptr 0 1 0 0::.top::.top::.ptr 1 0 0 0::.top::.ptr 3 11 0 0::.int .i64 s.2::tp 139 [])) (fun s=>[.row 81 1 w1.length (enR c_i64 w1),.lit 84 (.int .u8 0::.int .u8 0::.int .u8 0::.int .u8 0::.int .u8 0::.int .u8 0::.bool false::.bool false::.int .i64 0::.ro 0 0 true (fun _ _=>.top)::.ro 0 0 true (fun _ _=>.top)::.int .u8 0::.int .u8 0::.int .u8 0::.int .u8 0::.int .u8 0::.int .u8 0::.bool false::.bool false::.int .i64 0::.ro 0 0 true (fun _ _=>.top)::.ro 0 0 true (fun _ _=>.top)::.int .u8 0::.int .u8 0::.int .u8 0::.int .u8 0::.int .u8 0::.int .u8 0::.bool false::.bool false::.int .i64 0::.ro 0 0 true (fun _ _=>.top)::.ro 0 0 true (fun _ _=>.top)::.int .u8 0::.int .u8 0::.int .u8 0::.int .u8 0::.int .u8 0::.int .u8 0::.bool false::.bool false::.int .i64 0::.ro 0 0 true (fun _ _=>.top)::.ro 0 0 true (fun _ _=>.top)::.int .u8 0::.int .u8 0::.int .u8 0::.int .u8 0::.int .u8 0::.int .u8 0::.bool false::.bool false::.int .i64 0::.ro 0 0 true (fun _ _=>.top)::.ro 0 0 true (fun _ _=>.top)::.int .u8 0::.int .u8 0::.int .u8 0::.int .u8 0::.int .u8 0::.int .u8 0::.bool false::.bool false::.int .i64 0::.ro 0 0 true (fun _ _=>.top)::.ro 0 0 true (fun _ _=>.top)::.int .u8 0::.int .u8 0::.int .u8 0::.int .u8 0::.int .u8 0::.int .u8 0::.bool false::.bool false::.int .i64 0::.ro 0 0 true (fun _ _=>.top)::.ro 0 0 true (fun _ _=>.top)::.int .u8 0::.int .u8 0::.int .u8 0::.int .u8 0::.int .u8 0::.int .u8 0::.bool false::.bool false::.int .i64 0::.ro 0 0 true (fun _ _=>.top)::.ro 0 0 true (fun _ _=>.top)::[]),.dead,.row 84 11 s.1.length (enR yA s.1)]) (fun e:List TRoots=>(.top::.int .i64 p1::.ro 1 p2.length false (enR c_i64 p2)::.ptr 0 1 0 0::.top::.top::.ptr 1 0 0 0::.top::.ptr 3 11 0 0::tp 140 [])) (fun e=>[.row 81 1 w1.length (enR c_i64 w1),.lit 84 (.int .u8 0::.int .u8 0::.int .u8 0::.int .u8 0::.int .u8 0::.int .u8 0::.bool false::.bool false::.int .i64 0::.ro 0 0 true (fun _ _=>.top)::.ro 0 0 true (fun _ _=>.top)::.int .u8 0::.int .u8 0::.int .u8 0::.int .u8 0::.int .u8 0::.int .u8 0::.bool false::.bool false::.int .i64 0::.ro 0 0 true (fun _ _=>.top)::.ro 0 0 true (fun _ _=>.top)::.int .u8 0::.int .u8 0::.int .u8 0::.int .u8 0::.int .u8 0::.int .u8 0::.bool false::.bool false::.int .i64 0::.ro 0 0 true (fun _ _=>.top)::.ro 0 0 true (fun _ _=>.top)::.int .u8 0::.int .u8 0::.int .u8 0::.int .u8 0::.int .u8 0::.int .u8 0::.bool false::.bool false::.int .i64 0::.ro 0 0 true (fun _ _=>.top)::.ro 0 0 true (fun _ _=>.top)::.int .u8 0::.int .u8 0::.int .u8 0::.int .u8 0::.int .u8 0::.int .u8 0::.bool false::.bool false::.int .i64 0::.ro 0 0 true (fun _ _=>.top)::.ro 0 0 true (fun _ _=>.top)::.int .u8 0::.int .u8 0::.int .u8 0::.int .u8 0::.int .u8 0::.int .u8 0::.bool false::.bool false::.int .i64 0::.ro 0 0 true (fun _ _=>.top)::.ro 0 0 true (fun _ _=>.top)::.int .u8 0::.int .u8 0::.int .u8 0::.int .u8 0::.int .u8 0::.int .u8 0::.bool false::.bool false::.int .i64 0::.ro 0 0 true (fun _ _=>.top)::.ro 0 0 true (fun _ _=>.top)::.int .u8 0::.int .u8 0::.int .u8 0::.int .u8 0::.int .u8 0::.int .u8 0::.bool false::.bool false::.int .i64 0::.ro 0 0 true (fun _ _=>.top)::.ro 0 0 true (fun _ _=>.top)::[]),.dead,.row 84 11 e.length (enR yA e)]) H ?_ (fun s o H hn1_1 hn2_1=>?_) (fun w1_3 H=>?_)
   ·refine zN ⟨[some 0,some 1,some 2,some 2],?_,?_,by rfl,by rfl⟩
    ·simp [CvL,Cv,yE,tp]
    ·exact ⟨(zT nfA),cv,zD,zO wC cl (fun _ _ _ _=>rfl),trivial⟩
   ·obtain ⟨v1_1,v1_2⟩:=s
    unfold F40_L1 at H
    try dsimp only at H ⊢
    try simp only [tp]
    refine zW ?_
    refine sq zB ?_
    simp only [go_sem,Nat.reduceAdd]
    refine condM' rfl trivial (fun hc=>?_) (fun hc=>?_)
    ·replace H:=yI hc H
     refine rg zB ?_
     simp only [go_sem]
     refine ⟨_,(Option.some.inj H).symm,?_⟩
     refine zN ⟨[some 0,some 1,some 2,some 3],?_,?_,by rfl,by rfl⟩
     ·simp [CvL,Cv,yE]
     ·exact ⟨(zT nfA),cv,zD,zO wC cl (fun _ _ _ _=>rfl),trivial⟩
    replace H:=yJ hc H
    refine rg zB ?_
    simp only [go_sem]
    refine zW ?_
    refine vE ?_
    refine jT ?_
    obtain ⟨r5,e6,H⟩:=bsi H
    obtain ⟨r7,e8,H⟩:=bsi H
    obtain ⟨f9,H⟩:=nI H
    obtain ⟨f10,H⟩:=nI H
    refine wP zR ct40t0_ok 10 ?_
    simp only [zY,tS,tZ,dS,dZ,go_sem,Nat.reduceLT,Nat.reduceAdd,Nat.reduceBEq,ct40t0_33,fF,ct40t0_42,vX,e6,e8,f9]
    repeat ((with_reducible refine aI ?_ ?_);exact an0)
    refine fzO [4,5] ?_ ?_
    ·simp only [go_sem,Nat.reduceBEq]
     try exact at0
    simp only [go_sem,Nat.reduceBEq,Nat.reduceAdd]
    refine wP zR zB 1 ?_
    simp only [zY,tS,tZ,dS,dZ,go_sem,Nat.reduceAdd]
    repeat ((with_reducible refine aI ?_ ?_);exact an0)
    refine jD ?_
    refine rg zB ?_
    simp only [go_sem]
    refine ⟨_,(Option.some.inj H).symm,?_⟩
    refine zN ⟨[some 0,some 1,some 2,some 3],?_,?_,by rfl,by rfl⟩
    ·simp [CvL,Cv,yE]
    ·exact ⟨(zT nfA),cv,zD,zO wC cl (uV (f:=yA) v1_1 v1_2.toNat 0 r7.1 (fun _ _ _ _=>rfl) (fun y hy=>match y,hy with|0,_=>rfl|1,_=>rfl|2,_=>rfl|3,_=>rfl|4,_=>rfl|5,_=>rfl|6,_=>rfl|7,_=>rfl|8,_=>rfl|9,_=>rfl|10,_=>rfl|(y+11),h=>absurd h nlt)),trivial⟩
   ·try dsimp only at H ⊢
    try simp only [tp]
    try simp only [xA]
    refine sq zB ?_
    simp only [go_sem]
    refine zW ?_
    refine sq zB ?_
    simp only [go_sem]
    refine vE ?_
    refine xQ (fun s:Int × (List TRoots) × (List Tmessage) × Int=>(.top::.int .i64 s.1::.ro 1 p2.length false (enR c_i64 p2)::.ptr 0 1 0 0::.top::.top::.ptr 1 0 0 0::.top::.ptr 4 11 0 0::.top::.sl 5 12 0 s.2.2.1.length false::.int .i64 s.2.2.2::tp 137 [])) (fun s=>[.row 81 1 w1.length (enR c_i64 w1),.lit 84 (.int .u8 0::.int .u8 0::.int .u8 0::.int .u8 0::.int .u8 0::.int .u8 0::.bool false::.bool false::.int .i64 0::.ro 0 0 true (fun _ _=>.top)::.ro 0 0 true (fun _ _=>.top)::.int .u8 0::.int .u8 0::.int .u8 0::.int .u8 0::.int .u8 0::.int .u8 0::.bool false::.bool false::.int .i64 0::.ro 0 0 true (fun _ _=>.top)::.ro 0 0 true (fun _ _=>.top)::.int .u8 0::.int .u8 0::.int .u8 0::.int .u8 0::.int .u8 0::.int .u8 0::.bool false::.bool false::.int .i64 0::.ro 0 0 true (fun _ _=>.top)::.ro 0 0 true (fun _ _=>.top)::.int .u8 0::.int .u8 0::.int .u8 0::.int .u8 0::.int .u8 0::.int .u8 0::.bool false::.bool false::.int .i64 0::.ro 0 0 true (fun _ _=>.top)::.ro 0 0 true (fun _ _=>.top)::.int .u8 0::.int .u8 0::.int .u8 0::.int .u8 0::.int .u8 0::.int .u8 0::.bool false::.bool false::.int .i64 0::.ro 0 0 true (fun _ _=>.top)::.ro 0 0 true (fun _ _=>.top)::.int .u8 0::.int .u8 0::.int .u8 0::.int .u8 0::.int .u8 0::.int .u8 0::.bool false::.bool false::.int .i64 0::.ro 0 0 true (fun _ _=>.top)::.ro 0 0 true (fun _ _=>.top)::.int .u8 0::.int .u8 0::.int .u8 0::.int .u8 0::.int .u8 0::.int .u8 0::.bool false::.bool false::.int .i64 0::.ro 0 0 true (fun _ _=>.top)::.ro 0 0 true (fun _ _=>.top)::.int .u8 0::.int .u8 0::.int .u8 0::.int .u8 0::.int .u8 0::.int .u8 0::.bool false::.bool false::.int .i64 0::.ro 0 0 true (fun _ _=>.top)::.ro 0 0 true (fun _ _=>.top)::[]),.dead,.dead,.row 84 11 s.2.1.length (enR yA s.2.1),.row 130 12 s.2.2.1.length (enR zS s.2.2.1)]) (fun e:List TRoots=>(tp 6 (.ptr 1 0 0 0::.top::.ptr 4 11 0 0::tp 140 []))) (fun e=>[.dead,.lit 84 (.int .u8 0::.int .u8 0::.int .u8 0::.int .u8 0::.int .u8 0::.int .u8 0::.bool false::.bool false::.int .i64 0::.ro 0 0 true (fun _ _=>.top)::.ro 0 0 true (fun _ _=>.top)::.int .u8 0::.int .u8 0::.int .u8 0::.int .u8 0::.int .u8 0::.int .u8 0::.bool false::.bool false::.int .i64 0::.ro 0 0 true (fun _ _=>.top)::.ro 0 0 true (fun _ _=>.top)::.int .u8 0::.int .u8 0::.int .u8 0::.int .u8 0::.int .u8 0::.int .u8 0::.bool false::.bool false::.int .i64 0::.ro 0 0 true (fun _ _=>.top)::.ro 0 0 true (fun _ _=>.top)::.int .u8 0::.int .u8 0::.int .u8 0::.int .u8 0::.int .u8 0::.int .u8 0::.bool false::.bool false::.int .i64 0::.ro 0 0 true (fun _ _=>.top)::.ro 0 0 true (fun _ _=>.top)::.int .u8 0::.int .u8 0::.int .u8 0::.int .u8 0::.int .u8 0::.int .u8 0::.bool false::.bool false::.int .i64 0::.ro 0 0 true (fun _ _=>.top)::.ro 0 0 true (fun _ _=>.top)::.int .u8 0::.int .u8 0::.int .u8 0::.int .u8 0::.int .u8 0::.int .u8 0::.bool false::.bool false::.int .i64 0::.ro 0 0 true (fun _ _=>.top)::.ro 0 0 true (fun _ _=>.top)::.int .u8 0::.int .u8 0::.int .u8 0::.int .u8 0::.int .u8 0::.int .u8 0::.bool false::.bool false::.int .i64 0::.ro 0 0 true (fun _ _=>.top)::.ro 0 0 true (fun _ _=>.top)::.int .u8 0::.int .u8 0::.int .u8 0::.int .u8 0::.int .u8 0::.int .u8 0::.bool false::.bool false::.int .i64 0::.ro 0 0 true (fun _ _=>.top)::.ro 0 0 true (fun _ _=>.top)::[]),.dead,.dead,.row 84 11 e.length (enR yA e)]) H ?_ (fun s o H hn1_2 hn2_2=>?_) (fun w2_5 H=>?_)
    ·refine zN ⟨[some 0,some 1,some 2,some 3,some 3,none],?_,?_,by rfl,by rfl⟩
     ·simp [CvL,Cv,yE,tp]
     ·exact ⟨(zT nfA),cv,zD,zD,zO wC cl (fun _ _ _ _=>rfl),yN,trivial⟩
    ·obtain ⟨v2_1,v2_2,v2_3,v2_4⟩:=s
     unfold F40_L2 at H
     try dsimp only at H ⊢
     try simp only [tp]
     refine zW ?_
     refine sq zB ?_
     simp only [go_sem,Nat.reduceAdd]
     refine condM' rfl trivial (fun hc=>?_) (fun hc=>?_)
     ·replace H:=yI hc H
      refine rg zB ?_
      simp only [go_sem]
      refine ⟨_,(Option.some.inj H).symm,?_⟩
      refine zN ⟨[some 0,some 1,some 2,some 3,some 4],?_,?_,by rfl,by rfl⟩
      ·simp [CvL,Cv,yE]
      ·exact ⟨zD,cv,zD,zD,zO wC cl (fun _ _ _ _=>rfl),trivial⟩
     replace H:=yJ hc H
     refine rg zB ?_
     simp only [go_sem]
     refine zW ?_
     refine vE ?_
     refine sq zB ?_
     simp only [go_sem]
     refine zW ?_
     refine sq zB ?_
     simp only [go_sem]
     repeat ((with_reducible refine aI ?_ ?_);exact an0)
     refine join_den (fun e:Int=>(.top::.int .i64 v2_1::.ro 1 p2.length false (enR c_i64 p2)::.ptr 0 1 0 0::.top::.top::.ptr 1 0 0 0::.top::.ptr 4 11 0 0::.top::.sl 5 12 0 v2_3.length false::.int .i64 v2_4::.int .i64 e::tp 136 [])) (fun e=>[.row 81 1 w1.length (enR c_i64 w1),.lit 84 (.int .u8 0::.int .u8 0::.int .u8 0::.int .u8 0::.int .u8 0::.int .u8 0::.bool false::.bool false::.int .i64 0::.ro 0 0 true (fun _ _=>.top)::.ro 0 0 true (fun _ _=>.top)::.int .u8 0::.int .u8 0::.int .u8 0::.int .u8 0::.int .u8 0::.int .u8 0::.bool false::.bool false::.int .i64 0::.ro 0 0 true (fun _ _=>.top)::.ro 0 0 true (fun _ _=>.top)::.int .u8 0::.int .u8 0::.int .u8 0::.int .u8 0::.int .u8 0::.int .u8 0::.bool false::.bool false::.int .i64 0::.ro 0 0 true (fun _ _=>.top)::.ro 0 0 true (fun _ _=>.top)::.int .u8 0::.int .u8 0::.int .u8 0::.int .u8 0::.int .u8 0::.int .u8 0::.bool false::.bool false::.int .i64 0::.ro 0 0 true (fun _ _=>.top)::.ro 0 0 true (fun _ _=>.top)::.int .u8 0::.int .u8 0::.int .u8 0::.int .u8 0::.int .u8 0::.int .u8 0::.bool false::.bool false::.int .i64 0::.ro 0 0 true (fun _ _=>.top)::.ro 0 0 true (fun _ _=>.top)::.int .u8 0::.int .u8 0::.int .u8 0::.int .u8 0::.int .u8 0::.int .u8 0::.bool false::.bool false::.int .i64 0::.ro 0 0 true (fun _ _=>.top)::.ro 0 0 true (fun _ _=>.top)::.int .u8 0::.int .u8 0::.int .u8 0::.int .u8 0::.int .u8 0::.int .u8 0::.bool false::.bool false::.int .i64 0::.ro 0 0 true (fun _ _=>.top)::.ro 0 0 true (fun _ _=>.top)::.int .u8 0::.int .u8 0::.int .u8 0::.int .u8 0::.int .u8 0::.int .u8 0::.bool false::.bool false::.int .i64 0::.ro 0 0 true (fun _ _=>.top)::.ro 0 0 true (fun _ _=>.top)::[]),.dead,.dead,.row 84 11 v2_2.length (enR yA v2_2),.row 130 12 v2_3.length (enR zS v2_3)]) H (fun o H hn1_3 hn2_3=>?_) (fun w3_2 H=>?_)
     ·unfold F40_L3 at H
      try dsimp only at H ⊢
      try simp only [tp]
      refine condM' rfl trivial (fun hc=>?_) (fun hc=>?_)
      ·replace H:=yI hc H
       refine rg zB ?_
       simp only [go_sem,Nat.reduceAdd]
       refine ⟨_,(Option.some.inj H).symm,?_⟩
       refine zN ⟨[some 0,some 1,some 2,some 3,some 4,some 5],?_,?_,by rfl,by rfl⟩
       ·simp [CvL,Cv,yE]
       ·exact ⟨(zT nfA),cv,zD,zD,(zT nfA),(zT nfA),trivial⟩
      replace H:=yJ hc H
      obtain ⟨f11,H⟩:=nI H
      refine rg zB ?_
      simp only [go_sem,Nat.reduceLT,Nat.reduceAdd,f11]
      repeat ((with_reducible refine aI ?_ ?_);exact an1)
      refine ⟨_,(Option.some.inj H).symm,?_⟩
      refine zN ⟨[some 0,some 1,some 2,some 3,some 4,some 5],?_,?_,by rfl,by rfl⟩
      ·simp [CvL,Cv,yE]
      ·exact ⟨(zT nfA),cv,zD,zD,(zT nfA),(zT nfA),trivial⟩
     ·try dsimp only at H ⊢
      try simp only [tp]
      try simp only [xA]
      refine zW ?_
      refine sq zB ?_
      simp only [go_sem]
      repeat ((with_reducible refine aI ?_ ?_);exact an5)
      refine join_den (fun e:Int × (List TRoots) × (List Tmessage)=>(.top::.int .i64 e.1::.ro 1 p2.length false (enR c_i64 p2)::.ptr 0 1 0 0::.top::.top::.ptr 1 0 0 0::.top::.ptr 6 11 0 0::.top::.sl 7 12 0 e.2.2.length false::.int .i64 v2_4::.int .i64 w3_2::tp 136 [])) (fun e=>[.row 81 1 w1.length (enR c_i64 w1),.lit 84 (.int .u8 0::.int .u8 0::.int .u8 0::.int .u8 0::.int .u8 0::.int .u8 0::.bool false::.bool false::.int .i64 0::.ro 0 0 true (fun _ _=>.top)::.ro 0 0 true (fun _ _=>.top)::.int .u8 0::.int .u8 0::.int .u8 0::.int .u8 0::.int .u8 0::.int .u8 0::.bool false::.bool false::.int .i64 0::.ro 0 0 true (fun _ _=>.top)::.ro 0 0 true (fun _ _=>.top)::.int .u8 0::.int .u8 0::.int .u8 0::.int .u8 0::.int .u8 0::.int .u8 0::.bool false::.bool false::.int .i64 0::.ro 0 0 true (fun _ _=>.top)::.ro 0 0 true (fun _ _=>.top)::.int .u8 0::.int .u8 0::.int .u8 0::.int .u8 0::.int .u8 0::.int .u8 0::.bool false::.bool false::.int .i64 0::.ro 0 0 true (fun _ _=>.top)::.ro 0 0 true (fun _ _=>.top)::.int .u8 0::.int .u8 0::.int .u8 0::.int .u8 0::.int .u8 0::.int .u8 0::.bool false::.bool false::.int .i64 0::.ro 0 0 true (fun _ _=>.top)::.ro 0 0 true (fun _ _=>.top)::.int .u8 0::.int .u8 0::.int .u8 0::.int .u8 0::.int .u8 0::.int .u8 0::.bool false::.bool false::.int .i64 0::.ro 0 0 true (fun _ _=>.top)::.ro 0 0 true (fun _ _=>.top)::.int .u8 0::.int .u8 0::.int .u8 0::.int .u8 0::.int .u8 0::.int .u8 0::.bool false::.bool false::.int .i64 0::.ro 0 0 true (fun _ _=>.top)::.ro 0 0 true (fun _ _=>.top)::.int .u8 0::.int .u8 0::.int .u8 0::.int .u8 0::.int .u8 0::.int .u8 0::.bool false::.bool false::.int .i64 0::.ro 0 0 true (fun _ _=>.top)::.ro 0 0 true (fun _ _=>.top)::[]),.dead,.dead,.dead,.dead,.row 84 11 e.2.1.length (enR yA e.2.1),.row 130 12 e.2.2.length (enR zS e.2.2)]) H (fun o H hn1_4 hn2_4=>?_) (fun e H=>?_)
      ·unfold F40_L4 at H
       try dsimp only at H ⊢
       try simp only [tp]
       refine condM' rfl trivial (fun hc=>?_) (fun hc=>?_)
       ·replace H:=yI hc H
        refine rg zB ?_
        simp only [go_sem,Nat.reduceAdd]
        refine ⟨_,(Option.some.inj H).symm,?_⟩
        refine zN ⟨[some 0,some 1,some 2,some 3,some 4,some 5,some 4,some 5],?_,?_,by rfl,by rfl⟩
        ·simp [CvL,Cv,yE]
        ·exact ⟨(zT nfA),cv,zD,zD,zD,zD,zO wC cl (fun _ _ _ _=>rfl),zO yV cl (fun _ _ _ _=>rfl),trivial⟩
       replace H:=yJ hc H
       refine zW ?_
       obtain ⟨f12,H⟩:=nI H
       obtain ⟨f13,H⟩:=nI H
       obtain ⟨r14,e15,H⟩:=bsi H
       refine rg ct40t1_ok ?_
       simp only [go_sem,Nat.reduceLT,Nat.reduceAdd,Nat.reduceBEq,ct40t1_18,body18,f12,e15]
       repeat ((with_reducible refine aI ?_ ?_);exact an0)
       refine zW ?_
       refine sq zB ?_
       simp only [go_sem]
       refine xJ rfl trivial (fun hc=>?_) (fun hc=>?_)
       ·replace H:=yJ hc H
        refine zW ?_
        refine jT ?_
        refine wP zR zB 0 ?_
        simp only [zY,tZ,dZ,go_sem]
        repeat ((with_reducible refine aI ?_ ?_);exact an1)
        obtain ⟨f16,H⟩:=zM.1 H
        replace f16:=decide_eq_true_iff.1 f16
        refine uO zR zB (b:=4) (z:=11) (n:=8) (cells:=(.int .u8 (((gd v2_2 0).Own).x0)::.int .u8 (((gd v2_2 0).Own).x1)::.int .u8 (((gd v2_2 0).Own).x2)::.int .u8 (((gd v2_2 0).Own).x3)::.int .u8 (((gd v2_2 0).Own).x4)::.int .u8 (((gd v2_2 0).Own).x5)::.bool ((gd v2_2 0).Root)::.bool ((gd v2_2 0).Gate)::.int .i64 ((gd v2_2 0).Seq)::.ro 17 (((gd v2_2 0).Trees).length) false (enR zH ((gd v2_2 0).Trees))::.ro 13 (((gd v2_2 0).Proxies).length) false (enR zC ((gd v2_2 0).Proxies))::.int .u8 (((gd v2_2 1).Own).x0)::.int .u8 (((gd v2_2 1).Own).x1)::.int .u8 (((gd v2_2 1).Own).x2)::.int .u8 (((gd v2_2 1).Own).x3)::.int .u8 (((gd v2_2 1).Own).x4)::.int .u8 (((gd v2_2 1).Own).x5)::.bool ((gd v2_2 1).Root)::.bool ((gd v2_2 1).Gate)::.int .i64 ((gd v2_2 1).Seq)::.ro 17 (((gd v2_2 1).Trees).length) false (enR zH ((gd v2_2 1).Trees))::.ro 13 (((gd v2_2 1).Proxies).length) false (enR zC ((gd v2_2 1).Proxies))::.int .u8 (((gd v2_2 2).Own).x0)::.int .u8 (((gd v2_2 2).Own).x1)::.int .u8 (((gd v2_2 2).Own).x2)::.int .u8 (((gd v2_2 2).Own).x3)::.int .u8 (((gd v2_2 2).Own).x4)::.int .u8 (((gd v2_2 2).Own).x5)::.bool ((gd v2_2 2).Root)::.bool ((gd v2_2 2).Gate)::.int .i64 ((gd v2_2 2).Seq)::.ro 17 (((gd v2_2 2).Trees).length) false (enR zH ((gd v2_2 2).Trees))::.ro 13 (((gd v2_2 2).Proxies).length) false (enR zC ((gd v2_2 2).Proxies))::.int .u8 (((gd v2_2 3).Own).x0)::.int .u8 (((gd v2_2 3).Own).x1)::.int .u8 (((gd v2_2 3).Own).x2)::.int .u8 (((gd v2_2 3).Own).x3)::.int .u8 (((gd v2_2 3).Own).x4)::.int .u8 (((gd v2_2 3).Own).x5)::.bool ((gd v2_2 3).Root)::.bool ((gd v2_2 3).Gate)::.int .i64 ((gd v2_2 3).Seq)::.ro 17 (((gd v2_2 3).Trees).length) false (enR zH ((gd v2_2 3).Trees))::.ro 13 (((gd v2_2 3).Proxies).length) false (enR zC ((gd v2_2 3).Proxies))::.int .u8 (((gd v2_2 4).Own).x0)::.int .u8 (((gd v2_2 4).Own).x1)::.int .u8 (((gd v2_2 4).Own).x2)::.int .u8 (((gd v2_2 4).Own).x3)::.int .u8 (((gd v2_2 4).Own).x4)::.int .u8 (((gd v2_2 4).Own).x5)::.bool ((gd v2_2 4).Root)::.bool ((gd v2_2 4).Gate)::.int .i64 ((gd v2_2 4).Seq)::.ro 17 (((gd v2_2 4).Trees).length) false (enR zH ((gd v2_2 4).Trees))::.ro 13 (((gd v2_2 4).Proxies).length) false (enR zC ((gd v2_2 4).Proxies))::.int .u8 (((gd v2_2 5).Own).x0)::.int .u8 (((gd v2_2 5).Own).x1)::.int .u8 (((gd v2_2 5).Own).x2)::.int .u8 (((gd v2_2 5).Own).x3)::.int .u8 (((gd v2_2 5).Own).x4)::.int .u8 (((gd v2_2 5).Own).x5)::.bool ((gd v2_2 5).Root)::.bool ((gd v2_2 5).Gate)::.int .i64 ((gd v2_2 5).Seq)::.ro 17 (((gd v2_2 5).Trees).length) false (enR zH ((gd v2_2 5).Trees))::.ro 13 (((gd v2_2 5).Proxies).length) false (enR zC ((gd v2_2 5).Proxies))::.int .u8 (((gd v2_2 6).Own).x0)::.int .u8 (((gd v2_2 6).Own).x1)::.int .u8 (((gd v2_2 6).Own).x2)::.int .u8 (((gd v2_2 6).Own).x3)::.int .u8 (((gd v2_2 6).Own).x4)::.int .u8 (((gd v2_2 6).Own).x5)::.bool ((gd v2_2 6).Root)::.bool ((gd v2_2 6).Gate)::.int .i64 ((gd v2_2 6).Seq)::.ro 17 (((gd v2_2 6).Trees).length) false (enR zH ((gd v2_2 6).Trees))::.ro 13 (((gd v2_2 6).Proxies).length) false (enR zC ((gd v2_2 6).Proxies))::.int .u8 (((gd v2_2 7).Own).x0)::.int .u8 (((gd v2_2 7).Own).x1)::.int .u8 (((gd v2_2 7).Own).x2)::.int .u8 (((gd v2_2 7).Own).x3)::.int .u8 (((gd v2_2 7).Own).x4)::.int .u8 (((gd v2_2 7).Own).x5)::.bool ((gd v2_2 7).Root)::.bool ((gd v2_2 7).Gate)::.int .i64 ((gd v2_2 7).Seq)::.ro 17 (((gd v2_2 7).Trees).length) false (enR zH ((gd v2_2 7).Trees))::.ro 13 (((gd v2_2 7).Proxies).length) false (enR zC ((gd v2_2 7).Proxies))::[])) rfl rfl rfl rfl (by first|exact trivial|(simp only [go_sem,Nat.reduceLeDiff,Nat.reduceLT,Nat.reduceAdd,Nat.reduceMul,Nat.reduceSub,Nat.reduceEqDiff,Nat.reduceBEq,Int.reduceToNat,reduceCtorEq];done)|simp [og]) rfl f16 (by kernel_rfl) (by kernel_rfl) rfl (by decide) (fun x y hx hy=>(vR (f:=fun x=>yA (gd v2_2 x)) (n:=8) (fun _=>rfl) x y (by omega) hy).symm) ?_
        simp only [go_sem]
        refine wP zR zB 2 ?_
        simp only [zY,tS,tZ,dS,dZ,go_sem,Nat.reduceAdd]
        repeat ((with_reducible refine aI ?_ ?_);exact an1)
        refine jD ?_
        refine rg zB ?_
        simp only [go_sem,Nat.reduceLT,Nat.reduceAdd]
        have H:=hn2_4 _ (Option.some.inj H).symm
        have H:=hn2_2 _ (Option.some.inj H).symm
        obtain rfl:=Option.some.inj H
        refine ⟨[1,8,9],?_,?_,[],?_,?_,rfl⟩
        ·simp only [go_sem]
         try exact at0
        ·simp only [go_sem,Nat.reduceBEq]
         try exact at0
        ·simp only [go_sem]
         exact vQ (zA (Cv_agg (zA zE (zA zE (zA zE (zA zE (zA zE (zA zE (zA yC (zA yC (zA zE (zA (yS (by simp only [nref])) (zA (yS (by simp only [nref])) (zA zE (zA zE (zA zE (zA zE (zA zE (zA zE (zA yC (zA yC (zA zE (zA (yS (by simp only [nref])) (zA (yS (by simp only [nref])) (zA zE (zA zE (zA zE (zA zE (zA zE (zA zE (zA yC (zA yC (zA zE (zA (yS (by simp only [nref])) (zA (yS (by simp only [nref])) (zA zE (zA zE (zA zE (zA zE (zA zE (zA zE (zA yC (zA yC (zA zE (zA (yS (by simp only [nref])) (zA (yS (by simp only [nref])) (zA zE (zA zE (zA zE (zA zE (zA zE (zA zE (zA yC (zA yC (zA zE (zA (yS (by simp only [nref])) (zA (yS (by simp only [nref])) (zA zE (zA zE (zA zE (zA zE (zA zE (zA zE (zA yC (zA yC (zA zE (zA (yS (by simp only [nref])) (zA (yS (by simp only [nref])) (zA zE (zA zE (zA zE (zA zE (zA zE (zA zE (zA yC (zA yC (zA zE (zA (yS (by simp only [nref])) (zA (yS (by simp only [nref])) (zA zE (zA zE (zA zE (zA zE (zA zE (zA zE (zA yC (zA yC (zA zE (zA (yS (by simp only [nref])) (zA (yS (by simp only [nref])) xU))))))))))))))))))))))))))))))))))))))))))))))))))))))))))))))))))))))))))))))))))))))))) (zA yC xU))
        ·simp only [go_sem,CvH]
       replace H:=yI hc H
       refine rg zB ?_
       simp only [go_sem]
       refine zW ?_
       refine jT ?_
       obtain ⟨f17,H⟩:=nI H
       obtain ⟨f18,H⟩:=nI H
       refine wP zR zB 4 ?_
       simp only [zY,tS,tZ,dS,dZ,go_sem,Nat.reduceLT,Nat.reduceAdd,Nat.reduceBEq,f17]
       repeat ((with_reducible refine aI ?_ ?_);exact an1)
       refine fzO [6,7] ?_ ?_
       ·simp only [go_sem,Nat.reduceBEq]
        try exact at0
       simp only [go_sem,Nat.reduceBEq,Nat.reduceAdd]
       refine wP zR zB 2 ?_
       simp only [zY,tS,tZ,dS,dZ,go_sem,Nat.reduceAdd]
       repeat ((with_reducible refine aI ?_ ?_);exact an1)
       refine jD ?_
       refine jT ?_
       refine wP zR zB 1 ?_
       simp only [zY,tS,tZ,dS,dZ,go_sem]
       repeat ((with_reducible refine aI ?_ ?_);exact an0)
       obtain ⟨f19,H⟩:=zM.1 H
       replace f19:=decide_eq_true_iff.1 f19
       refine uO zR zB (b:=0) (z:=1) (n:=64) (cells:=(.int .i64 (gd w1 0)::.int .i64 (gd w1 1)::.int .i64 (gd w1 2)::.int .i64 (gd w1 3)::.int .i64 (gd w1 4)::.int .i64 (gd w1 5)::.int .i64 (gd w1 6)::.int .i64 (gd w1 7)::.int .i64 (gd w1 8)::.int .i64 (gd w1 9)::.int .i64 (gd w1 10)::.int .i64 (gd w1 11)::.int .i64 (gd w1 12)::.int .i64 (gd w1 13)::.int .i64 (gd w1 14)::.int .i64 (gd w1 15)::.int .i64 (gd w1 16)::.int .i64 (gd w1 17)::.int .i64 (gd w1 18)::.int .i64 (gd w1 19)::.int .i64 (gd w1 20)::.int .i64 (gd w1 21)::.int .i64 (gd w1 22)::.int .i64 (gd w1 23)::.int .i64 (gd w1 24)::.int .i64 (gd w1 25)::.int .i64 (gd w1 26)::.int .i64 (gd w1 27)::.int .i64 (gd w1 28)::.int .i64 (gd w1 29)::.int .i64 (gd w1 30)::.int .i64 (gd w1 31)::.int .i64 (gd w1 32)::.int .i64 (gd w1 33)::.int .i64 (gd w1 34)::.int .i64 (gd w1 35)::.int .i64 (gd w1 36)::.int .i64 (gd w1 37)::.int .i64 (gd w1 38)::.int .i64 (gd w1 39)::.int .i64 (gd w1 40)::.int .i64 (gd w1 41)::.int .i64 (gd w1 42)::.int .i64 (gd w1 43)::.int .i64 (gd w1 44)::.int .i64 (gd w1 45)::.int .i64 (gd w1 46)::.int .i64 (gd w1 47)::.int .i64 (gd w1 48)::.int .i64 (gd w1 49)::.int .i64 (gd w1 50)::.int .i64 (gd w1 51)::.int .i64 (gd w1 52)::.int .i64 (gd w1 53)::.int .i64 (gd w1 54)::.int .i64 (gd w1 55)::.int .i64 (gd w1 56)::.int .i64 (gd w1 57)::.int .i64 (gd w1 58)::.int .i64 (gd w1 59)::.int .i64 (gd w1 60)::.int .i64 (gd w1 61)::.int .i64 (gd w1 62)::.int .i64 (gd w1 63)::[])) rfl rfl rfl rfl (by first|exact trivial|(simp only [go_sem,Nat.reduceLeDiff,Nat.reduceLT,Nat.reduceAdd,Nat.reduceMul,Nat.reduceSub,Nat.reduceEqDiff,Nat.reduceBEq,Int.reduceToNat,reduceCtorEq];done)|simp [og]) rfl f19 (by kernel_rfl) (by kernel_rfl) rfl (by decide) (fun x y hx hy=>(vR (f:=fun x=>c_i64 (gd w1 x)) (n:=64) (fun _=>rfl) x y (by omega) hy).symm) ?_
       simp only [go_sem]
       obtain ⟨r20,e21,H⟩:=bsi H
       refine wP zR ct40t4_ok 3 ?_
       simp only [zY,tS,tZ,dS,dZ,go_sem,Nat.reduceLT,Nat.reduceAdd,ct40t4_77,jB,e21]
       repeat ((with_reducible refine aI ?_ ?_);exact an0)
       refine jD ?_
       refine ⟨_,(Option.some.inj H).symm,?_⟩
       refine zN ⟨[some 0,some 1,some 2,some 3,some 4,some 5,some 4,some 10],?_,?_,by rfl,by rfl⟩
       ·simp [CvL,Cv,yE]
       ·exact ⟨(zT nfA),cv,zD,zD,zD,zD,zO wC cl (uV (f:=yA) v2_2 0 0 r14.2.1 (fun _ _ _ _=>rfl) (fun y hy=>match y,hy with|0,_=>rfl|1,_=>rfl|2,_=>rfl|3,_=>rfl|4,_=>rfl|5,_=>rfl|6,_=>rfl|7,_=>rfl|8,_=>rfl|9,_=>rfl|10,_=>rfl|(y+11),h=>absurd h nlt)),zO yV cl (fun _ _ _ _=>rfl),trivial⟩
      ·obtain ⟨w4_1,w4_2,w4_3⟩:=e
       try dsimp only at H ⊢
       try simp only [tp]
       try simp only [xA]
       refine zW ?_
       refine sq zB ?_
       simp only [go_sem]
       repeat ((with_reducible refine aI ?_ ?_);exact an0)
       refine xJ rfl trivial (fun hc=>?_) (fun hc=>?_)
       ·replace H:=yJ hc H
        refine zW ?_
        refine jT ?_
        refine wP zR zB 0 ?_
        simp only [zY,tZ,dZ,go_sem]
        repeat ((with_reducible refine aI ?_ ?_);exact an1)
        obtain ⟨f22,H⟩:=zM.1 H
        replace f22:=decide_eq_true_iff.1 f22
        refine uO zR zB (b:=6) (z:=11) (n:=8) (cells:=(.int .u8 (((gd w4_2 0).Own).x0)::.int .u8 (((gd w4_2 0).Own).x1)::.int .u8 (((gd w4_2 0).Own).x2)::.int .u8 (((gd w4_2 0).Own).x3)::.int .u8 (((gd w4_2 0).Own).x4)::.int .u8 (((gd w4_2 0).Own).x5)::.bool ((gd w4_2 0).Root)::.bool ((gd w4_2 0).Gate)::.int .i64 ((gd w4_2 0).Seq)::.ro 17 (((gd w4_2 0).Trees).length) false (enR zH ((gd w4_2 0).Trees))::.ro 13 (((gd w4_2 0).Proxies).length) false (enR zC ((gd w4_2 0).Proxies))::.int .u8 (((gd w4_2 1).Own).x0)::.int .u8 (((gd w4_2 1).Own).x1)::.int .u8 (((gd w4_2 1).Own).x2)::.int .u8 (((gd w4_2 1).Own).x3)::.int .u8 (((gd w4_2 1).Own).x4)::.int .u8 (((gd w4_2 1).Own).x5)::.bool ((gd w4_2 1).Root)::.bool ((gd w4_2 1).Gate)::.int .i64 ((gd w4_2 1).Seq)::.ro 17 (((gd w4_2 1).Trees).length) false (enR zH ((gd w4_2 1).Trees))::.ro 13 (((gd w4_2 1).Proxies).length) false (enR zC ((gd w4_2 1).Proxies))::.int .u8 (((gd w4_2 2).Own).x0)::.int .u8 (((gd w4_2 2).Own).x1)::.int .u8 (((gd w4_2 2).Own).x2)::.int .u8 (((gd w4_2 2).Own).x3)::.int .u8 (((gd w4_2 2).Own).x4)::.int .u8 (((gd w4_2 2).Own).x5)::.bool ((gd w4_2 2).Root)::.bool ((gd w4_2 2).Gate)::.int .i64 ((gd w4_2 2).Seq)::.ro 17 (((gd w4_2 2).Trees).length) false (enR zH ((gd w4_2 2).Trees))::.ro 13 (((gd w4_2 2).Proxies).length) false (enR zC ((gd w4_2 2).Proxies))::.int .u8 (((gd w4_2 3).Own).x0)::.int .u8 (((gd w4_2 3).Own).x1)::.int .u8 (((gd w4_2 3).Own).x2)::.int .u8 (((gd w4_2 3).Own).x3)::.int .u8 (((gd w4_2 3).Own).x4)::.int .u8 (((gd w4_2 3).Own).x5)::.bool ((gd w4_2 3).Root)::.bool ((gd w4_2 3).Gate)::.int .i64 ((gd w4_2 3).Seq)::.ro 17 (((gd w4_2 3).Trees).length) false (enR zH ((gd w4_2 3).Trees))::.ro 13 (((gd w4_2 3).Proxies).length) false (enR zC ((gd w4_2 3).Proxies))::.int .u8 (((gd w4_2 4).Own).x0)::.int .u8 (((gd w4_2 4).Own).x1)::.int .u8 (((gd w4_2 4).Own).x2)::.int .u8 (((gd w4_2 4).Own).x3)::.int .u8 (((gd w4_2 4).Own).x4)::.int .u8 (((gd w4_2 4).Own).x5)::.bool ((gd w4_2 4).Root)::.bool ((gd w4_2 4).Gate)::.int .i64 ((gd w4_2 4).Seq)::.ro 17 (((gd w4_2 4).Trees).length) false (enR zH ((gd w4_2 4).Trees))::.ro 13 (((gd w4_2 4).Proxies).length) false (enR zC ((gd w4_2 4).Proxies))::.int .u8 (((gd w4_2 5).Own).x0)::.int .u8 (((gd w4_2 5).Own).x1)::.int .u8 (((gd w4_2 5).Own).x2)::.int .u8 (((gd w4_2 5).Own).x3)::.int .u8 (((gd w4_2 5).Own).x4)::.int .u8 (((gd w4_2 5).Own).x5)::.bool ((gd w4_2 5).Root)::.bool ((gd w4_2 5).Gate)::.int .i64 ((gd w4_2 5).Seq)::.ro 17 (((gd w4_2 5).Trees).length) false (enR zH ((gd w4_2 5).Trees))::.ro 13 (((gd w4_2 5).Proxies).length) false (enR zC ((gd w4_2 5).Proxies))::.int .u8 (((gd w4_2 6).Own).x0)::.int .u8 (((gd w4_2 6).Own).x1)::.int .u8 (((gd w4_2 6).Own).x2)::.int .u8 (((gd w4_2 6).Own).x3)::.int .u8 (((gd w4_2 6).Own).x4)::.int .u8 (((gd w4_2 6).Own).x5)::.bool ((gd w4_2 6).Root)::.bool ((gd w4_2 6).Gate)::.int .i64 ((gd w4_2 6).Seq)::.ro 17 (((gd w4_2 6).Trees).length) false (enR zH ((gd w4_2 6).Trees))::.ro 13 (((gd w4_2 6).Proxies).length) false (enR zC ((gd w4_2 6).Proxies))::.int .u8 (((gd w4_2 7).Own).x0)::.int .u8 (((gd w4_2 7).Own).x1)::.int .u8 (((gd w4_2 7).Own).x2)::.int .u8 (((gd w4_2 7).Own).x3)::.int .u8 (((gd w4_2 7).Own).x4)::.int .u8 (((gd w4_2 7).Own).x5)::.bool ((gd w4_2 7).Root)::.bool ((gd w4_2 7).Gate)::.int .i64 ((gd w4_2 7).Seq)::.ro 17 (((gd w4_2 7).Trees).length) false (enR zH ((gd w4_2 7).Trees))::.ro 13 (((gd w4_2 7).Proxies).length) false (enR zC ((gd w4_2 7).Proxies))::[])) rfl rfl rfl rfl (by first|exact trivial|(simp only [go_sem,Nat.reduceLeDiff,Nat.reduceLT,Nat.reduceAdd,Nat.reduceMul,Nat.reduceSub,Nat.reduceEqDiff,Nat.reduceBEq,Int.reduceToNat,reduceCtorEq];done)|simp [og]) rfl f22 (by kernel_rfl) (by kernel_rfl) rfl (by decide) (fun x y hx hy=>(vR (f:=fun x=>yA (gd w4_2 x)) (n:=8) (fun _=>rfl) x y (by omega) hy).symm) ?_
        simp only [go_sem]
        refine wP zR zB 2 ?_
        simp only [zY,tS,tZ,dS,dZ,go_sem,Nat.reduceAdd]
        repeat ((with_reducible refine aI ?_ ?_);exact an1)
        refine jD ?_
        refine rg zB ?_
        simp only [go_sem,Nat.reduceLT,Nat.reduceAdd]
        have H:=hn2_2 _ (Option.some.inj H).symm
        obtain rfl:=Option.some.inj H
        refine ⟨[1],?_,?_,[],?_,?_,rfl⟩
        ·simp only [go_sem]
         try exact at0
        ·simp only [go_sem]
         try exact at0
        ·simp only [go_sem]
         exact vQ (zA (Cv_agg (zA zE (zA zE (zA zE (zA zE (zA zE (zA zE (zA yC (zA yC (zA zE (zA (yS (by simp only [nref])) (zA (yS (by simp only [nref])) (zA zE (zA zE (zA zE (zA zE (zA zE (zA zE (zA yC (zA yC (zA zE (zA (yS (by simp only [nref])) (zA (yS (by simp only [nref])) (zA zE (zA zE (zA zE (zA zE (zA zE (zA zE (zA yC (zA yC (zA zE (zA (yS (by simp only [nref])) (zA (yS (by simp only [nref])) (zA zE (zA zE (zA zE (zA zE (zA zE (zA zE (zA yC (zA yC (zA zE (zA (yS (by simp only [nref])) (zA (yS (by simp only [nref])) (zA zE (zA zE (zA zE (zA zE (zA zE (zA zE (zA yC (zA yC (zA zE (zA (yS (by simp only [nref])) (zA (yS (by simp only [nref])) (zA zE (zA zE (zA zE (zA zE (zA zE (zA zE (zA yC (zA yC (zA zE (zA (yS (by simp only [nref])) (zA (yS (by simp only [nref])) (zA zE (zA zE (zA zE (zA zE (zA zE (zA zE (zA yC (zA yC (zA zE (zA (yS (by simp only [nref])) (zA (yS (by simp only [nref])) (zA zE (zA zE (zA zE (zA zE (zA zE (zA zE (zA yC (zA yC (zA zE (zA (yS (by simp only [nref])) (zA (yS (by simp only [nref])) xU))))))))))))))))))))))))))))))))))))))))))))))))))))))))))))))))))))))))))))))))))))))))) (zA yC xU))
        ·simp only [go_sem,CvH]
       replace H:=yI hc H
       refine rg zB ?_
       simp only [go_sem]
       refine zW ?_
       refine sq zB ?_
       simp only [go_sem]
       refine join_den (fun e:Int=>(.top::.int .i64 w4_1::.ro 1 p2.length false (enR c_i64 p2)::.ptr 0 1 0 0::.top::.top::.ptr 1 0 0 0::.top::.ptr 6 11 0 0::.top::.sl 7 12 0 w4_3.length false::.int .i64 v2_4::.int .i64 e::tp 136 [])) (fun e=>[.row 81 1 w1.length (enR c_i64 w1),.lit 84 (.int .u8 0::.int .u8 0::.int .u8 0::.int .u8 0::.int .u8 0::.int .u8 0::.bool false::.bool false::.int .i64 0::.ro 0 0 true (fun _ _=>.top)::.ro 0 0 true (fun _ _=>.top)::.int .u8 0::.int .u8 0::.int .u8 0::.int .u8 0::.int .u8 0::.int .u8 0::.bool false::.bool false::.int .i64 0::.ro 0 0 true (fun _ _=>.top)::.ro 0 0 true (fun _ _=>.top)::.int .u8 0::.int .u8 0::.int .u8 0::.int .u8 0::.int .u8 0::.int .u8 0::.bool false::.bool false::.int .i64 0::.ro 0 0 true (fun _ _=>.top)::.ro 0 0 true (fun _ _=>.top)::.int .u8 0::.int .u8 0::.int .u8 0::.int .u8 0::.int .u8 0::.int .u8 0::.bool false::.bool false::.int .i64 0::.ro 0 0 true (fun _ _=>.top)::.ro 0 0 true (fun _ _=>.top)::.int .u8 0::.int .u8 0::.int .u8 0::.int .u8 0::.int .u8 0::.int .u8 0::.bool false::.bool false::.int .i64 0::.ro 0 0 true (fun _ _=>.top)::.ro 0 0 true (fun _ _=>.top)::.int .u8 0::.int .u8 0::.int .u8 0::.int .u8 0::.int .u8 0::.int .u8 0::.bool false::.bool false::.int .i64 0::.ro 0 0 true (fun _ _=>.top)::.ro 0 0 true (fun _ _=>.top)::.int .u8 0::.int .u8 0::.int .u8 0::.int .u8 0::.int .u8 0::.int .u8 0::.bool false::.bool false::.int .i64 0::.ro 0 0 true (fun _ _=>.top)::.ro 0 0 true (fun _ _=>.top)::.int .u8 0::.int .u8 0::.int .u8 0::.int .u8 0::.int .u8 0::.int .u8 0::.bool false::.bool false::.int .i64 0::.ro 0 0 true (fun _ _=>.top)::.ro 0 0 true (fun _ _=>.top)::[]),.dead,.dead,.dead,.dead,.row 84 11 w4_2.length (enR yA w4_2),.row 130 12 w4_3.length (enR zS w4_3)]) H (fun o H hn1_5 hn2_5=>?_) (fun w5_2 H=>?_)
       ·unfold F40_L5 at H
        try dsimp only at H ⊢
        try simp only [tp]
        refine xJ rfl trivial (fun hc=>?_) (fun hc=>?_)
        ·replace H:=yJ hc H
         refine rg zB ?_
         simp only [go_sem,Nat.reduceAdd]
         refine ⟨_,(Option.some.inj H).symm,?_⟩
         refine zN ⟨[some 0,some 1,some 2,some 3,some 4,some 5,some 6,some 7],?_,?_,by rfl,by rfl⟩
         ·simp [CvL,Cv,yE]
         ·exact ⟨(zT nfA),cv,zD,zD,zD,zD,(zT nfA),(zT nfA),trivial⟩
        replace H:=yI hc H
        refine rg zB ?_
        simp only [go_sem,Nat.reduceAdd]
        refine ⟨_,(Option.some.inj H).symm,?_⟩
        refine zN ⟨[some 0,some 1,some 2,some 3,some 4,some 5,some 6,some 7],?_,?_,by rfl,by rfl⟩
        ·simp [CvL,Cv,yE]
        ·exact ⟨(zT nfA),cv,zD,zD,zD,zD,(zT nfA),(zT nfA),trivial⟩
       ·try dsimp only at H ⊢
        try simp only [tp]
        try simp only [xA]
        refine zW ?_
        obtain ⟨f23,H⟩:=zM.1 H
        replace f23:=ne0_iff.1 f23
        refine rg zB ?_
        simp only [go_sem,f23]
        repeat ((with_reducible refine aI ?_ ?_);exact an0)
        refine zW ?_
        obtain ⟨f24,H⟩:=nI H
        refine rg zB ?_
        simp only [go_sem,Nat.reduceLT,Nat.reduceAdd,f24]
        repeat ((with_reducible refine aI ?_ ?_);exact an1)
        refine zW ?_
        obtain ⟨f25,H⟩:=nS H
        obtain ⟨f26,H⟩:=nC H
        obtain ⟨f27,H⟩:=nS H
        obtain ⟨f28,H⟩:=nC H
        refine vA zR zB 3 (by kernel_rfl) (by kernel_rfl) ?_
        intro an han
        simp only [fT,qY,cS,xrD,xoD,dP,qU,List.append_nil,wJ,refs,jN,mask,tK,place,vS,tL,uE,hit,inL,wO,ren,rnN,nrH,nrB,rZ,rS,Nat.sub_self,Nat.add_zero,Nat.zero_add,Nat.reduceSub,Nat.not_lt_zero,Nat.zero_le,Nat.lt_add_one,go_sem,Nat.reduceLeDiff,Nat.reduceLT,Nat.reduceAdd,Nat.reduceSub,Nat.reduceBEq,f25,f27]
        repeat ((with_reducible refine And.intro ?_ ?_);focus (and_intros<;>first|(with_reducible trivial)|(show anB _ _ _=true;subst han;kernel_rfl)|(show (anB _ _ _ && _)=true;subst han;kernel_rfl)|omega|assumption|exact nrc|exact nfc|first|exact rfl|exact trivial|exact tP|exact .inr rfl|exact .inl rfl|exact fun x hx=>absurd hx (by omega)|(intro x hx;(repeat (first|(and_intros<;>(first|exact rfl|exact trivial|exact tP|exact .inr rfl|exact .inl rfl|exact fun x hx=>absurd hx (by omega)))|(exfalso;omega)|(rcases x with _|x)));done)|(refine Fit_app ?_ ?_<;>first|exact tP|(intro x hx;(repeat (first|(and_intros<;>(first|exact rfl|exact trivial|exact tP|exact .inr rfl|exact .inl rfl|exact fun x hx=>absurd hx (by omega)))|(exfalso;omega)|(rcases x with _|x)));done)|(refine Fit_app ?_ ?_<;>first|exact tP|(intro x hx;(repeat (first|(and_intros<;>(first|exact rfl|exact trivial|exact tP|exact .inr rfl|exact .inl rfl|exact fun x hx=>absurd hx (by omega)))|(exfalso;omega)|(rcases x with _|x)));done)))))
        refine zW ?_
        refine rb_mean 7 (wr .i64 ((w5_2.tmod (w4_3.length:Nat))+1)).toNat (w4_3.length - (wr .i64 ((w5_2.tmod (w4_3.length:Nat))+1)).toNat) (by rfl) ?_ ?_
        ·first|omega|(simp only [slb_iff] at *;omega)
        simp only [lC,lN,rbV,rbL,rbH,rbHF,rbB,cond_true,cond_false,Bool.and_true,Bool.false_and,Bool.true_and,Nat.reduceBEq,beq_self_eq_true,Nat.reduceAdd,Nat.zero_add,aC,aN,sub_enR]
        obtain ⟨w29,hw30,H⟩:=bsj H
        have lhw30:w29.length=(w5_2.tmod (w4_3.length:Nat)).toNat+(w4_3.length - (wr .i64 ((w5_2.tmod (w4_3.length:Nat))+1)).toNat):=by rw [← hw30];exact (app_len (show (List.take ((w5_2.tmod (w4_3.length:Nat)).toNat) w4_3).length=(w5_2.tmod (w4_3.length:Nat)).toNat from (by have:w4_3.length=w4_3.length:=cl;rw [List.length_take];omega)) (by have:w4_3.length=w4_3.length:=cl;rw [List.length_take,List.length_drop];omega))
        obtain ⟨w31,hw32,H⟩:=bsj H
        have lhw32:w31.length=w4_3.length - (wr .i64 ((w5_2.tmod (w4_3.length:Nat))+1)).toNat:=by rw [← hw32];exact (by rw [List.length_drop];first|done|omega)
        refine vD (t2:=(.top::.int .i64 w4_1::.ro 1 p2.length false (enR c_i64 p2)::.ptr 0 1 0 0::.top::.top::.ptr 1 0 0 0::.top::.ptr 6 11 0 0::.top::.sl 11 12 0 w29.length false::.int .i64 v2_4::tp 4 (.ptr 8 0 0 0::tp 132 []))) (h2:=[.row 81 1 w1.length (enR c_i64 w1),.lit 84 (.int .u8 0::.int .u8 0::.int .u8 0::.int .u8 0::.int .u8 0::.int .u8 0::.bool false::.bool false::.int .i64 0::.ro 0 0 true (fun _ _=>.top)::.ro 0 0 true (fun _ _=>.top)::.int .u8 0::.int .u8 0::.int .u8 0::.int .u8 0::.int .u8 0::.int .u8 0::.bool false::.bool false::.int .i64 0::.ro 0 0 true (fun _ _=>.top)::.ro 0 0 true (fun _ _=>.top)::.int .u8 0::.int .u8 0::.int .u8 0::.int .u8 0::.int .u8 0::.int .u8 0::.bool false::.bool false::.int .i64 0::.ro 0 0 true (fun _ _=>.top)::.ro 0 0 true (fun _ _=>.top)::.int .u8 0::.int .u8 0::.int .u8 0::.int .u8 0::.int .u8 0::.int .u8 0::.bool false::.bool false::.int .i64 0::.ro 0 0 true (fun _ _=>.top)::.ro 0 0 true (fun _ _=>.top)::.int .u8 0::.int .u8 0::.int .u8 0::.int .u8 0::.int .u8 0::.int .u8 0::.bool false::.bool false::.int .i64 0::.ro 0 0 true (fun _ _=>.top)::.ro 0 0 true (fun _ _=>.top)::.int .u8 0::.int .u8 0::.int .u8 0::.int .u8 0::.int .u8 0::.int .u8 0::.bool false::.bool false::.int .i64 0::.ro 0 0 true (fun _ _=>.top)::.ro 0 0 true (fun _ _=>.top)::.int .u8 0::.int .u8 0::.int .u8 0::.int .u8 0::.int .u8 0::.int .u8 0::.bool false::.bool false::.int .i64 0::.ro 0 0 true (fun _ _=>.top)::.ro 0 0 true (fun _ _=>.top)::.int .u8 0::.int .u8 0::.int .u8 0::.int .u8 0::.int .u8 0::.int .u8 0::.bool false::.bool false::.int .i64 0::.ro 0 0 true (fun _ _=>.top)::.ro 0 0 true (fun _ _=>.top)::[]),.dead,.dead,.dead,.dead,.row 84 11 w4_2.length (enR yA w4_2),.dead,.lit 130 [.int .i64 ((gd w4_3 ((w5_2.tmod (w4_3.length:Nat)).toNat)).to_),.int .i64 ((gd w4_3 ((w5_2.tmod (w4_3.length:Nat)).toNat)).from_),.int .u8 ((((gd w4_3 ((w5_2.tmod (w4_3.length:Nat)).toNat)).w).Root).x0),.int .u8 ((((gd w4_3 ((w5_2.tmod (w4_3.length:Nat)).toNat)).w).Root).x1),.int .u8 ((((gd w4_3 ((w5_2.tmod (w4_3.length:Nat)).toNat)).w).Root).x2),.int .u8 ((((gd w4_3 ((w5_2.tmod (w4_3.length:Nat)).toNat)).w).Root).x3),.int .u8 ((((gd w4_3 ((w5_2.tmod (w4_3.length:Nat)).toNat)).w).Root).x4),.int .u8 ((((gd w4_3 ((w5_2.tmod (w4_3.length:Nat)).toNat)).w).Root).x5),.int .i64 (((gd w4_3 ((w5_2.tmod (w4_3.length:Nat)).toNat)).w).Seq),.int .i64 (((gd w4_3 ((w5_2.tmod (w4_3.length:Nat)).toNat)).w).Hops),.int .i64 (((gd w4_3 ((w5_2.tmod (w4_3.length:Nat)).toNat)).w).Cost),.bool (((gd w4_3 ((w5_2.tmod (w4_3.length:Nat)).toNat)).w).Gate)],.dead,.dead,.row 130 12 w29.length (enR zS w29),.row 130 12 w31.length (enR zS w31)]) ?_ ?_
        ·refine zN ⟨[some 0,some 1,some 2,some 3,some 4,some 5,some 6,some 7,some 8,some 9,some 10,some 11,some 12],?_,?_,by rfl,by rfl⟩
         ·simp [CvL,Cv,yE,tp,lhw30]
         ·exact ⟨zO xN rfl (fun _ _ _ _=>rfl),(by simp [CvB,CvL,Cv,tC,geth]),zD,zD,zD,zD,zO wC rfl (fun _ _ _ _=>rfl),zD,(by simp [CvB,CvL,Cv,tC,geth]),zD,zD,zO yV lhw30 (hw30 ▸ (app_row2 (show (List.take ((w5_2.tmod (w4_3.length:Nat)).toNat) w4_3).length=(w5_2.tmod (w4_3.length:Nat)).toNat from (by have:w4_3.length=w4_3.length:=cl;rw [List.length_take];omega)) (f:=zS) ([] ++ (List.take ((w5_2.tmod (w4_3.length:Nat)).toNat) w4_3)) (List.take (w4_3.length - (wr .i64 ((w5_2.tmod (w4_3.length:Nat))+1)).toNat) (List.drop ((wr .i64 ((w5_2.tmod (w4_3.length:Nat))+1)).toNat) w4_3)) (app_row (f:=zS) [] (List.take ((w5_2.tmod (w4_3.length:Nat)).toNat) w4_3) (vP (f:=zS) [] (fun _ _=>rfl) rfl) (preT_row (L:=w4_3) (n:=(w5_2.tmod (w4_3.length:Nat)).toNat) (fun _ _ _ _=>rfl))) (by first|exact (partT_row (L:=w4_3) (i:=(wr .i64 ((w5_2.tmod (w4_3.length:Nat))+1)).toNat) (n:=(w4_3.length - (wr .i64 ((w5_2.tmod (w4_3.length:Nat))+1)).toNat)) (by have:w4_3.length=w4_3.length:=cl;omega) (fun _ _ _ _=>rfl))|exact (preT_row (L:=(List.drop ((wr .i64 ((w5_2.tmod (w4_3.length:Nat))+1)).toNat) w4_3)) (n:=(w4_3.length - (wr .i64 ((w5_2.tmod (w4_3.length:Nat))+1)).toNat)) (fun _ _ _ _=>rfl))))),zO yV lhw32 (hw32 ▸ (fun _ _ _ _=>rfl)),trivial⟩
        simp only [tp]
        obtain ⟨f33,H⟩:=nI H
        obtain ⟨f34,H⟩:=nI H
        obtain ⟨r35,e36,H⟩:=bsi H
        obtain ⟨f37,H⟩:=nI H
        obtain ⟨f38,H⟩:=nI H
        obtain ⟨f39,H⟩:=zM.1 H
        replace f39:=decide_eq_true_iff.1 f39
        obtain ⟨r40,e41,H⟩:=bsi H
        refine vA zR ct40t3_ok 4 (by kernel_rfl) (by kernel_rfl) ?_
        intro an han
        simp only [fT,qY,cS,xrD,xoD,dP,qU,List.append_nil,wJ,refs,jN,mask,tK,place,vS,tL,uE,hit,inL,wO,ren,jO,rnN,nrH,nrB,nrL,nr,rZ,rS,Nat.sub_self,Nat.add_zero,Nat.zero_add,Nat.reduceSub,Nat.lt_add_one,go_sem,Nat.reduceLeDiff,Nat.reduceLT,Nat.reduceAdd,Nat.reduceSub,Nat.reduceBEq,reduceCtorEq,ct40t3_20,jA,ct40t3_42,vX,f33,f34,e36,f37,f39,e41]
        repeat ((with_reducible refine aI ?_ ?_);exact an3)
        refine zW ?_
        refine sq zB ?_
        simp only [go_sem]
        refine xJ rfl trivial (fun hc=>?_) (fun hc=>?_)
        ·replace H:=yJ hc H
         refine rg zB ?_
         simp only [go_sem,Nat.reduceBEq]
         refine rg zB ?_
         simp only [go_sem]
         refine ⟨_,(Option.some.inj H).symm,?_⟩
         refine zN ⟨[some 0,some 1,some 2,some 3,some 6,some 11],?_,?_,by rfl,by rfl⟩
         ·simp [CvL,Cv,yE]
         ·exact ⟨(zT nfA),cv,zD,zD,zO wC cl (fun _ _ _ _=>rfl),zO yV cl (fun _ _ _ _=>rfl),trivial⟩
        replace H:=yI hc H
        refine rg zB ?_
        simp only [go_sem]
        refine zW ?_
        refine jT ?_
        obtain ⟨f42,H⟩:=nI H
        obtain ⟨f43,H⟩:=nI H
        refine wP zR zB 4 ?_
        simp only [zY,tS,tZ,dS,dZ,go_sem,Nat.reduceLeDiff,Nat.reduceLT,Nat.reduceAdd,Nat.reduceBEq,f42]
        repeat ((with_reducible refine aI ?_ ?_);exact an1)
        refine fzO [13,14] ?_ ?_
        ·simp only [go_sem,Nat.reduceBEq]
         try exact at0
        simp only [go_sem,Nat.reduceBEq,Nat.reduceAdd]
        refine wP zR zB 1 ?_
        simp only [zY,tS,tZ,dS,dZ,go_sem,Nat.reduceAdd]
        repeat ((with_reducible refine aI ?_ ?_);exact an1)
        refine jD ?_
        refine zW ?_
        refine sq zB ?_
        simp only [go_sem]
        refine vE ?_
        refine xQ (fun s:(List Tmessage) × Int=>(.top::.int .i64 w4_1::.ro 1 p2.length false (enR c_i64 p2)::.ptr 0 1 0 0::.top::.top::.ptr 1 0 0 0::.top::.ptr 6 11 0 0::.top::.sl 17 12 0 s.1.length false::.int .i64 v2_4::tp 4 (.ptr 8 0 0 0::.top::.sl 15 10 0 r40.2.1.length false::.top::.int .i64 s.2::tp 128 []))) (fun s=>[.row 81 1 w1.length (enR c_i64 w1),.lit 84 (.int .u8 0::.int .u8 0::.int .u8 0::.int .u8 0::.int .u8 0::.int .u8 0::.bool false::.bool false::.int .i64 0::.ro 0 0 true (fun _ _=>.top)::.ro 0 0 true (fun _ _=>.top)::.int .u8 0::.int .u8 0::.int .u8 0::.int .u8 0::.int .u8 0::.int .u8 0::.bool false::.bool false::.int .i64 0::.ro 0 0 true (fun _ _=>.top)::.ro 0 0 true (fun _ _=>.top)::.int .u8 0::.int .u8 0::.int .u8 0::.int .u8 0::.int .u8 0::.int .u8 0::.bool false::.bool false::.int .i64 0::.ro 0 0 true (fun _ _=>.top)::.ro 0 0 true (fun _ _=>.top)::.int .u8 0::.int .u8 0::.int .u8 0::.int .u8 0::.int .u8 0::.int .u8 0::.bool false::.bool false::.int .i64 0::.ro 0 0 true (fun _ _=>.top)::.ro 0 0 true (fun _ _=>.top)::.int .u8 0::.int .u8 0::.int .u8 0::.int .u8 0::.int .u8 0::.int .u8 0::.bool false::.bool false::.int .i64 0::.ro 0 0 true (fun _ _=>.top)::.ro 0 0 true (fun _ _=>.top)::.int .u8 0::.int .u8 0::.int .u8 0::.int .u8 0::.int .u8 0::.int .u8 0::.bool false::.bool false::.int .i64 0::.ro 0 0 true (fun _ _=>.top)::.ro 0 0 true (fun _ _=>.top)::.int .u8 0::.int .u8 0::.int .u8 0::.int .u8 0::.int .u8 0::.int .u8 0::.bool false::.bool false::.int .i64 0::.ro 0 0 true (fun _ _=>.top)::.ro 0 0 true (fun _ _=>.top)::.int .u8 0::.int .u8 0::.int .u8 0::.int .u8 0::.int .u8 0::.int .u8 0::.bool false::.bool false::.int .i64 0::.ro 0 0 true (fun _ _=>.top)::.ro 0 0 true (fun _ _=>.top)::[]),.dead,.dead,.dead,.dead,.row 84 11 w4_2.length (upc (enR yA w4_2) (((gd w4_3 ((w5_2.tmod (w4_3.length:Nat)).toNat)).to_).toNat) 0 [.int .u8 r40.1.Own.x0,.int .u8 r40.1.Own.x1,.int .u8 r40.1.Own.x2,.int .u8 r40.1.Own.x3,.int .u8 r40.1.Own.x4,.int .u8 r40.1.Own.x5,.bool r40.1.Root,.bool r40.1.Gate,.int .i64 r40.1.Seq,.ro 17 r40.1.Trees.length false (enR zH r40.1.Trees),.ro 13 r40.1.Proxies.length false (enR zC r40.1.Proxies)]),.dead,.lit 130 [.int .i64 ((gd w4_3 ((w5_2.tmod (w4_3.length:Nat)).toNat)).to_),.int .i64 ((gd w4_3 ((w5_2.tmod (w4_3.length:Nat)).toNat)).from_),.int .u8 ((((gd w4_3 ((w5_2.tmod (w4_3.length:Nat)).toNat)).w).Root).x0),.int .u8 ((((gd w4_3 ((w5_2.tmod (w4_3.length:Nat)).toNat)).w).Root).x1),.int .u8 ((((gd w4_3 ((w5_2.tmod (w4_3.length:Nat)).toNat)).w).Root).x2),.int .u8 ((((gd w4_3 ((w5_2.tmod (w4_3.length:Nat)).toNat)).w).Root).x3),.int .u8 ((((gd w4_3 ((w5_2.tmod (w4_3.length:Nat)).toNat)).w).Root).x4),.int .u8 ((((gd w4_3 ((w5_2.tmod (w4_3.length:Nat)).toNat)).w).Root).x5),.int .i64 (((gd w4_3 ((w5_2.tmod (w4_3.length:Nat)).toNat)).w).Seq),.int .i64 (((gd w4_3 ((w5_2.tmod (w4_3.length:Nat)).toNat)).w).Hops),.int .i64 (((gd w4_3 ((w5_2.tmod (w4_3.length:Nat)).toNat)).w).Cost),.bool (((gd w4_3 ((w5_2.tmod (w4_3.length:Nat)).toNat)).w).Gate)],.dead,.dead,.dead,.dead,.dead,.dead,.row 25 10 r40.2.1.length (enR yF r40.2.1),.dead,.row 130 12 s.1.length (enR zS s.1)]) (fun e:List Tmessage=>(.top::.int .i64 w4_1::.ro 1 p2.length false (enR c_i64 p2)::.ptr 0 1 0 0::.top::.top::.ptr 1 0 0 0::.top::.ptr 6 11 0 0::.top::.sl 17 12 0 e.length false::.int .i64 v2_4::tp 137 [])) (fun e=>[.row 81 1 w1.length (enR c_i64 w1),.lit 84 (.int .u8 0::.int .u8 0::.int .u8 0::.int .u8 0::.int .u8 0::.int .u8 0::.bool false::.bool false::.int .i64 0::.ro 0 0 true (fun _ _=>.top)::.ro 0 0 true (fun _ _=>.top)::.int .u8 0::.int .u8 0::.int .u8 0::.int .u8 0::.int .u8 0::.int .u8 0::.bool false::.bool false::.int .i64 0::.ro 0 0 true (fun _ _=>.top)::.ro 0 0 true (fun _ _=>.top)::.int .u8 0::.int .u8 0::.int .u8 0::.int .u8 0::.int .u8 0::.int .u8 0::.bool false::.bool false::.int .i64 0::.ro 0 0 true (fun _ _=>.top)::.ro 0 0 true (fun _ _=>.top)::.int .u8 0::.int .u8 0::.int .u8 0::.int .u8 0::.int .u8 0::.int .u8 0::.bool false::.bool false::.int .i64 0::.ro 0 0 true (fun _ _=>.top)::.ro 0 0 true (fun _ _=>.top)::.int .u8 0::.int .u8 0::.int .u8 0::.int .u8 0::.int .u8 0::.int .u8 0::.bool false::.bool false::.int .i64 0::.ro 0 0 true (fun _ _=>.top)::.ro 0 0 true (fun _ _=>.top)::.int .u8 0::.int .u8 0::.int .u8 0::.int .u8 0::.int .u8 0::.int .u8 0::.bool false::.bool false::.int .i64 0::.ro 0 0 true (fun _ _=>.top)::.ro 0 0 true (fun _ _=>.top)::.int .u8 0::.int .u8 0::.int .u8 0::.int .u8 0::.int .u8 0::.int .u8 0::.bool false::.bool false::.int .i64 0::.ro 0 0 true (fun _ _=>.top)::.ro 0 0 true (fun _ _=>.top)::.int .u8 0::.int .u8 0::.int .u8 0::.int .u8 0::.int .u8 0::.int .u8 0::.bool false::.bool false::.int .i64 0::.ro 0 0 true (fun _ _=>.top)::.ro 0 0 true (fun _ _=>.top)::[]),.dead,.dead,.dead,.dead,.row 84 11 w4_2.length (upc (enR yA w4_2) (((gd w4_3 ((w5_2.tmod (w4_3.length:Nat)).toNat)).to_).toNat) 0 [.int .u8 r40.1.Own.x0,.int .u8 r40.1.Own.x1,.int .u8 r40.1.Own.x2,.int .u8 r40.1.Own.x3,.int .u8 r40.1.Own.x4,.int .u8 r40.1.Own.x5,.bool r40.1.Root,.bool r40.1.Gate,.int .i64 r40.1.Seq,.ro 17 r40.1.Trees.length false (enR zH r40.1.Trees),.ro 13 r40.1.Proxies.length false (enR zC r40.1.Proxies)]),.dead,.dead,.dead,.dead,.dead,.dead,.dead,.dead,.dead,.dead,.row 130 12 e.length (enR zS e)]) H ?_ (fun s o H hn1_6 hn2_6=>?_) (fun w6_3 H=>?_)
        ·refine zN ⟨[some 0,some 1,some 2,some 3,some 4,some 5,some 6,some 7,some 8,some 9,some 10,some 11,some 12,some 13,some 14,some 15,some 16,some 11],?_,?_,by rfl,by rfl⟩
         ·simp [CvL,Cv,yE,tp]
         ·exact ⟨(zT nfA),cv,zD,zD,zD,zD,(zT nfA),zD,cv,zD,zD,zD,zD,zD,zD,(zT nfA),zD,zO yV cl (fun _ _ _ _=>rfl),trivial⟩
        ·obtain ⟨v6_1,v6_2⟩:=s
         unfold F40_L6 at H
         try dsimp only at H ⊢
         try simp only [tp]
         refine zW ?_
         refine sq zB ?_
         simp only [go_sem,Nat.reduceAdd]
         repeat ((with_reducible refine aI ?_ ?_);exact an0)
         refine condM' rfl trivial (fun hc=>?_) (fun hc=>?_)
         ·replace H:=yI hc H
          refine rg zB ?_
          simp only [go_sem,Nat.reduceBEq]
          refine ⟨_,(Option.some.inj H).symm,?_⟩
          refine zN ⟨[some 0,some 1,some 2,some 3,some 4,some 5,some 6,some 7,some 8,some 9,some 10,some 11,some 12,some 13,some 14,some 15,some 16,some 17],?_,?_,by rfl,by rfl⟩
          ·simp [CvL,Cv,yE]
          ·exact ⟨(zT nfA),cv,zD,zD,zD,zD,(zT nfA),zD,zD,zD,zD,zD,zD,zD,zD,zD,zD,zO yV cl (fun _ _ _ _=>rfl),trivial⟩
         replace H:=yJ hc H
         refine rg zB ?_
         simp only [go_sem]
         refine zW ?_
         refine vE ?_
         obtain ⟨f44,H⟩:=zM.1 H
         replace f44:=decide_eq_true_iff.1 f44
         refine toLitM 0 (z:=1) (n:=64) (.int .i64 (gd w1 0)::.int .i64 (gd w1 1)::.int .i64 (gd w1 2)::.int .i64 (gd w1 3)::.int .i64 (gd w1 4)::.int .i64 (gd w1 5)::.int .i64 (gd w1 6)::.int .i64 (gd w1 7)::.int .i64 (gd w1 8)::.int .i64 (gd w1 9)::.int .i64 (gd w1 10)::.int .i64 (gd w1 11)::.int .i64 (gd w1 12)::.int .i64 (gd w1 13)::.int .i64 (gd w1 14)::.int .i64 (gd w1 15)::.int .i64 (gd w1 16)::.int .i64 (gd w1 17)::.int .i64 (gd w1 18)::.int .i64 (gd w1 19)::.int .i64 (gd w1 20)::.int .i64 (gd w1 21)::.int .i64 (gd w1 22)::.int .i64 (gd w1 23)::.int .i64 (gd w1 24)::.int .i64 (gd w1 25)::.int .i64 (gd w1 26)::.int .i64 (gd w1 27)::.int .i64 (gd w1 28)::.int .i64 (gd w1 29)::.int .i64 (gd w1 30)::.int .i64 (gd w1 31)::.int .i64 (gd w1 32)::.int .i64 (gd w1 33)::.int .i64 (gd w1 34)::.int .i64 (gd w1 35)::.int .i64 (gd w1 36)::.int .i64 (gd w1 37)::.int .i64 (gd w1 38)::.int .i64 (gd w1 39)::.int .i64 (gd w1 40)::.int .i64 (gd w1 41)::.int .i64 (gd w1 42)::.int .i64 (gd w1 43)::.int .i64 (gd w1 44)::.int .i64 (gd w1 45)::.int .i64 (gd w1 46)::.int .i64 (gd w1 47)::.int .i64 (gd w1 48)::.int .i64 (gd w1 49)::.int .i64 (gd w1 50)::.int .i64 (gd w1 51)::.int .i64 (gd w1 52)::.int .i64 (gd w1 53)::.int .i64 (gd w1 54)::.int .i64 (gd w1 55)::.int .i64 (gd w1 56)::.int .i64 (gd w1 57)::.int .i64 (gd w1 58)::.int .i64 (gd w1 59)::.int .i64 (gd w1 60)::.int .i64 (gd w1 61)::.int .i64 (gd w1 62)::.int .i64 (gd w1 63)::[]) rfl f44 rfl (by decide) (fun x y hx hy=>(vR (f:=fun x=>c_i64 (gd w1 x)) (n:=64) (fun _=>rfl) x y (by omega) hy).symm) ?_
         simp only [go_sem]
         obtain ⟨f45,H⟩:=nI H
         refine draw_tail zR zB 8 (by kernel_rfl) (by kernel_rfl) (by kernel_rfl) ?_
         simp only [zY,tS,tZ,dS,dZ,go_sem,Nat.reduceLeDiff,Nat.reduceLT,Nat.reduceAdd,f45]
         repeat ((with_reducible refine aI ?_ ?_);exact an0)
         refine ofLitO 0 1 64 w1.length (enR c_i64 w1) (.int .i64 (gd w1 0)::.int .i64 (gd w1 1)::.int .i64 (gd w1 2)::.int .i64 (gd w1 3)::.int .i64 (gd w1 4)::.int .i64 (gd w1 5)::.int .i64 (gd w1 6)::.int .i64 (gd w1 7)::.int .i64 (gd w1 8)::.int .i64 (gd w1 9)::.int .i64 (gd w1 10)::.int .i64 (gd w1 11)::.int .i64 (gd w1 12)::.int .i64 (gd w1 13)::.int .i64 (gd w1 14)::.int .i64 (gd w1 15)::.int .i64 (gd w1 16)::.int .i64 (gd w1 17)::.int .i64 (gd w1 18)::.int .i64 (gd w1 19)::.int .i64 (gd w1 20)::.int .i64 (gd w1 21)::.int .i64 (gd w1 22)::.int .i64 (gd w1 23)::.int .i64 (gd w1 24)::.int .i64 (gd w1 25)::.int .i64 (gd w1 26)::.int .i64 (gd w1 27)::.int .i64 (gd w1 28)::.int .i64 (gd w1 29)::.int .i64 (gd w1 30)::.int .i64 (gd w1 31)::.int .i64 (gd w1 32)::.int .i64 (gd w1 33)::.int .i64 (gd w1 34)::.int .i64 (gd w1 35)::.int .i64 (gd w1 36)::.int .i64 (gd w1 37)::.int .i64 (gd w1 38)::.int .i64 (gd w1 39)::.int .i64 (gd w1 40)::.int .i64 (gd w1 41)::.int .i64 (gd w1 42)::.int .i64 (gd w1 43)::.int .i64 (gd w1 44)::.int .i64 (gd w1 45)::.int .i64 (gd w1 46)::.int .i64 (gd w1 47)::.int .i64 (gd w1 48)::.int .i64 (gd w1 49)::.int .i64 (gd w1 50)::.int .i64 (gd w1 51)::.int .i64 (gd w1 52)::.int .i64 (gd w1 53)::.int .i64 (gd w1 54)::.int .i64 (gd w1 55)::.int .i64 (gd w1 56)::.int .i64 (gd w1 57)::.int .i64 (gd w1 58)::.int .i64 (gd w1 59)::.int .i64 (gd w1 60)::.int .i64 (gd w1 61)::.int .i64 (gd w1 62)::.int .i64 (gd w1 63)::[]) rfl f44 rfl (fun x y hx hy=>(vR (f:=fun x=>c_i64 (gd w1 x)) (n:=64) (fun _=>rfl) x y (by omega) hy).symm) ?_
         simp only [go_sem]
         obtain ⟨r46,e47,H⟩:=bsi H
         refine wP zR ct40t4_ok 2 ?_
         simp only [zY,tS,tZ,dS,dZ,go_sem,Nat.reduceAdd,ct40t4_77,jB,e47]
         repeat ((with_reducible refine aI ?_ ?_);exact an3)
         refine jD ?_
         refine rg zB ?_
         simp only [go_sem]
         refine ⟨_,(Option.some.inj H).symm,?_⟩
         refine zN ⟨[some 0,some 1,some 2,some 3,some 4,some 5,some 6,some 7,some 8,some 9,some 10,some 11,some 12,some 13,some 14,some 15,some 16,some 18],?_,?_,by rfl,by rfl⟩
         ·simp [CvL,Cv,yE]
         ·exact ⟨(zT nfA),cv,zD,zD,zD,zD,(zT nfA),zD,cv,zD,zD,zD,zD,zD,zD,(zT nfA),zD,zO yV cl (fun _ _ _ _=>rfl),trivial⟩
        ·try dsimp only at H ⊢
         try simp only [tp]
         try simp only [xA]
         refine zW ?_
         refine jT ?_
         refine wP zR zB 0 ?_
         simp only [zY,tZ,dZ,go_sem]
         repeat ((with_reducible refine aI ?_ ?_);exact an0)
         obtain ⟨w48,hw49,H⟩:=bsj H
         have lhw49:w48.length=w4_2.length:=by rw [← hw49];exact cl
         refine subO (t2:=(.top::.int .i64 w4_1::.ro 1 p2.length false (enR c_i64 p2)::.ptr 0 1 0 0::.top::.top::.ptr 1 0 0 0::.top::.ptr 6 11 0 0::.top::.sl 17 12 0 w6_3.length false::.int .i64 v2_4::tp 137 [])) (h2:=[.row 81 1 w1.length (enR c_i64 w1),.lit 84 (.int .u8 0::.int .u8 0::.int .u8 0::.int .u8 0::.int .u8 0::.int .u8 0::.bool false::.bool false::.int .i64 0::.ro 0 0 true (fun _ _=>.top)::.ro 0 0 true (fun _ _=>.top)::.int .u8 0::.int .u8 0::.int .u8 0::.int .u8 0::.int .u8 0::.int .u8 0::.bool false::.bool false::.int .i64 0::.ro 0 0 true (fun _ _=>.top)::.ro 0 0 true (fun _ _=>.top)::.int .u8 0::.int .u8 0::.int .u8 0::.int .u8 0::.int .u8 0::.int .u8 0::.bool false::.bool false::.int .i64 0::.ro 0 0 true (fun _ _=>.top)::.ro 0 0 true (fun _ _=>.top)::.int .u8 0::.int .u8 0::.int .u8 0::.int .u8 0::.int .u8 0::.int .u8 0::.bool false::.bool false::.int .i64 0::.ro 0 0 true (fun _ _=>.top)::.ro 0 0 true (fun _ _=>.top)::.int .u8 0::.int .u8 0::.int .u8 0::.int .u8 0::.int .u8 0::.int .u8 0::.bool false::.bool false::.int .i64 0::.ro 0 0 true (fun _ _=>.top)::.ro 0 0 true (fun _ _=>.top)::.int .u8 0::.int .u8 0::.int .u8 0::.int .u8 0::.int .u8 0::.int .u8 0::.bool false::.bool false::.int .i64 0::.ro 0 0 true (fun _ _=>.top)::.ro 0 0 true (fun _ _=>.top)::.int .u8 0::.int .u8 0::.int .u8 0::.int .u8 0::.int .u8 0::.int .u8 0::.bool false::.bool false::.int .i64 0::.ro 0 0 true (fun _ _=>.top)::.ro 0 0 true (fun _ _=>.top)::.int .u8 0::.int .u8 0::.int .u8 0::.int .u8 0::.int .u8 0::.int .u8 0::.bool false::.bool false::.int .i64 0::.ro 0 0 true (fun _ _=>.top)::.ro 0 0 true (fun _ _=>.top)::[]),.dead,.dead,.dead,.dead,.row 84 11 w48.length (enR yA w48),.dead,.dead,.dead,.dead,.dead,.dead,.dead,.dead,.dead,.dead,.row 130 12 w6_3.length (enR zS w6_3)]) ?_ ?_
         ·refine zN ⟨[some 0,some 1,some 2,some 3,some 4,some 5,some 6,some 7,some 8,some 9,some 10,some 11,some 12,some 13,some 14,some 15,some 16,some 17],?_,?_,by rfl,by rfl⟩
          ·simp [CvL,Cv,yE,tp]
          ·exact ⟨zO xN rfl (fun _ _ _ _=>rfl),(by simp [CvB,CvL,Cv,tC,geth]),zD,zD,zD,zD,zO wC lhw49 (hw49 ▸ (uV (f:=yA) w4_2 (((gd w4_3 ((w5_2.tmod (w4_3.length:Nat)).toNat)).to_).toNat) 0 r40.1 (fun _ _ _ _=>rfl) (fun y hy=>match y,hy with|0,_=>rfl|1,_=>rfl|2,_=>rfl|3,_=>rfl|4,_=>rfl|5,_=>rfl|6,_=>rfl|7,_=>rfl|8,_=>rfl|9,_=>rfl|10,_=>rfl|(y+11),h=>absurd h nlt))),zD,zD,zD,zD,zD,zD,zD,zD,zD,zD,zO yV rfl (fun _ _ _ _=>rfl),trivial⟩
         simp only [tp]
         obtain ⟨f50,H⟩:=zM.1 H
         replace f50:=decide_eq_true_iff.1 f50
         refine uO zR zB (b:=6) (z:=11) (n:=8) (cells:=(.int .u8 (((gd w48 0).Own).x0)::.int .u8 (((gd w48 0).Own).x1)::.int .u8 (((gd w48 0).Own).x2)::.int .u8 (((gd w48 0).Own).x3)::.int .u8 (((gd w48 0).Own).x4)::.int .u8 (((gd w48 0).Own).x5)::.bool ((gd w48 0).Root)::.bool ((gd w48 0).Gate)::.int .i64 ((gd w48 0).Seq)::.ro 17 (((gd w48 0).Trees).length) false (enR zH ((gd w48 0).Trees))::.ro 13 (((gd w48 0).Proxies).length) false (enR zC ((gd w48 0).Proxies))::.int .u8 (((gd w48 1).Own).x0)::.int .u8 (((gd w48 1).Own).x1)::.int .u8 (((gd w48 1).Own).x2)::.int .u8 (((gd w48 1).Own).x3)::.int .u8 (((gd w48 1).Own).x4)::.int .u8 (((gd w48 1).Own).x5)::.bool ((gd w48 1).Root)::.bool ((gd w48 1).Gate)::.int .i64 ((gd w48 1).Seq)::.ro 17 (((gd w48 1).Trees).length) false (enR zH ((gd w48 1).Trees))::.ro 13 (((gd w48 1).Proxies).length) false (enR zC ((gd w48 1).Proxies))::.int .u8 (((gd w48 2).Own).x0)::.int .u8 (((gd w48 2).Own).x1)::.int .u8 (((gd w48 2).Own).x2)::.int .u8 (((gd w48 2).Own).x3)::.int .u8 (((gd w48 2).Own).x4)::.int .u8 (((gd w48 2).Own).x5)::.bool ((gd w48 2).Root)::.bool ((gd w48 2).Gate)::.int .i64 ((gd w48 2).Seq)::.ro 17 (((gd w48 2).Trees).length) false (enR zH ((gd w48 2).Trees))::.ro 13 (((gd w48 2).Proxies).length) false (enR zC ((gd w48 2).Proxies))::.int .u8 (((gd w48 3).Own).x0)::.int .u8 (((gd w48 3).Own).x1)::.int .u8 (((gd w48 3).Own).x2)::.int .u8 (((gd w48 3).Own).x3)::.int .u8 (((gd w48 3).Own).x4)::.int .u8 (((gd w48 3).Own).x5)::.bool ((gd w48 3).Root)::.bool ((gd w48 3).Gate)::.int .i64 ((gd w48 3).Seq)::.ro 17 (((gd w48 3).Trees).length) false (enR zH ((gd w48 3).Trees))::.ro 13 (((gd w48 3).Proxies).length) false (enR zC ((gd w48 3).Proxies))::.int .u8 (((gd w48 4).Own).x0)::.int .u8 (((gd w48 4).Own).x1)::.int .u8 (((gd w48 4).Own).x2)::.int .u8 (((gd w48 4).Own).x3)::.int .u8 (((gd w48 4).Own).x4)::.int .u8 (((gd w48 4).Own).x5)::.bool ((gd w48 4).Root)::.bool ((gd w48 4).Gate)::.int .i64 ((gd w48 4).Seq)::.ro 17 (((gd w48 4).Trees).length) false (enR zH ((gd w48 4).Trees))::.ro 13 (((gd w48 4).Proxies).length) false (enR zC ((gd w48 4).Proxies))::.int .u8 (((gd w48 5).Own).x0)::.int .u8 (((gd w48 5).Own).x1)::.int .u8 (((gd w48 5).Own).x2)::.int .u8 (((gd w48 5).Own).x3)::.int .u8 (((gd w48 5).Own).x4)::.int .u8 (((gd w48 5).Own).x5)::.bool ((gd w48 5).Root)::.bool ((gd w48 5).Gate)::.int .i64 ((gd w48 5).Seq)::.ro 17 (((gd w48 5).Trees).length) false (enR zH ((gd w48 5).Trees))::.ro 13 (((gd w48 5).Proxies).length) false (enR zC ((gd w48 5).Proxies))::.int .u8 (((gd w48 6).Own).x0)::.int .u8 (((gd w48 6).Own).x1)::.int .u8 (((gd w48 6).Own).x2)::.int .u8 (((gd w48 6).Own).x3)::.int .u8 (((gd w48 6).Own).x4)::.int .u8 (((gd w48 6).Own).x5)::.bool ((gd w48 6).Root)::.bool ((gd w48 6).Gate)::.int .i64 ((gd w48 6).Seq)::.ro 17 (((gd w48 6).Trees).length) false (enR zH ((gd w48 6).Trees))::.ro 13 (((gd w48 6).Proxies).length) false (enR zC ((gd w48 6).Proxies))::.int .u8 (((gd w48 7).Own).x0)::.int .u8 (((gd w48 7).Own).x1)::.int .u8 (((gd w48 7).Own).x2)::.int .u8 (((gd w48 7).Own).x3)::.int .u8 (((gd w48 7).Own).x4)::.int .u8 (((gd w48 7).Own).x5)::.bool ((gd w48 7).Root)::.bool ((gd w48 7).Gate)::.int .i64 ((gd w48 7).Seq)::.ro 17 (((gd w48 7).Trees).length) false (enR zH ((gd w48 7).Trees))::.ro 13 (((gd w48 7).Proxies).length) false (enR zC ((gd w48 7).Proxies))::[])) rfl rfl rfl rfl (by first|exact trivial|(simp only [go_sem,Nat.reduceLeDiff,Nat.reduceLT,Nat.reduceAdd,Nat.reduceMul,Nat.reduceSub,Nat.reduceEqDiff,Nat.reduceBEq,Int.reduceToNat,reduceCtorEq];done)|simp [og]) rfl f50 (by kernel_rfl) (by kernel_rfl) rfl (by decide) (fun x y hx hy=>(vR (f:=fun x=>yA (gd w48 x)) (n:=8) (fun _=>rfl) x y (by omega) hy).symm) ?_
         simp only [go_sem]
         obtain ⟨r51,e52,H⟩:=bsi H
         refine wP zR ct40t5_ok 2 ?_
         simp only [zY,tS,tZ,dS,dZ,go_sem,Nat.reduceAdd,ct40t5_78,body78,e52]
         repeat ((with_reducible refine aI ?_ ?_);exact an0)
         refine jD ?_
         refine condM' rfl trivial (fun hc=>?_) (fun hc=>?_)
         ·replace H:=yI hc H
          refine rg zB ?_
          simp only [go_sem]
          refine rg zB ?_
          simp only [go_sem]
          refine ⟨_,(Option.some.inj H).symm,?_⟩
          refine zN ⟨[some 0,some 1,some 2,some 3,some 6,some 17],?_,?_,by rfl,by rfl⟩
          ·simp [CvL,Cv,yE]
          ·exact ⟨(zT nfA),cv,zD,zD,zO wC cl (fun _ _ _ _=>rfl),zO yV cl (fun _ _ _ _=>rfl),trivial⟩
         replace H:=yJ hc H
         refine zW ?_
         refine jT ?_
         refine wP zR zB 0 ?_
         simp only [zY,tZ,dZ,go_sem]
         repeat ((with_reducible refine aI ?_ ?_);exact an1)
         obtain ⟨f53,H⟩:=zM.1 H
         replace f53:=decide_eq_true_iff.1 f53
         refine uO zR zB (b:=6) (z:=11) (n:=8) (cells:=(.int .u8 (((gd w48 0).Own).x0)::.int .u8 (((gd w48 0).Own).x1)::.int .u8 (((gd w48 0).Own).x2)::.int .u8 (((gd w48 0).Own).x3)::.int .u8 (((gd w48 0).Own).x4)::.int .u8 (((gd w48 0).Own).x5)::.bool ((gd w48 0).Root)::.bool ((gd w48 0).Gate)::.int .i64 ((gd w48 0).Seq)::.ro 17 (((gd w48 0).Trees).length) false (enR zH ((gd w48 0).Trees))::.ro 13 (((gd w48 0).Proxies).length) false (enR zC ((gd w48 0).Proxies))::.int .u8 (((gd w48 1).Own).x0)::.int .u8 (((gd w48 1).Own).x1)::.int .u8 (((gd w48 1).Own).x2)::.int .u8 (((gd w48 1).Own).x3)::.int .u8 (((gd w48 1).Own).x4)::.int .u8 (((gd w48 1).Own).x5)::.bool ((gd w48 1).Root)::.bool ((gd w48 1).Gate)::.int .i64 ((gd w48 1).Seq)::.ro 17 (((gd w48 1).Trees).length) false (enR zH ((gd w48 1).Trees))::.ro 13 (((gd w48 1).Proxies).length) false (enR zC ((gd w48 1).Proxies))::.int .u8 (((gd w48 2).Own).x0)::.int .u8 (((gd w48 2).Own).x1)::.int .u8 (((gd w48 2).Own).x2)::.int .u8 (((gd w48 2).Own).x3)::.int .u8 (((gd w48 2).Own).x4)::.int .u8 (((gd w48 2).Own).x5)::.bool ((gd w48 2).Root)::.bool ((gd w48 2).Gate)::.int .i64 ((gd w48 2).Seq)::.ro 17 (((gd w48 2).Trees).length) false (enR zH ((gd w48 2).Trees))::.ro 13 (((gd w48 2).Proxies).length) false (enR zC ((gd w48 2).Proxies))::.int .u8 (((gd w48 3).Own).x0)::.int .u8 (((gd w48 3).Own).x1)::.int .u8 (((gd w48 3).Own).x2)::.int .u8 (((gd w48 3).Own).x3)::.int .u8 (((gd w48 3).Own).x4)::.int .u8 (((gd w48 3).Own).x5)::.bool ((gd w48 3).Root)::.bool ((gd w48 3).Gate)::.int .i64 ((gd w48 3).Seq)::.ro 17 (((gd w48 3).Trees).length) false (enR zH ((gd w48 3).Trees))::.ro 13 (((gd w48 3).Proxies).length) false (enR zC ((gd w48 3).Proxies))::.int .u8 (((gd w48 4).Own).x0)::.int .u8 (((gd w48 4).Own).x1)::.int .u8 (((gd w48 4).Own).x2)::.int .u8 (((gd w48 4).Own).x3)::.int .u8 (((gd w48 4).Own).x4)::.int .u8 (((gd w48 4).Own).x5)::.bool ((gd w48 4).Root)::.bool ((gd w48 4).Gate)::.int .i64 ((gd w48 4).Seq)::.ro 17 (((gd w48 4).Trees).length) false (enR zH ((gd w48 4).Trees))::.ro 13 (((gd w48 4).Proxies).length) false (enR zC ((gd w48 4).Proxies))::.int .u8 (((gd w48 5).Own).x0)::.int .u8 (((gd w48 5).Own).x1)::.int .u8 (((gd w48 5).Own).x2)::.int .u8 (((gd w48 5).Own).x3)::.int .u8 (((gd w48 5).Own).x4)::.int .u8 (((gd w48 5).Own).x5)::.bool ((gd w48 5).Root)::.bool ((gd w48 5).Gate)::.int .i64 ((gd w48 5).Seq)::.ro 17 (((gd w48 5).Trees).length) false (enR zH ((gd w48 5).Trees))::.ro 13 (((gd w48 5).Proxies).length) false (enR zC ((gd w48 5).Proxies))::.int .u8 (((gd w48 6).Own).x0)::.int .u8 (((gd w48 6).Own).x1)::.int .u8 (((gd w48 6).Own).x2)::.int .u8 (((gd w48 6).Own).x3)::.int .u8 (((gd w48 6).Own).x4)::.int .u8 (((gd w48 6).Own).x5)::.bool ((gd w48 6).Root)::.bool ((gd w48 6).Gate)::.int .i64 ((gd w48 6).Seq)::.ro 17 (((gd w48 6).Trees).length) false (enR zH ((gd w48 6).Trees))::.ro 13 (((gd w48 6).Proxies).length) false (enR zC ((gd w48 6).Proxies))::.int .u8 (((gd w48 7).Own).x0)::.int .u8 (((gd w48 7).Own).x1)::.int .u8 (((gd w48 7).Own).x2)::.int .u8 (((gd w48 7).Own).x3)::.int .u8 (((gd w48 7).Own).x4)::.int .u8 (((gd w48 7).Own).x5)::.bool ((gd w48 7).Root)::.bool ((gd w48 7).Gate)::.int .i64 ((gd w48 7).Seq)::.ro 17 (((gd w48 7).Trees).length) false (enR zH ((gd w48 7).Trees))::.ro 13 (((gd w48 7).Proxies).length) false (enR zC ((gd w48 7).Proxies))::[])) rfl rfl rfl rfl (by first|exact trivial|(simp only [go_sem,Nat.reduceLeDiff,Nat.reduceLT,Nat.reduceAdd,Nat.reduceMul,Nat.reduceSub,Nat.reduceEqDiff,Nat.reduceBEq,Int.reduceToNat,reduceCtorEq];done)|simp [og]) rfl f53 (by kernel_rfl) (by kernel_rfl) rfl (by decide) (fun x y hx hy=>(vR (f:=fun x=>yA (gd w48 x)) (n:=8) (fun _=>rfl) x y (by omega) hy).symm) ?_
         simp only [go_sem]
         refine wP zR zB 2 ?_
         simp only [zY,tS,tZ,dS,dZ,go_sem,Nat.reduceAdd]
         repeat ((with_reducible refine aI ?_ ?_);exact an1)
         refine jD ?_
         refine rg zB ?_
         simp only [go_sem,Nat.reduceLT,Nat.reduceAdd]
         have H:=hn2_2 _ (Option.some.inj H).symm
         obtain rfl:=Option.some.inj H
         refine ⟨[1],?_,?_,[],?_,?_,rfl⟩
         ·simp only [go_sem]
          try exact at0
         ·simp only [go_sem]
          try exact at0
         ·simp only [go_sem]
          exact vQ (zA (Cv_agg (zA zE (zA zE (zA zE (zA zE (zA zE (zA zE (zA yC (zA yC (zA zE (zA (yS (by simp only [nref])) (zA (yS (by simp only [nref])) (zA zE (zA zE (zA zE (zA zE (zA zE (zA zE (zA yC (zA yC (zA zE (zA (yS (by simp only [nref])) (zA (yS (by simp only [nref])) (zA zE (zA zE (zA zE (zA zE (zA zE (zA zE (zA yC (zA yC (zA zE (zA (yS (by simp only [nref])) (zA (yS (by simp only [nref])) (zA zE (zA zE (zA zE (zA zE (zA zE (zA zE (zA yC (zA yC (zA zE (zA (yS (by simp only [nref])) (zA (yS (by simp only [nref])) (zA zE (zA zE (zA zE (zA zE (zA zE (zA zE (zA yC (zA yC (zA zE (zA (yS (by simp only [nref])) (zA (yS (by simp only [nref])) (zA zE (zA zE (zA zE (zA zE (zA zE (zA zE (zA yC (zA yC (zA zE (zA (yS (by simp only [nref])) (zA (yS (by simp only [nref])) (zA zE (zA zE (zA zE (zA zE (zA zE (zA zE (zA yC (zA yC (zA zE (zA (yS (by simp only [nref])) (zA (yS (by simp only [nref])) (zA zE (zA zE (zA zE (zA zE (zA zE (zA zE (zA yC (zA yC (zA zE (zA (yS (by simp only [nref])) (zA (yS (by simp only [nref])) xU))))))))))))))))))))))))))))))))))))))))))))))))))))))))))))))))))))))))))))))))))))))))) (zA yC xU))
         ·simp only [go_sem,CvH]
    ·try dsimp only at H ⊢
     try simp only [tp]
     try simp only [xA]
     refine zW ?_
     refine jT ?_
     refine wP zR zB 0 ?_
     simp only [zY,tZ,dZ,go_sem]
     repeat ((with_reducible refine aI ?_ ?_);exact an1)
     obtain ⟨f54,H⟩:=zM.1 H
     replace f54:=decide_eq_true_iff.1 f54
     refine uO zR zB (b:=4) (z:=11) (n:=8) (cells:=(.int .u8 (((gd w2_5 0).Own).x0)::.int .u8 (((gd w2_5 0).Own).x1)::.int .u8 (((gd w2_5 0).Own).x2)::.int .u8 (((gd w2_5 0).Own).x3)::.int .u8 (((gd w2_5 0).Own).x4)::.int .u8 (((gd w2_5 0).Own).x5)::.bool ((gd w2_5 0).Root)::.bool ((gd w2_5 0).Gate)::.int .i64 ((gd w2_5 0).Seq)::.ro 17 (((gd w2_5 0).Trees).length) false (enR zH ((gd w2_5 0).Trees))::.ro 13 (((gd w2_5 0).Proxies).length) false (enR zC ((gd w2_5 0).Proxies))::.int .u8 (((gd w2_5 1).Own).x0)::.int .u8 (((gd w2_5 1).Own).x1)::.int .u8 (((gd w2_5 1).Own).x2)::.int .u8 (((gd w2_5 1).Own).x3)::.int .u8 (((gd w2_5 1).Own).x4)::.int .u8 (((gd w2_5 1).Own).x5)::.bool ((gd w2_5 1).Root)::.bool ((gd w2_5 1).Gate)::.int .i64 ((gd w2_5 1).Seq)::.ro 17 (((gd w2_5 1).Trees).length) false (enR zH ((gd w2_5 1).Trees))::.ro 13 (((gd w2_5 1).Proxies).length) false (enR zC ((gd w2_5 1).Proxies))::.int .u8 (((gd w2_5 2).Own).x0)::.int .u8 (((gd w2_5 2).Own).x1)::.int .u8 (((gd w2_5 2).Own).x2)::.int .u8 (((gd w2_5 2).Own).x3)::.int .u8 (((gd w2_5 2).Own).x4)::.int .u8 (((gd w2_5 2).Own).x5)::.bool ((gd w2_5 2).Root)::.bool ((gd w2_5 2).Gate)::.int .i64 ((gd w2_5 2).Seq)::.ro 17 (((gd w2_5 2).Trees).length) false (enR zH ((gd w2_5 2).Trees))::.ro 13 (((gd w2_5 2).Proxies).length) false (enR zC ((gd w2_5 2).Proxies))::.int .u8 (((gd w2_5 3).Own).x0)::.int .u8 (((gd w2_5 3).Own).x1)::.int .u8 (((gd w2_5 3).Own).x2)::.int .u8 (((gd w2_5 3).Own).x3)::.int .u8 (((gd w2_5 3).Own).x4)::.int .u8 (((gd w2_5 3).Own).x5)::.bool ((gd w2_5 3).Root)::.bool ((gd w2_5 3).Gate)::.int .i64 ((gd w2_5 3).Seq)::.ro 17 (((gd w2_5 3).Trees).length) false (enR zH ((gd w2_5 3).Trees))::.ro 13 (((gd w2_5 3).Proxies).length) false (enR zC ((gd w2_5 3).Proxies))::.int .u8 (((gd w2_5 4).Own).x0)::.int .u8 (((gd w2_5 4).Own).x1)::.int .u8 (((gd w2_5 4).Own).x2)::.int .u8 (((gd w2_5 4).Own).x3)::.int .u8 (((gd w2_5 4).Own).x4)::.int .u8 (((gd w2_5 4).Own).x5)::.bool ((gd w2_5 4).Root)::.bool ((gd w2_5 4).Gate)::.int .i64 ((gd w2_5 4).Seq)::.ro 17 (((gd w2_5 4).Trees).length) false (enR zH ((gd w2_5 4).Trees))::.ro 13 (((gd w2_5 4).Proxies).length) false (enR zC ((gd w2_5 4).Proxies))::.int .u8 (((gd w2_5 5).Own).x0)::.int .u8 (((gd w2_5 5).Own).x1)::.int .u8 (((gd w2_5 5).Own).x2)::.int .u8 (((gd w2_5 5).Own).x3)::.int .u8 (((gd w2_5 5).Own).x4)::.int .u8 (((gd w2_5 5).Own).x5)::.bool ((gd w2_5 5).Root)::.bool ((gd w2_5 5).Gate)::.int .i64 ((gd w2_5 5).Seq)::.ro 17 (((gd w2_5 5).Trees).length) false (enR zH ((gd w2_5 5).Trees))::.ro 13 (((gd w2_5 5).Proxies).length) false (enR zC ((gd w2_5 5).Proxies))::.int .u8 (((gd w2_5 6).Own).x0)::.int .u8 (((gd w2_5 6).Own).x1)::.int .u8 (((gd w2_5 6).Own).x2)::.int .u8 (((gd w2_5 6).Own).x3)::.int .u8 (((gd w2_5 6).Own).x4)::.int .u8 (((gd w2_5 6).Own).x5)::.bool ((gd w2_5 6).Root)::.bool ((gd w2_5 6).Gate)::.int .i64 ((gd w2_5 6).Seq)::.ro 17 (((gd w2_5 6).Trees).length) false (enR zH ((gd w2_5 6).Trees))::.ro 13 (((gd w2_5 6).Proxies).length) false (enR zC ((gd w2_5 6).Proxies))::.int .u8 (((gd w2_5 7).Own).x0)::.int .u8 (((gd w2_5 7).Own).x1)::.int .u8 (((gd w2_5 7).Own).x2)::.int .u8 (((gd w2_5 7).Own).x3)::.int .u8 (((gd w2_5 7).Own).x4)::.int .u8 (((gd w2_5 7).Own).x5)::.bool ((gd w2_5 7).Root)::.bool ((gd w2_5 7).Gate)::.int .i64 ((gd w2_5 7).Seq)::.ro 17 (((gd w2_5 7).Trees).length) false (enR zH ((gd w2_5 7).Trees))::.ro 13 (((gd w2_5 7).Proxies).length) false (enR zC ((gd w2_5 7).Proxies))::[])) rfl rfl rfl rfl (by first|exact trivial|(simp only [go_sem,Nat.reduceLeDiff,Nat.reduceLT,Nat.reduceAdd,Nat.reduceMul,Nat.reduceSub,Nat.reduceEqDiff,Nat.reduceBEq,Int.reduceToNat,reduceCtorEq];done)|simp [og]) rfl f54 (by kernel_rfl) (by kernel_rfl) rfl (by decide) (fun x y hx hy=>(vR (f:=fun x=>yA (gd w2_5 x)) (n:=8) (fun _=>rfl) x y (by omega) hy).symm) ?_
     simp only [go_sem]
     refine wP zR zB 2 ?_
     simp only [zY,tS,tZ,dS,dZ,go_sem,Nat.reduceAdd]
     repeat ((with_reducible refine aI ?_ ?_);exact an1)
     refine jD ?_
     refine rg zB ?_
     simp only [go_sem,Nat.reduceLT,Nat.reduceAdd]
     obtain rfl:=Option.some.inj H
     refine ⟨[1],?_,?_,[],?_,?_,rfl⟩
     ·simp only [go_sem]
      try exact at0
     ·simp only [go_sem]
      try exact at0
     ·simp only [go_sem]
      exact vQ (zA (Cv_agg (zA zE (zA zE (zA zE (zA zE (zA zE (zA zE (zA yC (zA yC (zA zE (zA (yS (by simp only [nref])) (zA (yS (by simp only [nref])) (zA zE (zA zE (zA zE (zA zE (zA zE (zA zE (zA yC (zA yC (zA zE (zA (yS (by simp only [nref])) (zA (yS (by simp only [nref])) (zA zE (zA zE (zA zE (zA zE (zA zE (zA zE (zA yC (zA yC (zA zE (zA (yS (by simp only [nref])) (zA (yS (by simp only [nref])) (zA zE (zA zE (zA zE (zA zE (zA zE (zA zE (zA yC (zA yC (zA zE (zA (yS (by simp only [nref])) (zA (yS (by simp only [nref])) (zA zE (zA zE (zA zE (zA zE (zA zE (zA zE (zA yC (zA yC (zA zE (zA (yS (by simp only [nref])) (zA (yS (by simp only [nref])) (zA zE (zA zE (zA zE (zA zE (zA zE (zA zE (zA yC (zA yC (zA zE (zA (yS (by simp only [nref])) (zA (yS (by simp only [nref])) (zA zE (zA zE (zA zE (zA zE (zA zE (zA zE (zA yC (zA yC (zA zE (zA (yS (by simp only [nref])) (zA (yS (by simp only [nref])) (zA zE (zA zE (zA zE (zA zE (zA zE (zA zE (zA yC (zA yC (zA zE (zA (yS (by simp only [nref])) (zA (yS (by simp only [nref])) xU))))))))))))))))))))))))))))))))))))))))))))))))))))))))))))))))))))))))))))))))))))))))) (zA yC xU))
     ·simp only [go_sem,CvH]
  ·cases hb
 ·unfold cE at hb
  split at hb<;>cases hb
noncomputable def F41_L1 (v1_1:List Int) (v1_2:Int):Option (Lp ((List Int) × Int) ((List Int) ⊕ (A8i64))) :=
 bif (bLt v1_2 8) then (need (inb v1_2 8) <| need (inb v1_2 v1_1.length) <| some (.next ((v1_1.set v1_2.toNat (-1)),wr .i64 (v1_2+1)))) else (some (.done (.inl v1_1)))
noncomputable def F41_L4 (w1:List Int) (v3_2:Int) (v4_1:List Int) (v4_2:Int):Option (Lp ((List Int) × Int) ((List Int) ⊕ (A8i64))) :=
 bif (bLt v4_2 8) then (need (inb v3_2 8) <| need (inb v3_2 v4_1.length) <| need (bif (bLe 0 (gd v4_1 v3_2.toNat)) then inb v3_2 8 else true) <| need (bif (bLe 0 (gd v4_1 v3_2.toNat)) then inb v4_2 8 else true) <| need (bif (bLe 0 (gd v4_1 v3_2.toNat)) then decide (v3_2.toNat * 8+v4_2.toNat < w1.length) else true) <| need (bif ((bLe 0 (gd v4_1 v3_2.toNat)) && (bLt 0 (gd w1 (v3_2.toNat * 8+v4_2.toNat)))) then inb v4_2 8 else true) <| need (bif ((bLe 0 (gd v4_1 v3_2.toNat)) && (bLt 0 (gd w1 (v3_2.toNat * 8+v4_2.toNat)))) then inb v4_2 v4_1.length else true) <| need (bif (((bLe 0 (gd v4_1 v3_2.toNat)) && (bLt 0 (gd w1 (v3_2.toNat * 8+v4_2.toNat)))) && (!(bLt (gd v4_1 v4_2.toNat) 0))) then inb v3_2 8 else true) <| need (bif (((bLe 0 (gd v4_1 v3_2.toNat)) && (bLt 0 (gd w1 (v3_2.toNat * 8+v4_2.toNat)))) && (!(bLt (gd v4_1 v4_2.toNat) 0))) then inb v3_2 v4_1.length else true) <| need (bif (((bLe 0 (gd v4_1 v3_2.toNat)) && (bLt 0 (gd w1 (v3_2.toNat * 8+v4_2.toNat)))) && (!(bLt (gd v4_1 v4_2.toNat) 0))) then inb v3_2 8 else true) <| need (bif (((bLe 0 (gd v4_1 v3_2.toNat)) && (bLt 0 (gd w1 (v3_2.toNat * 8+v4_2.toNat)))) && (!(bLt (gd v4_1 v4_2.toNat) 0))) then inb v4_2 8 else true) <| need (bif (((bLe 0 (gd v4_1 v3_2.toNat)) && (bLt 0 (gd w1 (v3_2.toNat * 8+v4_2.toNat)))) && (!(bLt (gd v4_1 v4_2.toNat) 0))) then decide (v3_2.toNat * 8+v4_2.toNat < w1.length) else true) <| need (bif (((bLe 0 (gd v4_1 v3_2.toNat)) && (bLt 0 (gd w1 (v3_2.toNat * 8+v4_2.toNat)))) && (!(bLt (gd v4_1 v4_2.toNat) 0))) then inb v4_2 8 else true) <| need (bif (((bLe 0 (gd v4_1 v3_2.toNat)) && (bLt 0 (gd w1 (v3_2.toNat * 8+v4_2.toNat)))) && (!(bLt (gd v4_1 v4_2.toNat) 0))) then inb v4_2 v4_1.length else true) <| bif (((bLe 0 (gd v4_1 v3_2.toNat)) && (bLt 0 (gd w1 (v3_2.toNat * 8+v4_2.toNat)))) && ((bLt (gd v4_1 v4_2.toNat) 0) || (bLt (wr .i64 ((gd v4_1 v3_2.toNat)+(gd w1 (v3_2.toNat * 8+v4_2.toNat)))) (gd v4_1 v4_2.toNat)))) then (need (inb v3_2 8) <| need (inb v3_2 v4_1.length) <| need (inb v3_2 8) <| need (inb v4_2 8) <| need (decide (v3_2.toNat * 8+v4_2.toNat < w1.length)) <| need (inb v4_2 8) <| need (inb v4_2 v4_1.length) <| some (.next ((v4_1.set v4_2.toNat (wr .i64 ((gd v4_1 v3_2.toNat)+(gd w1 (v3_2.toNat * 8+v4_2.toNat))))),wr .i64 (v4_2+1)))) else (some (.next (v4_1,wr .i64 (v4_2+1))))) else (some (.done (.inl v4_1)))
noncomputable def F41_L3 (w1:List Int) (v3_1:List Int) (v3_2:Int):Option (Lp ((List Int) × Int) ((List Int) ⊕ (A8i64))) :=
 bif (bLt v3_2 8) then (lp (yP (fun s=>F41_L4 w1 v3_2 s.1 s.2) (v3_1,0)) (fun w4_3=>some (.next (w4_3,wr .i64 (v3_2+1)))) (fun r=>some (.done (.inr r)))) else (some (.done (.inl v3_1)))
noncomputable def F41_L2 (w1:List Int) (v2_1:List Int) (v2_2:Int):Option (Lp ((List Int) × Int) ((List Int) ⊕ (A8i64))) :=
 bif (bLt v2_2 8) then (lp (yP (fun s=>F41_L3 w1 s.1 s.2) (v2_1,0)) (fun w3_3=>some (.next (w3_3,wr .i64 (v2_2+1)))) (fun r=>some (.done (.inr r)))) else (some (.done (.inl v2_1)))
noncomputable def F41 (p0:A8A8i64):Option (A8i64) :=
 (some [p0.x0.x0,p0.x0.x1,p0.x0.x2,p0.x0.x3,p0.x0.x4,p0.x0.x5,p0.x0.x6,p0.x0.x7,p0.x1.x0,p0.x1.x1,p0.x1.x2,p0.x1.x3,p0.x1.x4,p0.x1.x5,p0.x1.x6,p0.x1.x7,p0.x2.x0,p0.x2.x1,p0.x2.x2,p0.x2.x3,p0.x2.x4,p0.x2.x5,p0.x2.x6,p0.x2.x7,p0.x3.x0,p0.x3.x1,p0.x3.x2,p0.x3.x3,p0.x3.x4,p0.x3.x5,p0.x3.x6,p0.x3.x7,p0.x4.x0,p0.x4.x1,p0.x4.x2,p0.x4.x3,p0.x4.x4,p0.x4.x5,p0.x4.x6,p0.x4.x7,p0.x5.x0,p0.x5.x1,p0.x5.x2,p0.x5.x3,p0.x5.x4,p0.x5.x5,p0.x5.x6,p0.x5.x7,p0.x6.x0,p0.x6.x1,p0.x6.x2,p0.x6.x3,p0.x6.x4,p0.x6.x5,p0.x6.x6,p0.x6.x7,p0.x7.x0,p0.x7.x1,p0.x7.x2,p0.x7.x3,p0.x7.x4,p0.x7.x5,p0.x7.x6,p0.x7.x7]).bind fun w1=>(some (List.replicate 8 0:List Int)).bind fun w3=>lp (yP (fun s=>F41_L1 s.1 s.2) (w3,1)) (fun w1_3=>lp (yP (fun s=>F41_L2 w1 s.1 s.2) (w1_3,0)) (fun w2_3=>need (decide (w2_3.length=8)) <| some (A8i64.mk (gd w2_3 0) (gd w2_3 1) (gd w2_3 2) (gd w2_3 3) (gd w2_3 4) (gd w2_3 5) (gd w2_3 6) (gd w2_3 7))) some) some
noncomputable def body41:List AV->AR
 | [v0]=>.pure (aK 64 vC v0/\(F41 (g_A8A8i64 (aL v0))).isSome=true) (.agg [.int .i64 ((gt (F41 (g_A8A8i64 (aL v0)))).x0),.int .i64 ((gt (F41 (g_A8A8i64 (aL v0)))).x1),.int .i64 ((gt (F41 (g_A8A8i64 (aL v0)))).x2),.int .i64 ((gt (F41 (g_A8A8i64 (aL v0)))).x3),.int .i64 ((gt (F41 (g_A8A8i64 (aL v0)))).x4),.int .i64 ((gt (F41 (g_A8A8i64 (aL v0)))).x5),.int .i64 ((gt (F41 (g_A8A8i64 (aL v0)))).x6),.int .i64 ((gt (F41 (g_A8A8i64 (aL v0)))).x7)])
 | _=>.fail
theorem ok41:wS Try.prog 41 (yD body41):=by
 refine xH body41 (rs:=[.cell 2 80]) Try.func41 (by kernel_rfl) rfl rfl ?_
 intro l ob v hb hob
 unfold body41 at hb
 split at hb
 ·rename_i v0
  injection hb with q1 q2;subst q1 q2
  obtain ⟨hk0_0,hob⟩:=hob
  obtain ⟨r,H⟩:=oE.1 hob
  rw [H,zU]
  have hw0:=jQ hk0_0
  generalize g_A8A8i64 (aL v0)=p0 at H hw0
  refine ⟨[.agg (.int .i64 p0.x0.x0::.int .i64 p0.x0.x1::.int .i64 p0.x0.x2::.int .i64 p0.x0.x3::.int .i64 p0.x0.x4::.int .i64 p0.x0.x5::.int .i64 p0.x0.x6::.int .i64 p0.x0.x7::.int .i64 p0.x1.x0::.int .i64 p0.x1.x1::.int .i64 p0.x1.x2::.int .i64 p0.x1.x3::.int .i64 p0.x1.x4::.int .i64 p0.x1.x5::.int .i64 p0.x1.x6::.int .i64 p0.x1.x7::.int .i64 p0.x2.x0::.int .i64 p0.x2.x1::.int .i64 p0.x2.x2::.int .i64 p0.x2.x3::.int .i64 p0.x2.x4::.int .i64 p0.x2.x5::.int .i64 p0.x2.x6::.int .i64 p0.x2.x7::.int .i64 p0.x3.x0::.int .i64 p0.x3.x1::.int .i64 p0.x3.x2::.int .i64 p0.x3.x3::.int .i64 p0.x3.x4::.int .i64 p0.x3.x5::.int .i64 p0.x3.x6::.int .i64 p0.x3.x7::.int .i64 p0.x4.x0::.int .i64 p0.x4.x1::.int .i64 p0.x4.x2::.int .i64 p0.x4.x3::.int .i64 p0.x4.x4::.int .i64 p0.x4.x5::.int .i64 p0.x4.x6::.int .i64 p0.x4.x7::.int .i64 p0.x5.x0::.int .i64 p0.x5.x1::.int .i64 p0.x5.x2::.int .i64 p0.x5.x3::.int .i64 p0.x5.x4::.int .i64 p0.x5.x5::.int .i64 p0.x5.x6::.int .i64 p0.x5.x7::.int .i64 p0.x6.x0::.int .i64 p0.x6.x1::.int .i64 p0.x6.x2::.int .i64 p0.x6.x3::.int .i64 p0.x6.x4::.int .i64 p0.x6.x5::.int .i64 p0.x6.x6::.int .i64 p0.x6.x7::.int .i64 p0.x7.x0::.int .i64 p0.x7.x1::.int .i64 p0.x7.x2::.int .i64 p0.x7.x3::.int .i64 p0.x7.x4::.int .i64 p0.x7.x5::.int .i64 p0.x7.x6::.int .i64 p0.x7.x7::[])],_,(fun E vs F=>yU hw0.1 F (fun vs F=>F)),rfl,rfl,?_⟩
  rw [Try.ntmps41]
  simp only [lC,lN,Nat.reduceAdd,Nat.reduceSub,rS,rZ,aC,aN]
  unfold F41 at H
  refine zW ?_
  refine jT ?_
  refine wP zR zB 0 ?_
  simp only [zY,tZ,dZ,go_sem]
  refine dA zR zB (len:=64) (z:=1) rfl rfl rfl rfl (by first|exact trivial|(simp only [go_sem,Nat.reduceLeDiff,Nat.reduceLT,Nat.reduceAdd,Nat.reduceMul,Nat.reduceSub,Nat.reduceEqDiff,Nat.reduceBEq,Int.reduceToNat,reduceCtorEq];done)|simp [og]) rfl ?_
  simp only [go_sem]
  refine wP zR zB 1 ?_
  simp only [zY,tS,tZ,dS,dZ,go_sem]
  refine jD ?_
  refine zW ?_
  obtain ⟨w1,hw2,H⟩:=bsj H
  have lhw2:w1.length=64:=by rw [← hw2];exact (by first|rfl|simp)
  refine vD (t2:=(.top::.ptr 0 1 0 0::.ptr 1 0 0 0::tp 68 [])) (h2:=[.row 81 1 w1.length (enR c_i64 w1),.lit 80 [.int .i64 0,.int .i64 0,.int .i64 0,.int .i64 0,.int .i64 0,.int .i64 0,.int .i64 0,.int .i64 0]]) ?_ ?_
  ·refine zN ⟨[some 0,some 1],?_,?_,by rfl,by rfl⟩
   ·simp [CvL,Cv,yE,tp]
   ·exact ⟨zO xN lhw2 (hw2 ▸ (vP (f:=c_i64) [p0.x0.x0,p0.x0.x1,p0.x0.x2,p0.x0.x3,p0.x0.x4,p0.x0.x5,p0.x0.x6,p0.x0.x7,p0.x1.x0,p0.x1.x1,p0.x1.x2,p0.x1.x3,p0.x1.x4,p0.x1.x5,p0.x1.x6,p0.x1.x7,p0.x2.x0,p0.x2.x1,p0.x2.x2,p0.x2.x3,p0.x2.x4,p0.x2.x5,p0.x2.x6,p0.x2.x7,p0.x3.x0,p0.x3.x1,p0.x3.x2,p0.x3.x3,p0.x3.x4,p0.x3.x5,p0.x3.x6,p0.x3.x7,p0.x4.x0,p0.x4.x1,p0.x4.x2,p0.x4.x3,p0.x4.x4,p0.x4.x5,p0.x4.x6,p0.x4.x7,p0.x5.x0,p0.x5.x1,p0.x5.x2,p0.x5.x3,p0.x5.x4,p0.x5.x5,p0.x5.x6,p0.x5.x7,p0.x6.x0,p0.x6.x1,p0.x6.x2,p0.x6.x3,p0.x6.x4,p0.x6.x5,p0.x6.x6,p0.x6.x7,p0.x7.x0,p0.x7.x1,p0.x7.x2,p0.x7.x3,p0.x7.x4,p0.x7.x5,p0.x7.x6,p0.x7.x7] (fun _ _=>rfl) rfl)),(by simp [CvB,CvL,Cv,tC,geth]),trivial⟩
  simp only [tp]
  refine jT ?_
  refine wP zR zB 0 ?_
  simp only [zY,tZ,dZ,go_sem]
  obtain ⟨w3,hw4,H⟩:=bsj H
  have lhw4:w3.length=8:=by rw [← hw4];exact List.length_replicate
  refine allocO zR zB (len:=w3.length) (z:=1) (l:=(List.replicate 8 (c_i64 0)).flatten) (c:=enR c_i64 w3) rfl rfl rfl (by kernel_rfl) (by rw [lhw4];exact flat_len) (fun x y hx hy=>by subst hw4;exact arr_rep rfl x y (by simpa using hx) hy) ?_
  simp only [go_sem,Nat.reduceAdd]
  refine wP zR zB 0 ?_
  simp only [zY,tZ,dZ,go_sem]
  refine jD ?_
  refine zW ?_
  refine sq zB ?_
  simp only [go_sem]
  refine vE ?_
  refine xQ (fun s:(List Int) × Int=>(.top::.ptr 0 1 0 0::.ptr 1 0 0 0::.ptr 3 1 0 0::.int .i64 s.2::tp 66 [])) (fun s=>[.row 81 1 w1.length (enR c_i64 w1),.lit 80 [.int .i64 0,.int .i64 0,.int .i64 0,.int .i64 0,.int .i64 0,.int .i64 0,.int .i64 0,.int .i64 0],.dead,.row 80 1 s.1.length (enR c_i64 s.1)]) (fun e:List Int=>(.top::.ptr 0 1 0 0::.ptr 1 0 0 0::.ptr 3 1 0 0::tp 67 [])) (fun e=>[.row 81 1 w1.length (enR c_i64 w1),.lit 80 [.int .i64 0,.int .i64 0,.int .i64 0,.int .i64 0,.int .i64 0,.int .i64 0,.int .i64 0,.int .i64 0],.dead,.row 80 1 e.length (enR c_i64 e)]) H ?_ (fun s o H hn1_1 hn2_1=>?_) (fun w1_3 H=>?_)
  ·refine zN ⟨[some 0,some 1,some 2,some 2],?_,?_,by rfl,by rfl⟩
   ·simp [CvL,Cv,yE,tp]
   ·exact ⟨(zT nfA),cv,zD,zO xN cl (fun _ _ _ _=>rfl),trivial⟩
  ·obtain ⟨v1_1,v1_2⟩:=s
   unfold F41_L1 at H
   try dsimp only at H ⊢
   try simp only [tp]
   refine zW ?_
   refine sq zB ?_
   simp only [go_sem,Nat.reduceAdd]
   refine condM' rfl trivial (fun hc=>?_) (fun hc=>?_)
   ·replace H:=yI hc H
    refine rg zB ?_
    simp only [go_sem]
    refine ⟨_,(Option.some.inj H).symm,?_⟩
    refine zN ⟨[some 0,some 1,some 2,some 3],?_,?_,by rfl,by rfl⟩
    ·simp [CvL,Cv,yE]
    ·exact ⟨(zT nfA),cv,zD,zO xN cl (fun _ _ _ _=>rfl),trivial⟩
   replace H:=yJ hc H
   refine rg zB ?_
   simp only [go_sem]
   refine zW ?_
   refine vE ?_
   obtain ⟨f5,H⟩:=nI H
   obtain ⟨f6,H⟩:=nI H
   refine rg zB ?_
   simp only [go_sem,f5,f6]
   repeat ((with_reducible refine aI ?_ ?_);exact an1)
   refine rg zB ?_
   simp only [go_sem]
   refine ⟨_,(Option.some.inj H).symm,?_⟩
   refine zN ⟨[some 0,some 1,some 2,some 3],?_,?_,by rfl,by rfl⟩
   ·simp [CvL,Cv,yE]
   ·exact ⟨(zT nfA),cv,zD,zO xN cl (uV (f:=c_i64) v1_1 v1_2.toNat 0 (-1) (fun _ _ _ _=>rfl) (fun y hy=>match y,hy with|0,_=>rfl|(y+1),h=>absurd h nlt)),trivial⟩
  ·try dsimp only at H ⊢
   try simp only [tp]
   try simp only [xA]
   refine zW ?_
   refine sq zB ?_
   simp only [go_sem]
   refine vE ?_
   refine xQ (fun s:(List Int) × Int=>(.top::.ptr 0 1 0 0::.ptr 1 0 0 0::.ptr 4 1 0 0::.top::.int .i64 s.2::tp 65 [])) (fun s=>[.row 81 1 w1.length (enR c_i64 w1),.lit 80 [.int .i64 0,.int .i64 0,.int .i64 0,.int .i64 0,.int .i64 0,.int .i64 0,.int .i64 0,.int .i64 0],.dead,.dead,.row 80 1 s.1.length (enR c_i64 s.1)]) (fun e:List Int=>(.top::.top::.ptr 1 0 0 0::.ptr 4 1 0 0::tp 67 [])) (fun e=>[.dead,.lit 80 [.int .i64 0,.int .i64 0,.int .i64 0,.int .i64 0,.int .i64 0,.int .i64 0,.int .i64 0,.int .i64 0],.dead,.dead,.row 80 1 e.length (enR c_i64 e)]) H ?_ (fun s o H hn1_2 hn2_2=>?_) (fun w2_3 H=>?_)
   ·refine zN ⟨[some 0,some 1,some 2,some 3,some 3],?_,?_,by rfl,by rfl⟩
    ·simp [CvL,Cv,yE,tp]
    ·exact ⟨(zT nfA),cv,zD,zD,zO xN cl (fun _ _ _ _=>rfl),trivial⟩
   ·obtain ⟨v2_1,v2_2⟩:=s
    unfold F41_L2 at H
    try simp only [tp]
    refine zW ?_
    refine sq zB ?_
    simp only [go_sem,Nat.reduceAdd]
    refine condM' rfl trivial (fun hc=>?_) (fun hc=>?_)
    ·replace H:=yI hc H
     refine rg zB ?_
     simp only [go_sem]
     refine ⟨_,(Option.some.inj H).symm,?_⟩
     refine zN ⟨[some 0,some 1,some 2,some 3,some 4],?_,?_,by rfl,by rfl⟩
     ·simp [CvL,Cv,yE]
     ·exact ⟨zD,cv,zD,zD,zO xN cl (fun _ _ _ _=>rfl),trivial⟩
    replace H:=yJ hc H
    refine rg zB ?_
    simp only [go_sem]
    refine zW ?_
    refine vE ?_
    refine sq zB ?_
    simp only [go_sem]
    refine vE ?_
    refine xQ (fun s:(List Int) × Int=>(.top::.ptr 0 1 0 0::.ptr 1 0 0 0::.ptr 5 1 0 0::.top::.int .i64 v2_2::.int .i64 s.2::tp 64 [])) (fun s=>[.row 81 1 w1.length (enR c_i64 w1),.lit 80 [.int .i64 0,.int .i64 0,.int .i64 0,.int .i64 0,.int .i64 0,.int .i64 0,.int .i64 0,.int .i64 0],.dead,.dead,.dead,.row 80 1 s.1.length (enR c_i64 s.1)]) (fun e:List Int=>(.top::.ptr 0 1 0 0::.ptr 1 0 0 0::.ptr 5 1 0 0::.top::.int .i64 v2_2::tp 65 [])) (fun e=>[.row 81 1 w1.length (enR c_i64 w1),.lit 80 [.int .i64 0,.int .i64 0,.int .i64 0,.int .i64 0,.int .i64 0,.int .i64 0,.int .i64 0,.int .i64 0],.dead,.dead,.dead,.row 80 1 e.length (enR c_i64 e)]) H ?_ (fun s o H hn1_3 hn2_3=>?_) (fun w3_3 H=>?_)
    ·refine zN ⟨[some 0,some 1,some 2,some 3,some 4,some 4],?_,?_,by rfl,by rfl⟩
     ·simp [CvL,Cv,yE,tp]
     ·exact ⟨(zT nfA),cv,zD,zD,zD,zO xN cl (fun _ _ _ _=>rfl),trivial⟩
    ·obtain ⟨v3_1,v3_2⟩:=s
     unfold F41_L3 at H
     try simp only [tp]
     refine zW ?_
     refine sq zB ?_
     simp only [go_sem,Nat.reduceAdd]
     refine condM' rfl trivial (fun hc=>?_) (fun hc=>?_)
     ·replace H:=yI hc H
      refine rg zB ?_
      simp only [go_sem,Nat.reduceBEq]
      refine ⟨_,(Option.some.inj H).symm,?_⟩
      refine zN ⟨[some 0,some 1,some 2,some 3,some 4,some 5],?_,?_,by rfl,by rfl⟩
      ·simp [CvL,Cv,yE]
      ·exact ⟨(zT nfA),cv,zD,zD,zD,zO xN cl (fun _ _ _ _=>rfl),trivial⟩
     replace H:=yJ hc H
     refine rg zB ?_
     simp only [go_sem]
     refine zW ?_
     refine vE ?_
     refine sq zB ?_
     simp only [go_sem]
     refine vE ?_
     refine xQ (fun s:(List Int) × Int=>(.top::.ptr 0 1 0 0::.ptr 1 0 0 0::.ptr 6 1 0 0::.top::.int .i64 v2_2::.int .i64 v3_2::.int .i64 s.2::tp 63 [])) (fun s=>[.row 81 1 w1.length (enR c_i64 w1),.lit 80 [.int .i64 0,.int .i64 0,.int .i64 0,.int .i64 0,.int .i64 0,.int .i64 0,.int .i64 0,.int .i64 0],.dead,.dead,.dead,.dead,.row 80 1 s.1.length (enR c_i64 s.1)]) (fun e:List Int=>(.top::.ptr 0 1 0 0::.ptr 1 0 0 0::.ptr 6 1 0 0::.top::.int .i64 v2_2::.int .i64 v3_2::tp 64 [])) (fun e=>[.row 81 1 w1.length (enR c_i64 w1),.lit 80 [.int .i64 0,.int .i64 0,.int .i64 0,.int .i64 0,.int .i64 0,.int .i64 0,.int .i64 0,.int .i64 0],.dead,.dead,.dead,.dead,.row 80 1 e.length (enR c_i64 e)]) H ?_ (fun s o H hn1_4 hn2_4=>?_) (fun w4_3 H=>?_)
     ·refine zN ⟨[some 0,some 1,some 2,some 3,some 4,some 5,some 5],?_,?_,by rfl,by rfl⟩
      ·simp [CvL,Cv,yE,tp]
      ·exact ⟨(zT nfA),cv,zD,zD,zD,zD,zO xN cl (fun _ _ _ _=>rfl),trivial⟩
     ·obtain ⟨v4_1,v4_2⟩:=s
      unfold F41_L4 at H
      try simp only [tp]
      refine zW ?_
      refine sq zB ?_
      simp only [go_sem,Nat.reduceAdd]
      refine condM' rfl trivial (fun hc=>?_) (fun hc=>?_)
      ·replace H:=yI hc H
       refine rg zB ?_
       simp only [go_sem,Nat.reduceBEq]
       refine ⟨_,(Option.some.inj H).symm,?_⟩
       refine zN ⟨[some 0,some 1,some 2,some 3,some 4,some 5,some 6],?_,?_,by rfl,by rfl⟩
       ·simp [CvL,Cv,yE]
       ·exact ⟨(zT nfA),cv,zD,zD,zD,zD,zO xN cl (fun _ _ _ _=>rfl),trivial⟩
      replace H:=yJ hc H
      refine rg zB ?_
      simp only [go_sem]
      refine zW ?_
      refine vE ?_
      refine zW ?_
      obtain ⟨f7,H⟩:=nI H
      obtain ⟨f8,H⟩:=nI H
      obtain ⟨f9,H⟩:=zM.1 H
      replace f9:=xX.1 f9
      replace f9:=fun g=>yX.1 (f9 g)
      obtain ⟨f10,H⟩:=zM.1 H
      replace f10:=xX.1 f10
      replace f10:=fun g=>yX.1 (f10 g)
      obtain ⟨f11,H⟩:=zM.1 H
      replace f11:=xX.1 f11
      replace f11:=fun g=>decide_eq_true_iff.1 (f11 g)
      obtain ⟨f12,H⟩:=zM.1 H
      replace f12:=xX.1 f12
      replace f12:=fun g=>yX.1 (f12 g)
      obtain ⟨f13,H⟩:=zM.1 H
      replace f13:=xX.1 f13
      replace f13:=fun g=>yX.1 (f13 g)
      obtain ⟨f14,H⟩:=zM.1 H
      replace f14:=xX.1 f14
      replace f14:=fun g=>yX.1 (f14 g)
      obtain ⟨f15,H⟩:=zM.1 H
      replace f15:=xX.1 f15
      replace f15:=fun g=>yX.1 (f15 g)
      obtain ⟨f16,H⟩:=zM.1 H
      replace f16:=xX.1 f16
      replace f16:=fun g=>yX.1 (f16 g)
      obtain ⟨f17,H⟩:=zM.1 H
      replace f17:=xX.1 f17
      replace f17:=fun g=>yX.1 (f17 g)
      obtain ⟨f18,H⟩:=zM.1 H
      replace f18:=xX.1 f18
      replace f18:=fun g=>decide_eq_true_iff.1 (f18 g)
      obtain ⟨f19,H⟩:=zM.1 H
      replace f19:=xX.1 f19
      replace f19:=fun g=>yX.1 (f19 g)
      obtain ⟨f20,H⟩:=zM.1 H
      replace f20:=xX.1 f20
      replace f20:=fun g=>yX.1 (f20 g)
      refine wT zR zB (by kernel_rfl) (by kernel_rfl) ?_
      simp only [go_sem,Nat.reduceLT,Nat.reduceBEq,f7,f8]
      repeat ((with_reducible refine And.intro ?_ ?_);focus (first|(with_reducible trivial)|omega|exact f9|exact f10|exact f11|exact f12|exact f13|exact f14|exact f15|exact f16|exact f17|exact f18|exact f19|exact f20|(intro g;have q:=f9 (by first|exact g|(rw [g];rfl)|simpa using g);first|exact q|exact ⟨q.1,q.2.1⟩|exact q.2.2|omega|exact ⟨g,q⟩|exact ⟨trivial,q⟩|exact ⟨g,q.1,q.2.1⟩|exact ⟨g,q.2.2⟩)|(intro g;have q:=f10 (by first|exact g|(rw [g];rfl)|simpa using g);first|exact q|exact ⟨q.1,q.2.1⟩|exact q.2.2|omega|exact ⟨g,q⟩|exact ⟨trivial,q⟩|exact ⟨g,q.1,q.2.1⟩|exact ⟨g,q.2.2⟩)|(intro g;have q:=f11 (by first|exact g|(rw [g];rfl)|simpa using g);first|exact q|exact ⟨q.1,q.2.1⟩|exact q.2.2|omega|exact ⟨g,q⟩|exact ⟨trivial,q⟩|exact ⟨g,q.1,q.2.1⟩|exact ⟨g,q.2.2⟩)|(intro g;have q:=f12 (by first|exact g|(rw [g];rfl)|simpa using g);first|exact q|exact ⟨q.1,q.2.1⟩|exact q.2.2|omega|exact ⟨g,q⟩|exact ⟨trivial,q⟩|exact ⟨g,q.1,q.2.1⟩|exact ⟨g,q.2.2⟩)|(intro g;have q:=f13 (by first|exact g|(rw [g];rfl)|simpa using g);first|exact q|exact ⟨q.1,q.2.1⟩|exact q.2.2|omega|exact ⟨g,q⟩|exact ⟨trivial,q⟩|exact ⟨g,q.1,q.2.1⟩|exact ⟨g,q.2.2⟩)|(intro g;have q:=f14 (by first|exact g|(rw [g];rfl)|simpa using g);first|exact q|exact ⟨q.1,q.2.1⟩|exact q.2.2|omega|exact ⟨g,q⟩|exact ⟨trivial,q⟩|exact ⟨g,q.1,q.2.1⟩|exact ⟨g,q.2.2⟩)|(intro g;have q:=f15 (by first|exact g|(rw [g];rfl)|simpa using g);first|exact q|exact ⟨q.1,q.2.1⟩|exact q.2.2|omega|exact ⟨g,q⟩|exact ⟨trivial,q⟩|exact ⟨g,q.1,q.2.1⟩|exact ⟨g,q.2.2⟩)|(intro g;have q:=f16 (by first|exact g|(rw [g];rfl)|simpa using g);first|exact q|exact ⟨q.1,q.2.1⟩|exact q.2.2|omega|exact ⟨g,q⟩|exact ⟨trivial,q⟩|exact ⟨g,q.1,q.2.1⟩|exact ⟨g,q.2.2⟩)|(intro g;have q:=f17 (by first|exact g|(rw [g];rfl)|simpa using g);first|exact q|exact ⟨q.1,q.2.1⟩|exact q.2.2|omega|exact ⟨g,q⟩|exact ⟨trivial,q⟩|exact ⟨g,q.1,q.2.1⟩|exact ⟨g,q.2.2⟩)|(intro g;have q:=f18 (by first|exact g|(rw [g];rfl)|simpa using g);first|exact q|exact ⟨q.1,q.2.1⟩|exact q.2.2|omega|exact ⟨g,q⟩|exact ⟨trivial,q⟩|exact ⟨g,q.1,q.2.1⟩|exact ⟨g,q.2.2⟩)|(intro g;have q:=f19 (by first|exact g|(rw [g];rfl)|simpa using g);first|exact q|exact ⟨q.1,q.2.1⟩|exact q.2.2|omega|exact ⟨g,q⟩|exact ⟨trivial,q⟩|exact ⟨g,q.1,q.2.1⟩|exact ⟨g,q.2.2⟩)|(intro g;have q:=f20 (by first|exact g|(rw [g];rfl)|simpa using g);first|exact q|exact ⟨q.1,q.2.1⟩|exact q.2.2|omega|exact ⟨g,q⟩|exact ⟨trivial,q⟩|exact ⟨g,q.1,q.2.1⟩|exact ⟨g,q.2.2⟩)|grind))
      refine condM' rfl trivial (fun hc=>?_) (fun hc=>?_)
      ·replace H:=yI hc H
       refine rg zB ?_
       simp only [go_sem]
       refine rg zB ?_
       simp only [go_sem]
       refine ⟨_,(Option.some.inj H).symm,?_⟩
       refine zN ⟨[some 0,some 1,some 2,some 3,some 4,some 5,some 6],?_,?_,by rfl,by rfl⟩
       ·simp [CvL,Cv,yE]
       ·exact ⟨(zT nfA),cv,zD,zD,zD,zD,zO xN cl (fun _ _ _ _=>rfl),trivial⟩
      replace H:=yJ hc H
      obtain ⟨f21,H⟩:=nI H
      obtain ⟨f22,H⟩:=nI H
      obtain ⟨f23,H⟩:=nI H
      obtain ⟨f24,H⟩:=nI H
      obtain ⟨f25,H⟩:=zM.1 H
      replace f25:=decide_eq_true_iff.1 f25
      obtain ⟨f26,H⟩:=nI H
      obtain ⟨f27,H⟩:=nI H
      refine vA zR zB 0 (by kernel_rfl) (by kernel_rfl) ?_
      intro an han
      simp only [fT,qY,cS,xrD,xoD,dP,qU,List.append_nil,wJ,refs,mask,tK,place,vS,tL,uE,hit,inL,wO,nrH,nrB,rZ,Nat.sub_self,Nat.add_zero,Nat.zero_add,Nat.reduceSub,Nat.lt_add_one,go_sem,Nat.reduceLeDiff,Nat.reduceLT,Nat.reduceAdd,Nat.reduceSub,Nat.reduceBEq,f21,f22,f24,f25,f27]
      repeat ((with_reducible refine aI ?_ ?_);exact an3)
      refine rg zB ?_
      simp only [go_sem]
      refine ⟨_,(Option.some.inj H).symm,?_⟩
      refine zN ⟨[some 0,some 1,some 2,some 3,some 4,some 5,some 6],?_,?_,by rfl,by rfl⟩
      ·simp [CvL,Cv,yE]
      ·exact ⟨(zT nfA),cv,zD,zD,zD,zD,zO xN cl (uV (f:=c_i64) v4_1 v4_2.toNat 0 (wr .i64 ((gd v4_1 v3_2.toNat)+(gd w1 (v3_2.toNat * 8+v4_2.toNat)))) (fun _ _ _ _=>rfl) (fun y hy=>match y,hy with|0,_=>rfl|(y+1),h=>absurd h nlt)),trivial⟩
     ·try dsimp only at H ⊢
      try simp only [tp]
      try simp only [xA,bG]
      refine rg zB ?_
      simp only [go_sem]
      refine ⟨_,(Option.some.inj H).symm,?_⟩
      refine zN ⟨[some 0,some 1,some 2,some 3,some 4,some 6],?_,?_,by rfl,by rfl⟩
      ·simp [CvL,Cv,yE]
      ·exact ⟨(zT nfA),cv,zD,zD,zD,zO xN cl (fun _ _ _ _=>rfl),trivial⟩
    ·try dsimp only at H ⊢
     try simp only [tp]
     try simp only [xA,bG]
     refine rg zB ?_
     simp only [go_sem]
     refine ⟨_,(Option.some.inj H).symm,?_⟩
     refine zN ⟨[some 0,some 1,some 2,some 3,some 5],?_,?_,by rfl,by rfl⟩
     ·simp [CvL,Cv,yE]
     ·exact ⟨(zT nfA),cv,zD,zD,zO xN cl (fun _ _ _ _=>rfl),trivial⟩
   ·try dsimp only at H ⊢
    try simp only [tp]
    try simp only [xA]
    refine zW ?_
    refine jT ?_
    refine wP zR zB 0 ?_
    simp only [zY,tZ,dZ,go_sem]
    obtain ⟨f28,H⟩:=zM.1 H
    replace f28:=decide_eq_true_iff.1 f28
    refine uO zR zB (b:=4) (z:=1) (n:=8) (cells:=[.int .i64 (gd w2_3 0),.int .i64 (gd w2_3 1),.int .i64 (gd w2_3 2),.int .i64 (gd w2_3 3),.int .i64 (gd w2_3 4),.int .i64 (gd w2_3 5),.int .i64 (gd w2_3 6),.int .i64 (gd w2_3 7)]) rfl rfl rfl rfl (by first|exact trivial|(simp only [go_sem,Nat.reduceLeDiff,Nat.reduceLT,Nat.reduceAdd,Nat.reduceMul,Nat.reduceSub,Nat.reduceEqDiff,Nat.reduceBEq,Int.reduceToNat,reduceCtorEq];done)|simp [og]) rfl f28 (by kernel_rfl) (by kernel_rfl) rfl (by decide) (fun x y hx hy=>(vR (f:=fun x=>c_i64 (gd w2_3 x)) (n:=8) (fun _=>rfl) x y (by omega) hy).symm) ?_
    simp only [go_sem]
    refine wP zR zB 1 ?_
    simp only [zY,tS,tZ,dS,dZ,go_sem,Nat.reduceAdd]
    refine jD ?_
    refine rg zB ?_
    simp only [go_sem,Nat.reduceLT,Nat.reduceAdd]
    obtain rfl:=Option.some.inj H
    first|rfl|simp only [Bool.and_false,Bool.false_and,Bool.and_true,Bool.true_and]
 ·cases hb
end Go.Proofs.Ytdcepineppafpaa
