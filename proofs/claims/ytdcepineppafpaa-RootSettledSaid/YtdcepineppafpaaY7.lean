/-
  What RootSettled reaches.
-/
import Derived.Test.YtdcepineppafpaaY7p3
namespace Go.Proofs.Ytdcepineppafpaa
open Go.Am
set_option linter.unusedVariables false
set_option linter.unusedSimpArgs false
noncomputable def ct7t0:Ct:=tab [(36,yD body36)]
theorem ct7t0_ok:xK Try.prog ct7t0:=yG ok36 <| yM
theorem ct7t0_36 (l:List AV) (h:List ABlk):ct7t0 36 l h=yD body36 l h:=rfl
noncomputable def ct7t1:Ct:=tab [(39,yD body39)]
theorem ct7t1_ok:xK Try.prog ct7t1:=yG ok39 <| yM
theorem ct7t1_39 (l:List AV) (h:List ABlk):ct7t1 39 l h=yD body39 l h:=rfl
noncomputable def ct7t2:Ct:=tab [(40,genC cE)]
theorem ct7t2_ok:xK Try.prog ct7t2:=yG ok40 <| yM
theorem ct7t2_40 (l:List AV) (h:List ABlk):ct7t2 40 l h=genC cE l h:=rfl
noncomputable def ct7t3:Ct:=tab [(41,yD body41)]
theorem ct7t3_ok:xK Try.prog ct7t3:=yG ok41 <| yM
theorem ct7t3_41 (l:List AV) (h:List ABlk):ct7t3 41 l h=yD body41 l h:=rfl
noncomputable def ct7t4:Ct:=tab [(27,yD gB)]
theorem ct7t4_ok:xK Try.prog ct7t4:=yG ok27 <| yM
theorem ct7t4_27 (l:List AV) (h:List ABlk):ct7t4 27 l h=yD gB l h:=rfl
noncomputable def ct7t5:Ct:=tab [(42,yD vX)]
theorem ct7t5_ok:xK Try.prog ct7t5:=yG ok42 <| yM
theorem ct7t5_42 (l:List AV) (h:List ABlk):ct7t5 42 l h=yD vX l h:=rfl
noncomputable def F7_L2 (w9:List Int) (w14:List TRoots) (v2_1:Int) (v2_2:Int):Option (Lp (Int × Int) ((Int × Int) ⊕ (Bool))) :=
 bif ((!bEq v2_1 0) && (bLe v2_2 8)) then (need (inb v2_1 8) <| need (inb v2_1 w14.length) <| (F27 (TRoots.mk (A6u8.mk (((gd w14 v2_1.toNat).Own).x0) (((gd w14 v2_1.toNat).Own).x1) (((gd w14 v2_1.toNat).Own).x2) (((gd w14 v2_1.toNat).Own).x3) (((gd w14 v2_1.toNat).Own).x4) (((gd w14 v2_1.toNat).Own).x5)) ((gd w14 v2_1.toNat).Root) ((gd w14 v2_1.toNat).Gate) ((gd w14 v2_1.toNat).Seq) ((gd w14 v2_1.toNat).Trees) ((gd w14 v2_1.toNat).Proxies)) false).bind fun r36=>bif (!r36.2) then (some (.done (.inr false))) else (need (bif (!((bLt (wr .i64 ((wr .i64 r36.1.Parent.x0) - 1)) 0) || (bLe 8 (wr .i64 ((wr .i64 r36.1.Parent.x0) - 1))))) then inb v2_1 8 else true) <| need (bif (!((bLt (wr .i64 ((wr .i64 r36.1.Parent.x0) - 1)) 0) || (bLe 8 (wr .i64 ((wr .i64 r36.1.Parent.x0) - 1))))) then inb (wr .i64 ((wr .i64 r36.1.Parent.x0) - 1)) 8 else true) <| need (bif (!((bLt (wr .i64 ((wr .i64 r36.1.Parent.x0) - 1)) 0) || (bLe 8 (wr .i64 ((wr .i64 r36.1.Parent.x0) - 1))))) then decide (v2_1.toNat * 8+((wr .i64 ((wr .i64 r36.1.Parent.x0) - 1)).toNat) < w9.length) else true) <| bif (((bLt (wr .i64 ((wr .i64 r36.1.Parent.x0) - 1)) 0) || (bLe 8 (wr .i64 ((wr .i64 r36.1.Parent.x0) - 1)))) || (bEq (gd w9 (v2_1.toNat * 8+((wr .i64 ((wr .i64 r36.1.Parent.x0) - 1)).toNat))) 0)) then (some (.done (.inr false))) else (some (.next (wr .i64 ((wr .i64 r36.1.Parent.x0) - 1),wr .i64 (v2_2+1)))))) else (some (.done (.inl (v2_1,v2_2))))
noncomputable def F7_L1 (p1:Int) (w9:List Int) (w14:List TRoots) (w22:List Int) (v1_1:Int):Option (Lp (Int) ((Unit) ⊕ (Bool))) :=
 bif (bLt v1_1 8) then (need (inb v1_1 8) <| need (inb v1_1 w14.length) <| (F27 (TRoots.mk (A6u8.mk (((gd w14 v1_1.toNat).Own).x0) (((gd w14 v1_1.toNat).Own).x1) (((gd w14 v1_1.toNat).Own).x2) (((gd w14 v1_1.toNat).Own).x3) (((gd w14 v1_1.toNat).Own).x4) (((gd w14 v1_1.toNat).Own).x5)) ((gd w14 v1_1.toNat).Root) ((gd w14 v1_1.toNat).Gate) ((gd w14 v1_1.toNat).Seq) ((gd w14 v1_1.toNat).Trees) ((gd w14 v1_1.toNat).Proxies)) false).bind fun r26=>need (inb v1_1 8) <| need (inb v1_1 w22.length) <| bif (!bB r26.2 (bLe 0 (gd w22 v1_1.toNat))) then (some (.done (.inr false))) else (bif (!r26.2) then (some (.next (wr .i64 (v1_1+1)))) else ((F42 0).bind fun r30=>need (bif (!((!(bEq r26.1.Root.x0 r30.x0 && (bEq r26.1.Root.x1 r30.x1 && (bEq r26.1.Root.x2 r30.x2 && (bEq r26.1.Root.x3 r30.x3 && (bEq r26.1.Root.x4 r30.x4 && (bEq r26.1.Root.x5 r30.x5))))))) || (!bEq r26.1.Seq p1))) then inb v1_1 8 else true) <| need (bif (!((!(bEq r26.1.Root.x0 r30.x0 && (bEq r26.1.Root.x1 r30.x1 && (bEq r26.1.Root.x2 r30.x2 && (bEq r26.1.Root.x3 r30.x3 && (bEq r26.1.Root.x4 r30.x4 && (bEq r26.1.Root.x5 r30.x5))))))) || (!bEq r26.1.Seq p1))) then inb v1_1 w22.length else true) <| bif (((!(bEq r26.1.Root.x0 r30.x0 && (bEq r26.1.Root.x1 r30.x1 && (bEq r26.1.Root.x2 r30.x2 && (bEq r26.1.Root.x3 r30.x3 && (bEq r26.1.Root.x4 r30.x4 && (bEq r26.1.Root.x5 r30.x5))))))) || (!bEq r26.1.Seq p1)) || (!bEq r26.1.Cost (gd w22 v1_1.toNat))) then (some (.done (.inr false))) else (lp (yP (fun s=>F7_L2 w9 w14 s.1 s.2) (v1_1,0)) (fun e2=>bif ((!bEq e2.1 0) || (bLt r26.1.Hops e2.2)) then (some (.done (.inr false))) else (some (.next (wr .i64 (v1_1+1))))) (fun r=>some (.done (.inr r))))))) else (some (.done (.inl ())))
noncomputable def F7 (p0:A8A8i64) (p1:Int) (p2:List Int):Option (Bool) :=
 (some [p0.x0.x0,p0.x0.x1,p0.x0.x2,p0.x0.x3,p0.x0.x4,p0.x0.x5,p0.x0.x6,p0.x0.x7,p0.x1.x0,p0.x1.x1,p0.x1.x2,p0.x1.x3,p0.x1.x4,p0.x1.x5,p0.x1.x6,p0.x1.x7,p0.x2.x0,p0.x2.x1,p0.x2.x2,p0.x2.x3,p0.x2.x4,p0.x2.x5,p0.x2.x6,p0.x2.x7,p0.x3.x0,p0.x3.x1,p0.x3.x2,p0.x3.x3,p0.x3.x4,p0.x3.x5,p0.x3.x6,p0.x3.x7,p0.x4.x0,p0.x4.x1,p0.x4.x2,p0.x4.x3,p0.x4.x4,p0.x4.x5,p0.x4.x6,p0.x4.x7,p0.x5.x0,p0.x5.x1,p0.x5.x2,p0.x5.x3,p0.x5.x4,p0.x5.x5,p0.x5.x6,p0.x5.x7,p0.x6.x0,p0.x6.x1,p0.x6.x2,p0.x6.x3,p0.x6.x4,p0.x6.x5,p0.x6.x6,p0.x6.x7,p0.x7.x0,p0.x7.x1,p0.x7.x2,p0.x7.x3,p0.x7.x4,p0.x7.x5,p0.x7.x6,p0.x7.x7]).bind fun w1=>(F36).bind fun r3=>bif ((((bLt p1 1) || (bLt 5 p1)) || (bLt 20000 (p2.length:Nat))) || (!r3)) then (some r3) else (need (decide (w1.length=64)) <| (F39 (A8A8i64.mk (A8i64.mk (gd w1 0) (gd w1 1) (gd w1 2) (gd w1 3) (gd w1 4) (gd w1 5) (gd w1 6) (gd w1 7)) (A8i64.mk (gd w1 8) (gd w1 9) (gd w1 10) (gd w1 11) (gd w1 12) (gd w1 13) (gd w1 14) (gd w1 15)) (A8i64.mk (gd w1 16) (gd w1 17) (gd w1 18) (gd w1 19) (gd w1 20) (gd w1 21) (gd w1 22) (gd w1 23)) (A8i64.mk (gd w1 24) (gd w1 25) (gd w1 26) (gd w1 27) (gd w1 28) (gd w1 29) (gd w1 30) (gd w1 31)) (A8i64.mk (gd w1 32) (gd w1 33) (gd w1 34) (gd w1 35) (gd w1 36) (gd w1 37) (gd w1 38) (gd w1 39)) (A8i64.mk (gd w1 40) (gd w1 41) (gd w1 42) (gd w1 43) (gd w1 44) (gd w1 45) (gd w1 46) (gd w1 47)) (A8i64.mk (gd w1 48) (gd w1 49) (gd w1 50) (gd w1 51) (gd w1 52) (gd w1 53) (gd w1 54) (gd w1 55)) (A8i64.mk (gd w1 56) (gd w1 57) (gd w1 58) (gd w1 59) (gd w1 60) (gd w1 61) (gd w1 62) (gd w1 63)))).bind fun r6=>need (decide (w1.length=64)) <| (some [r6.x0.x0,r6.x0.x1,r6.x0.x2,r6.x0.x3,r6.x0.x4,r6.x0.x5,r6.x0.x6,r6.x0.x7,r6.x1.x0,r6.x1.x1,r6.x1.x2,r6.x1.x3,r6.x1.x4,r6.x1.x5,r6.x1.x6,r6.x1.x7,r6.x2.x0,r6.x2.x1,r6.x2.x2,r6.x2.x3,r6.x2.x4,r6.x2.x5,r6.x2.x6,r6.x2.x7,r6.x3.x0,r6.x3.x1,r6.x3.x2,r6.x3.x3,r6.x3.x4,r6.x3.x5,r6.x3.x6,r6.x3.x7,r6.x4.x0,r6.x4.x1,r6.x4.x2,r6.x4.x3,r6.x4.x4,r6.x4.x5,r6.x4.x6,r6.x4.x7,r6.x5.x0,r6.x5.x1,r6.x5.x2,r6.x5.x3,r6.x5.x4,r6.x5.x5,r6.x5.x6,r6.x5.x7,r6.x6.x0,r6.x6.x1,r6.x6.x2,r6.x6.x3,r6.x6.x4,r6.x6.x5,r6.x6.x6,r6.x6.x7,r6.x7.x0,r6.x7.x1,r6.x7.x2,r6.x7.x3,r6.x7.x4,r6.x7.x5,r6.x7.x6,r6.x7.x7]).bind fun w9=>need (decide (w9.length=64)) <| (F40 (A8A8i64.mk (A8i64.mk (gd w9 0) (gd w9 1) (gd w9 2) (gd w9 3) (gd w9 4) (gd w9 5) (gd w9 6) (gd w9 7)) (A8i64.mk (gd w9 8) (gd w9 9) (gd w9 10) (gd w9 11) (gd w9 12) (gd w9 13) (gd w9 14) (gd w9 15)) (A8i64.mk (gd w9 16) (gd w9 17) (gd w9 18) (gd w9 19) (gd w9 20) (gd w9 21) (gd w9 22) (gd w9 23)) (A8i64.mk (gd w9 24) (gd w9 25) (gd w9 26) (gd w9 27) (gd w9 28) (gd w9 29) (gd w9 30) (gd w9 31)) (A8i64.mk (gd w9 32) (gd w9 33) (gd w9 34) (gd w9 35) (gd w9 36) (gd w9 37) (gd w9 38) (gd w9 39)) (A8i64.mk (gd w9 40) (gd w9 41) (gd w9 42) (gd w9 43) (gd w9 44) (gd w9 45) (gd w9 46) (gd w9 47)) (A8i64.mk (gd w9 48) (gd w9 49) (gd w9 50) (gd w9 51) (gd w9 52) (gd w9 53) (gd w9 54) (gd w9 55)) (A8i64.mk (gd w9 56) (gd w9 57) (gd w9 58) (gd w9 59) (gd w9 60) (gd w9 61) (gd w9 62) (gd w9 63))) p1 p2).bind fun r12=>(some [r12.1.x0,r12.1.x1,r12.1.x2,r12.1.x3,r12.1.x4,r12.1.x5,r12.1.x6,r12.1.x7]).bind fun w14=>bif (!r12.2) then (some false) else (need (decide (w9.length=64)) <| (F41 (A8A8i64.mk (A8i64.mk (gd w9 0) (gd w9 1) (gd w9 2) (gd w9 3) (gd w9 4) (gd w9 5) (gd w9 6) (gd w9 7)) (A8i64.mk (gd w9 8) (gd w9 9) (gd w9 10) (gd w9 11) (gd w9 12) (gd w9 13) (gd w9 14) (gd w9 15)) (A8i64.mk (gd w9 16) (gd w9 17) (gd w9 18) (gd w9 19) (gd w9 20) (gd w9 21) (gd w9 22) (gd w9 23)) (A8i64.mk (gd w9 24) (gd w9 25) (gd w9 26) (gd w9 27) (gd w9 28) (gd w9 29) (gd w9 30) (gd w9 31)) (A8i64.mk (gd w9 32) (gd w9 33) (gd w9 34) (gd w9 35) (gd w9 36) (gd w9 37) (gd w9 38) (gd w9 39)) (A8i64.mk (gd w9 40) (gd w9 41) (gd w9 42) (gd w9 43) (gd w9 44) (gd w9 45) (gd w9 46) (gd w9 47)) (A8i64.mk (gd w9 48) (gd w9 49) (gd w9 50) (gd w9 51) (gd w9 52) (gd w9 53) (gd w9 54) (gd w9 55)) (A8i64.mk (gd w9 56) (gd w9 57) (gd w9 58) (gd w9 59) (gd w9 60) (gd w9 61) (gd w9 62) (gd w9 63)))).bind fun r17=>(some (List.replicate 8 0:List Int)).bind fun w19=>need (decide (w19.length=8)) <| (some [r17.x0,r17.x1,r17.x2,r17.x3,r17.x4,r17.x5,r17.x6,r17.x7]).bind fun w22=>lp (yP (fun s=>F7_L1 p1 w9 w14 w22 s) 1) (fun _=>some r3) some))
noncomputable def body7:List AV->AR
 | [v0,v1,v2]=>.pure (aK 64 vC v0/\iK .i64 v1/\lK dV 1 v2/\(F7 (g_A8A8i64 (aL v0)) (iA v1) (lA g_i64 v2)).isSome=true) (.bool (gt (F7 (g_A8A8i64 (aL v0)) (iA v1) (lA g_i64 v2))))
 | _=>.fail
set_option maxHeartbeats 4000000 in
set_option maxRecDepth 20000 in
theorem ok7:wS Try.prog 7 (yD body7):=by
 refine xH body7 (rs:=[.tmp 6]) Try.func7 (by kernel_rfl) rfl rfl ?_
 intro l ob v hb hob
 unfold body7 at hb
 split at hb
 ·rename_i v0 v1 v2
  injection hb with q1 q2;subst q1 q2
  obtain ⟨hk0_0,hk1_0,hk2_0,hob⟩:=hob
  obtain ⟨r,H⟩:=oE.1 hob
  rw [H,zU]
  have hw0:=jQ hk0_0
  have hw1:=zK hk1_0
  have hw2:=vN (fun r h=>w_i64 h) hk2_0
  generalize g_A8A8i64 (aL v0)=p0 at H hw0
  generalize iA v1=p1 at H hw1
  generalize lA g_i64 v2=p2 at H hw2
  refine ⟨[.agg (.int .i64 p0.x0.x0::.int .i64 p0.x0.x1::.int .i64 p0.x0.x2::.int .i64 p0.x0.x3::.int .i64 p0.x0.x4::.int .i64 p0.x0.x5::.int .i64 p0.x0.x6::.int .i64 p0.x0.x7::.int .i64 p0.x1.x0::.int .i64 p0.x1.x1::.int .i64 p0.x1.x2::.int .i64 p0.x1.x3::.int .i64 p0.x1.x4::.int .i64 p0.x1.x5::.int .i64 p0.x1.x6::.int .i64 p0.x1.x7::.int .i64 p0.x2.x0::.int .i64 p0.x2.x1::.int .i64 p0.x2.x2::.int .i64 p0.x2.x3::.int .i64 p0.x2.x4::.int .i64 p0.x2.x5::.int .i64 p0.x2.x6::.int .i64 p0.x2.x7::.int .i64 p0.x3.x0::.int .i64 p0.x3.x1::.int .i64 p0.x3.x2::.int .i64 p0.x3.x3::.int .i64 p0.x3.x4::.int .i64 p0.x3.x5::.int .i64 p0.x3.x6::.int .i64 p0.x3.x7::.int .i64 p0.x4.x0::.int .i64 p0.x4.x1::.int .i64 p0.x4.x2::.int .i64 p0.x4.x3::.int .i64 p0.x4.x4::.int .i64 p0.x4.x5::.int .i64 p0.x4.x6::.int .i64 p0.x4.x7::.int .i64 p0.x5.x0::.int .i64 p0.x5.x1::.int .i64 p0.x5.x2::.int .i64 p0.x5.x3::.int .i64 p0.x5.x4::.int .i64 p0.x5.x5::.int .i64 p0.x5.x6::.int .i64 p0.x5.x7::.int .i64 p0.x6.x0::.int .i64 p0.x6.x1::.int .i64 p0.x6.x2::.int .i64 p0.x6.x3::.int .i64 p0.x6.x4::.int .i64 p0.x6.x5::.int .i64 p0.x6.x6::.int .i64 p0.x6.x7::.int .i64 p0.x7.x0::.int .i64 p0.x7.x1::.int .i64 p0.x7.x2::.int .i64 p0.x7.x3::.int .i64 p0.x7.x4::.int .i64 p0.x7.x5::.int .i64 p0.x7.x6::.int .i64 p0.x7.x7::[]),.int .i64 p1,.ro 1 p2.length false (enR c_i64 p2)],_,(fun E vs F=>yU hw0.1 F (fun vs F=>yU hw1.1 F (fun vs F=>yU hw2.1 F (fun vs F=>F)))),rfl,rfl,?_⟩
  rw [Try.ntmps7]
  simp only [lC,lN,Nat.reduceAdd,Nat.reduceSub,rS,rZ,aC,aN]
  unfold F7 at H
  try dsimp only at H
  refine zW ?_
  refine jT ?_
  refine wP zR zB 0 ?_
  simp only [zY,tZ,dZ,go_sem]
  refine dA zR zB (len:=64) (z:=1) rfl rfl rfl rfl (by first|exact trivial|(simp only [go_sem,Nat.reduceLeDiff,Nat.reduceLT,Nat.reduceAdd,Nat.reduceMul,Nat.reduceSub,Nat.reduceEqDiff,Nat.reduceBEq,Int.reduceToNat,reduceCtorEq];done)|simp [og]) rfl ?_
  simp only [go_sem]
  refine wP zR zB 1 ?_
  simp only [zY,tS,tZ,dS,dZ,go_sem]
  refine jD ?_
  refine zW ?_
  obtain ⟨w1,hw2,H⟩:=bsj H
  have lhw2:w1.length=64:=by rw [← hw2];exact (by first|rfl|simp)
  refine vD (t2:=(.top::.int .i64 p1::.ro 1 p2.length false (enR c_i64 p2)::.ptr 0 1 0 0::tp 129 [])) (h2:=[.row 81 1 w1.length (enR c_i64 w1)]) ?_ ?_
  ·refine zN ⟨[some 0],?_,?_,by rfl,by rfl⟩
   ·simp [CvL,Cv,yE,tp]
   ·exact ⟨zO xN lhw2 (hw2 ▸ (vP (f:=c_i64) [p0.x0.x0,p0.x0.x1,p0.x0.x2,p0.x0.x3,p0.x0.x4,p0.x0.x5,p0.x0.x6,p0.x0.x7,p0.x1.x0,p0.x1.x1,p0.x1.x2,p0.x1.x3,p0.x1.x4,p0.x1.x5,p0.x1.x6,p0.x1.x7,p0.x2.x0,p0.x2.x1,p0.x2.x2,p0.x2.x3,p0.x2.x4,p0.x2.x5,p0.x2.x6,p0.x2.x7,p0.x3.x0,p0.x3.x1,p0.x3.x2,p0.x3.x3,p0.x3.x4,p0.x3.x5,p0.x3.x6,p0.x3.x7,p0.x4.x0,p0.x4.x1,p0.x4.x2,p0.x4.x3,p0.x4.x4,p0.x4.x5,p0.x4.x6,p0.x4.x7,p0.x5.x0,p0.x5.x1,p0.x5.x2,p0.x5.x3,p0.x5.x4,p0.x5.x5,p0.x5.x6,p0.x5.x7,p0.x6.x0,p0.x6.x1,p0.x6.x2,p0.x6.x3,p0.x6.x4,p0.x6.x5,p0.x6.x6,p0.x6.x7,p0.x7.x0,p0.x7.x1,p0.x7.x2,p0.x7.x3,p0.x7.x4,p0.x7.x5,p0.x7.x6,p0.x7.x7] (fun _ _=>rfl) rfl)),trivial⟩
  simp only [tp]
  obtain ⟨r3,e4,H⟩:=bsi H
  refine rg ct7t0_ok ?_
  simp only [go_sem,ct7t0_36,body36,e4]
  repeat ((with_reducible refine aI ?_ ?_);exact an0)
  refine zW ?_
  refine sq zB ?_
  simp only [go_sem]
  repeat ((with_reducible refine aI ?_ ?_);exact an5)
  refine xJ rfl trivial (fun hc=>?_) (fun hc=>?_)
  ·replace H:=yJ hc H
   refine sq zB ?_
   simp only [go_sem]
   refine rg zB ?_
   simp only [go_sem]
   obtain rfl:=Option.some.inj H
   first|rfl|simp only [Bool.and_false,Bool.false_and,Bool.and_true,Bool.true_and]
  replace H:=yI hc H
  refine rg zB ?_
  simp only [go_sem]
  refine zW ?_
  refine jT ?_
  refine wP zR zB 0 ?_
  simp only [zY,tZ,dZ,go_sem]
  obtain ⟨f5,H⟩:=zM.1 H
  replace f5:=decide_eq_true_iff.1 f5
  refine uO zR zB (b:=0) (z:=1) (n:=64) (cells:=(.int .i64 (gd w1 0)::.int .i64 (gd w1 1)::.int .i64 (gd w1 2)::.int .i64 (gd w1 3)::.int .i64 (gd w1 4)::.int .i64 (gd w1 5)::.int .i64 (gd w1 6)::.int .i64 (gd w1 7)::.int .i64 (gd w1 8)::.int .i64 (gd w1 9)::.int .i64 (gd w1 10)::.int .i64 (gd w1 11)::.int .i64 (gd w1 12)::.int .i64 (gd w1 13)::.int .i64 (gd w1 14)::.int .i64 (gd w1 15)::.int .i64 (gd w1 16)::.int .i64 (gd w1 17)::.int .i64 (gd w1 18)::.int .i64 (gd w1 19)::.int .i64 (gd w1 20)::.int .i64 (gd w1 21)::.int .i64 (gd w1 22)::.int .i64 (gd w1 23)::.int .i64 (gd w1 24)::.int .i64 (gd w1 25)::.int .i64 (gd w1 26)::.int .i64 (gd w1 27)::.int .i64 (gd w1 28)::.int .i64 (gd w1 29)::.int .i64 (gd w1 30)::.int .i64 (gd w1 31)::.int .i64 (gd w1 32)::.int .i64 (gd w1 33)::.int .i64 (gd w1 34)::.int .i64 (gd w1 35)::.int .i64 (gd w1 36)::.int .i64 (gd w1 37)::.int .i64 (gd w1 38)::.int .i64 (gd w1 39)::.int .i64 (gd w1 40)::.int .i64 (gd w1 41)::.int .i64 (gd w1 42)::.int .i64 (gd w1 43)::.int .i64 (gd w1 44)::.int .i64 (gd w1 45)::.int .i64 (gd w1 46)::.int .i64 (gd w1 47)::.int .i64 (gd w1 48)::.int .i64 (gd w1 49)::.int .i64 (gd w1 50)::.int .i64 (gd w1 51)::.int .i64 (gd w1 52)::.int .i64 (gd w1 53)::.int .i64 (gd w1 54)::.int .i64 (gd w1 55)::.int .i64 (gd w1 56)::.int .i64 (gd w1 57)::.int .i64 (gd w1 58)::.int .i64 (gd w1 59)::.int .i64 (gd w1 60)::.int .i64 (gd w1 61)::.int .i64 (gd w1 62)::.int .i64 (gd w1 63)::[])) rfl rfl rfl rfl (by first|exact trivial|(simp only [go_sem,Nat.reduceLeDiff,Nat.reduceLT,Nat.reduceAdd,Nat.reduceMul,Nat.reduceSub,Nat.reduceEqDiff,Nat.reduceBEq,Int.reduceToNat,reduceCtorEq];done)|simp [og]) rfl f5 (by kernel_rfl) (by kernel_rfl) rfl (by decide) (fun x y hx hy=>(vR (f:=fun x=>c_i64 (gd w1 x)) (n:=64) (fun _=>rfl) x y (by omega) hy).symm) ?_
  simp only [go_sem]
  obtain ⟨r6,e7,H⟩:=bsi H
  refine wP zR ct7t1_ok 1 ?_
  simp only [zY,tS,tZ,dS,dZ,go_sem,Nat.reduceAdd,ct7t1_39,body39,e7]
  obtain ⟨f8,H⟩:=zM.1 H
  replace f8:=decide_eq_true_iff.1 f8
  refine storeArrO zR zB (b:=0) (z:=1) (n:=64) rfl rfl rfl rfl rfl (by first|exact ⟨trivial,trivial⟩|(simp only [go_sem,Nat.reduceLeDiff,Nat.reduceLT,Nat.reduceAdd,Nat.reduceMul,Nat.reduceSub,Nat.reduceEqDiff,Nat.reduceBEq,Int.reduceToNat,reduceCtorEq];done)|simp [og]) rfl f8 (by kernel_rfl) rfl (by decide) ?_
  simp only [go_sem]
  refine wP zR zB 0 ?_
  simp only [zY,tZ,dZ,go_sem]
  repeat ((with_reducible refine aI ?_ ?_);exact an2)
  refine jD ?_
  refine zW ?_
  obtain ⟨w9,hw10,H⟩:=bsj H
  have lhw10:w9.length=64:=by rw [← hw10];exact (by first|rfl|simp)
  refine vD (t2:=(.top::.int .i64 p1::.ro 1 p2.length false (enR c_i64 p2)::.ptr 0 1 0 0::.top::.top::.top::.bool r3::tp 125 [])) (h2:=[.row 81 1 w9.length (enR c_i64 w9)]) ?_ ?_
  ·refine zN ⟨[some 0],?_,?_,by rfl,by rfl⟩
   ·simp [CvL,Cv,yE,tp]
   ·exact ⟨zO xN lhw10 (hw10 ▸ (vP (f:=c_i64) [r6.x0.x0,r6.x0.x1,r6.x0.x2,r6.x0.x3,r6.x0.x4,r6.x0.x5,r6.x0.x6,r6.x0.x7,r6.x1.x0,r6.x1.x1,r6.x1.x2,r6.x1.x3,r6.x1.x4,r6.x1.x5,r6.x1.x6,r6.x1.x7,r6.x2.x0,r6.x2.x1,r6.x2.x2,r6.x2.x3,r6.x2.x4,r6.x2.x5,r6.x2.x6,r6.x2.x7,r6.x3.x0,r6.x3.x1,r6.x3.x2,r6.x3.x3,r6.x3.x4,r6.x3.x5,r6.x3.x6,r6.x3.x7,r6.x4.x0,r6.x4.x1,r6.x4.x2,r6.x4.x3,r6.x4.x4,r6.x4.x5,r6.x4.x6,r6.x4.x7,r6.x5.x0,r6.x5.x1,r6.x5.x2,r6.x5.x3,r6.x5.x4,r6.x5.x5,r6.x5.x6,r6.x5.x7,r6.x6.x0,r6.x6.x1,r6.x6.x2,r6.x6.x3,r6.x6.x4,r6.x6.x5,r6.x6.x6,r6.x6.x7,r6.x7.x0,r6.x7.x1,r6.x7.x2,r6.x7.x3,r6.x7.x4,r6.x7.x5,r6.x7.x6,r6.x7.x7] (fun _ _=>rfl) rfl)),trivial⟩
  simp only [tp]
  refine jT ?_
  refine wP zR zB 0 ?_
  simp only [zY,tZ,dZ,go_sem]
  repeat ((with_reducible refine aI ?_ ?_);exact an0)
  obtain ⟨f11,H⟩:=zM.1 H
  replace f11:=decide_eq_true_iff.1 f11
  refine uO zR zB (b:=0) (z:=1) (n:=64) (cells:=(.int .i64 (gd w9 0)::.int .i64 (gd w9 1)::.int .i64 (gd w9 2)::.int .i64 (gd w9 3)::.int .i64 (gd w9 4)::.int .i64 (gd w9 5)::.int .i64 (gd w9 6)::.int .i64 (gd w9 7)::.int .i64 (gd w9 8)::.int .i64 (gd w9 9)::.int .i64 (gd w9 10)::.int .i64 (gd w9 11)::.int .i64 (gd w9 12)::.int .i64 (gd w9 13)::.int .i64 (gd w9 14)::.int .i64 (gd w9 15)::.int .i64 (gd w9 16)::.int .i64 (gd w9 17)::.int .i64 (gd w9 18)::.int .i64 (gd w9 19)::.int .i64 (gd w9 20)::.int .i64 (gd w9 21)::.int .i64 (gd w9 22)::.int .i64 (gd w9 23)::.int .i64 (gd w9 24)::.int .i64 (gd w9 25)::.int .i64 (gd w9 26)::.int .i64 (gd w9 27)::.int .i64 (gd w9 28)::.int .i64 (gd w9 29)::.int .i64 (gd w9 30)::.int .i64 (gd w9 31)::.int .i64 (gd w9 32)::.int .i64 (gd w9 33)::.int .i64 (gd w9 34)::.int .i64 (gd w9 35)::.int .i64 (gd w9 36)::.int .i64 (gd w9 37)::.int .i64 (gd w9 38)::.int .i64 (gd w9 39)::.int .i64 (gd w9 40)::.int .i64 (gd w9 41)::.int .i64 (gd w9 42)::.int .i64 (gd w9 43)::.int .i64 (gd w9 44)::.int .i64 (gd w9 45)::.int .i64 (gd w9 46)::.int .i64 (gd w9 47)::.int .i64 (gd w9 48)::.int .i64 (gd w9 49)::.int .i64 (gd w9 50)::.int .i64 (gd w9 51)::.int .i64 (gd w9 52)::.int .i64 (gd w9 53)::.int .i64 (gd w9 54)::.int .i64 (gd w9 55)::.int .i64 (gd w9 56)::.int .i64 (gd w9 57)::.int .i64 (gd w9 58)::.int .i64 (gd w9 59)::.int .i64 (gd w9 60)::.int .i64 (gd w9 61)::.int .i64 (gd w9 62)::.int .i64 (gd w9 63)::[])) rfl rfl rfl rfl (by first|exact trivial|(simp only [go_sem,Nat.reduceLeDiff,Nat.reduceLT,Nat.reduceAdd,Nat.reduceMul,Nat.reduceSub,Nat.reduceEqDiff,Nat.reduceBEq,Int.reduceToNat,reduceCtorEq];done)|simp [og]) rfl f11 (by kernel_rfl) (by kernel_rfl) rfl (by decide) (fun x y hx hy=>(vR (f:=fun x=>c_i64 (gd w9 x)) (n:=64) (fun _=>rfl) x y (by omega) hy).symm) ?_
  simp only [go_sem]
  obtain ⟨r12,e13,H⟩:=bsi H
  refine wP zR ct7t2_ok 6 ?_
  simp only [zY,tS,tZ,dS,dZ,go_sem,Nat.reduceLT,Nat.reduceAdd,ct7t2_40,cE,e13]
  repeat ((with_reducible refine aI ?_ ?_);exact an0)
  refine allocO zR zB (len:=8) (z:=11) (l:=(.int .u8 0::.int .u8 0::.int .u8 0::.int .u8 0::.int .u8 0::.int .u8 0::.bool false::.bool false::.int .i64 0::.ro 0 0 true (fun _ _=>.top)::.ro 0 0 true (fun _ _=>.top)::.int .u8 0::.int .u8 0::.int .u8 0::.int .u8 0::.int .u8 0::.int .u8 0::.bool false::.bool false::.int .i64 0::.ro 0 0 true (fun _ _=>.top)::.ro 0 0 true (fun _ _=>.top)::.int .u8 0::.int .u8 0::.int .u8 0::.int .u8 0::.int .u8 0::.int .u8 0::.bool false::.bool false::.int .i64 0::.ro 0 0 true (fun _ _=>.top)::.ro 0 0 true (fun _ _=>.top)::.int .u8 0::.int .u8 0::.int .u8 0::.int .u8 0::.int .u8 0::.int .u8 0::.bool false::.bool false::.int .i64 0::.ro 0 0 true (fun _ _=>.top)::.ro 0 0 true (fun _ _=>.top)::.int .u8 0::.int .u8 0::.int .u8 0::.int .u8 0::.int .u8 0::.int .u8 0::.bool false::.bool false::.int .i64 0::.ro 0 0 true (fun _ _=>.top)::.ro 0 0 true (fun _ _=>.top)::.int .u8 0::.int .u8 0::.int .u8 0::.int .u8 0::.int .u8 0::.int .u8 0::.bool false::.bool false::.int .i64 0::.ro 0 0 true (fun _ _=>.top)::.ro 0 0 true (fun _ _=>.top)::.int .u8 0::.int .u8 0::.int .u8 0::.int .u8 0::.int .u8 0::.int .u8 0::.bool false::.bool false::.int .i64 0::.ro 0 0 true (fun _ _=>.top)::.ro 0 0 true (fun _ _=>.top)::.int .u8 0::.int .u8 0::.int .u8 0::.int .u8 0::.int .u8 0::.int .u8 0::.bool false::.bool false::.int .i64 0::.ro 0 0 true (fun _ _=>.top)::.ro 0 0 true (fun _ _=>.top)::[])) (c:=qS 11 (.int .u8 0::.int .u8 0::.int .u8 0::.int .u8 0::.int .u8 0::.int .u8 0::.bool false::.bool false::.int .i64 0::.ro 0 0 true (fun _ _=>.top)::.ro 0 0 true (fun _ _=>.top)::.int .u8 0::.int .u8 0::.int .u8 0::.int .u8 0::.int .u8 0::.int .u8 0::.bool false::.bool false::.int .i64 0::.ro 0 0 true (fun _ _=>.top)::.ro 0 0 true (fun _ _=>.top)::.int .u8 0::.int .u8 0::.int .u8 0::.int .u8 0::.int .u8 0::.int .u8 0::.bool false::.bool false::.int .i64 0::.ro 0 0 true (fun _ _=>.top)::.ro 0 0 true (fun _ _=>.top)::.int .u8 0::.int .u8 0::.int .u8 0::.int .u8 0::.int .u8 0::.int .u8 0::.bool false::.bool false::.int .i64 0::.ro 0 0 true (fun _ _=>.top)::.ro 0 0 true (fun _ _=>.top)::.int .u8 0::.int .u8 0::.int .u8 0::.int .u8 0::.int .u8 0::.int .u8 0::.bool false::.bool false::.int .i64 0::.ro 0 0 true (fun _ _=>.top)::.ro 0 0 true (fun _ _=>.top)::.int .u8 0::.int .u8 0::.int .u8 0::.int .u8 0::.int .u8 0::.int .u8 0::.bool false::.bool false::.int .i64 0::.ro 0 0 true (fun _ _=>.top)::.ro 0 0 true (fun _ _=>.top)::.int .u8 0::.int .u8 0::.int .u8 0::.int .u8 0::.int .u8 0::.int .u8 0::.bool false::.bool false::.int .i64 0::.ro 0 0 true (fun _ _=>.top)::.ro 0 0 true (fun _ _=>.top)::.int .u8 0::.int .u8 0::.int .u8 0::.int .u8 0::.int .u8 0::.int .u8 0::.bool false::.bool false::.int .i64 0::.ro 0 0 true (fun _ _=>.top)::.ro 0 0 true (fun _ _=>.top)::[])) rfl rfl rfl (by kernel_rfl) rfl (fun _ _ _ _=>rfl) ?_
  simp only [go_sem]
  refine wP zR zB 0 ?_
  simp only [zY,tZ,dZ,go_sem]
  refine storeArrO zR zB (b:=1) (z:=11) (n:=8) rfl rfl rfl rfl rfl (by first|exact ⟨trivial,trivial⟩|(simp only [go_sem,Nat.reduceLeDiff,Nat.reduceLT,Nat.reduceAdd,Nat.reduceMul,Nat.reduceSub,Nat.reduceEqDiff,Nat.reduceBEq,Int.reduceToNat,reduceCtorEq];done)|simp [og]) rfl rfl (by kernel_rfl) rfl (by decide) ?_
  simp only [go_sem]
  refine wP zR zB 1 ?_
  simp only [zY,tS,tZ,dS,dZ,go_sem]
  refine jD ?_
  refine zW ?_
  refine zW ?_
  obtain ⟨w14,hw15,H⟩:=bsj H
  have lhw15:w14.length=8:=by rw [← hw15];exact (by first|rfl|simp)
  refine vD (t2:=(.top::.int .i64 p1::.top::.ptr 0 1 0 0::.top::.top::.top::.bool r3::.ptr 1 11 0 0::.bool r12.2::tp 123 [])) (h2:=[.row 81 1 w9.length (enR c_i64 w9),.row 84 11 w14.length (enR yA w14)]) ?_ ?_
  ·refine zN ⟨[some 0,some 1],?_,?_,by rfl,by rfl⟩
   ·simp [CvL,Cv,yE,tp]
   ·exact ⟨zO xN rfl (fun _ _ _ _=>rfl),zO wC lhw15 (hw15 ▸ (vP (f:=yA) [r12.1.x0,r12.1.x1,r12.1.x2,r12.1.x3,r12.1.x4,r12.1.x5,r12.1.x6,r12.1.x7] (fun _ _=>rfl) rfl)),trivial⟩
  simp only [tp]
  refine rg zB ?_
  simp only [go_sem]
  refine xJ rfl trivial (fun hc=>?_) (fun hc=>?_)
  ·replace H:=yJ hc H
   refine sq zB ?_
   simp only [go_sem]
   refine rg zB ?_
   simp only [go_sem]
   obtain rfl:=Option.some.inj H
   first|rfl|simp only [Bool.and_false,Bool.false_and,Bool.and_true,Bool.true_and]
  replace H:=yI hc H
  refine rg zB ?_
  simp only [go_sem]
  refine zW ?_
  refine jT ?_
  refine wP zR zB 0 ?_
  simp only [zY,tZ,dZ,go_sem]
  repeat ((with_reducible refine aI ?_ ?_);exact an0)
  obtain ⟨f16,H⟩:=zM.1 H
  replace f16:=decide_eq_true_iff.1 f16
  refine uO zR zB (b:=0) (z:=1) (n:=64) (cells:=(.int .i64 (gd w9 0)::.int .i64 (gd w9 1)::.int .i64 (gd w9 2)::.int .i64 (gd w9 3)::.int .i64 (gd w9 4)::.int .i64 (gd w9 5)::.int .i64 (gd w9 6)::.int .i64 (gd w9 7)::.int .i64 (gd w9 8)::.int .i64 (gd w9 9)::.int .i64 (gd w9 10)::.int .i64 (gd w9 11)::.int .i64 (gd w9 12)::.int .i64 (gd w9 13)::.int .i64 (gd w9 14)::.int .i64 (gd w9 15)::.int .i64 (gd w9 16)::.int .i64 (gd w9 17)::.int .i64 (gd w9 18)::.int .i64 (gd w9 19)::.int .i64 (gd w9 20)::.int .i64 (gd w9 21)::.int .i64 (gd w9 22)::.int .i64 (gd w9 23)::.int .i64 (gd w9 24)::.int .i64 (gd w9 25)::.int .i64 (gd w9 26)::.int .i64 (gd w9 27)::.int .i64 (gd w9 28)::.int .i64 (gd w9 29)::.int .i64 (gd w9 30)::.int .i64 (gd w9 31)::.int .i64 (gd w9 32)::.int .i64 (gd w9 33)::.int .i64 (gd w9 34)::.int .i64 (gd w9 35)::.int .i64 (gd w9 36)::.int .i64 (gd w9 37)::.int .i64 (gd w9 38)::.int .i64 (gd w9 39)::.int .i64 (gd w9 40)::.int .i64 (gd w9 41)::.int .i64 (gd w9 42)::.int .i64 (gd w9 43)::.int .i64 (gd w9 44)::.int .i64 (gd w9 45)::.int .i64 (gd w9 46)::.int .i64 (gd w9 47)::.int .i64 (gd w9 48)::.int .i64 (gd w9 49)::.int .i64 (gd w9 50)::.int .i64 (gd w9 51)::.int .i64 (gd w9 52)::.int .i64 (gd w9 53)::.int .i64 (gd w9 54)::.int .i64 (gd w9 55)::.int .i64 (gd w9 56)::.int .i64 (gd w9 57)::.int .i64 (gd w9 58)::.int .i64 (gd w9 59)::.int .i64 (gd w9 60)::.int .i64 (gd w9 61)::.int .i64 (gd w9 62)::.int .i64 (gd w9 63)::[])) rfl rfl rfl rfl (by first|exact trivial|(simp only [go_sem,Nat.reduceLeDiff,Nat.reduceLT,Nat.reduceAdd,Nat.reduceMul,Nat.reduceSub,Nat.reduceEqDiff,Nat.reduceBEq,Int.reduceToNat,reduceCtorEq];done)|simp [og]) rfl f16 (by kernel_rfl) (by kernel_rfl) rfl (by decide) (fun x y hx hy=>(vR (f:=fun x=>c_i64 (gd w9 x)) (n:=64) (fun _=>rfl) x y (by omega) hy).symm) ?_
  simp only [go_sem]
  obtain ⟨r17,e18,H⟩:=bsi H
  refine wP zR ct7t3_ok 1 ?_
  simp only [zY,tS,tZ,dS,dZ,go_sem,Nat.reduceAdd,ct7t3_41,body41,e18]
  repeat ((with_reducible refine aI ?_ ?_);exact an0)
  obtain ⟨w19,hw20,H⟩:=bsj H
  have lhw20:w19.length=8:=by rw [← hw20];exact List.length_replicate
  refine allocO zR zB (len:=w19.length) (z:=1) (l:=(List.replicate 8 (c_i64 0)).flatten) (c:=enR c_i64 w19) rfl rfl rfl (by kernel_rfl) (by rw [lhw20];exact flat_len) (fun x y hx hy=>by subst hw20;exact arr_rep rfl x y (by simpa using hx) hy) ?_
  simp only [go_sem,Nat.reduceAdd]
  refine wP zR zB 0 ?_
  simp only [zY,tZ,dZ,go_sem]
  repeat ((with_reducible refine aI ?_ ?_);exact an0)
  obtain ⟨f21,H⟩:=zM.1 H
  replace f21:=decide_eq_true_iff.1 f21
  refine storeArrO zR zB (b:=2) (z:=1) (n:=8) rfl rfl rfl rfl rfl (by first|exact ⟨trivial,trivial⟩|(simp only [go_sem,Nat.reduceLeDiff,Nat.reduceLT,Nat.reduceAdd,Nat.reduceMul,Nat.reduceSub,Nat.reduceEqDiff,Nat.reduceBEq,Int.reduceToNat,reduceCtorEq];done)|simp [og]) rfl f21 (by kernel_rfl) rfl (by decide) ?_
  simp only [go_sem]
  refine wP zR zB 0 ?_
  simp only [zY,tZ,dZ,go_sem]
  refine jD ?_
  refine zW ?_
  refine zW ?_
  obtain ⟨w22,hw23,H⟩:=bsj H
  have lhw23:w22.length=8:=by rw [← hw23];exact (by first|rfl|simp)
  refine vD (t2:=(.top::.int .i64 p1::.top::.ptr 0 1 0 0::.top::.top::.top::.bool r3::.ptr 1 11 0 0::.top::.ptr 2 1 0 0::tp 122 [])) (h2:=[.row 81 1 w9.length (enR c_i64 w9),.row 84 11 w14.length (enR yA w14),.row 80 1 w22.length (enR c_i64 w22)]) ?_ ?_
  ·refine zN ⟨[some 0,some 1,some 2],?_,?_,by rfl,by rfl⟩
   ·simp [CvL,Cv,yE,tp]
   ·exact ⟨zO xN rfl (fun _ _ _ _=>rfl),zO wC rfl (fun _ _ _ _=>rfl),zO xN lhw23 (hw23 ▸ (vP (f:=c_i64) [r17.x0,r17.x1,r17.x2,r17.x3,r17.x4,r17.x5,r17.x6,r17.x7] (fun _ _=>rfl) rfl)),trivial⟩
  simp only [tp]
  refine rg zB ?_
  simp only [go_sem]
  refine vE ?_
  refine xQ (fun s:Int=>(.top::.int .i64 p1::.top::.ptr 0 1 0 0::.top::.top::.top::.bool r3::.ptr 1 11 0 0::.top::.ptr 2 1 0 0::.int .i64 s::tp 121 [])) (fun s=>[.row 81 1 w9.length (enR c_i64 w9),.row 84 11 w14.length (enR yA w14),.row 80 1 w22.length (enR c_i64 w22)]) (fun e:Unit=>(tp 7 (.bool r3::tp 125 []))) (fun e=>[.dead,.dead,.dead]) H ?_ (fun v1_1 o H hn1_1 hn2_1=>?_) (fun e H=>?_)
  ·refine zN ⟨[some 0,some 1,some 2],?_,?_,by rfl,by rfl⟩
   ·simp [CvL,Cv,yE,tp]
   ·exact ⟨(zT nfA),(zT nfA),(zT nfA),trivial⟩
  ·unfold F7_L1 at H
   try simp only [tp]
   refine zW ?_
   refine sq zB ?_
   simp only [go_sem,Nat.reduceAdd]
   refine condM' rfl trivial (fun hc=>?_) (fun hc=>?_)
   ·replace H:=yI hc H
    refine rg zB ?_
    simp only [go_sem]
    refine ⟨_,(Option.some.inj H).symm,?_⟩
    refine zN ⟨[some 0,some 1,some 2],?_,?_,by rfl,by rfl⟩
    ·simp [CvL,Cv]
    ·exact ⟨zD,zD,zD,trivial⟩
   replace H:=yJ hc H
   refine rg zB ?_
   simp only [go_sem]
   refine zW ?_
   refine vE ?_
   refine zW ?_
   obtain ⟨f24,H⟩:=nI H
   obtain ⟨f25,H⟩:=nI H
   obtain ⟨r26,e27,H⟩:=bsi H
   refine rg ct7t4_ok ?_
   simp only [go_sem,Nat.reduceLT,Nat.reduceAdd,Nat.reduceBEq,ct7t4_27,gB,f24,f25,e27]
   repeat ((with_reducible refine aI ?_ ?_);exact an0)
   refine zW ?_
   refine zW ?_
   obtain ⟨f28,H⟩:=nI H
   obtain ⟨f29,H⟩:=nI H
   refine rg zB ?_
   simp only [go_sem,Nat.reduceLT,f28,f29]
   repeat ((with_reducible refine aI ?_ ?_);exact an1)
   refine xJ rfl trivial (fun hc=>?_) (fun hc=>?_)
   ·replace H:=yJ hc H
    refine sq zB ?_
    simp only [go_sem]
    refine rg zB ?_
    simp only [go_sem]
    have H:=hn2_1 _ (Option.some.inj H).symm
    obtain rfl:=Option.some.inj H
    first|rfl|simp only [Bool.and_false,Bool.false_and,Bool.and_true,Bool.true_and]
   replace H:=yI hc H
   refine rg zB ?_
   simp only [go_sem]
   refine zW ?_
   refine sq zB ?_
   simp only [go_sem]
   refine xJ rfl trivial (fun hc=>?_) (fun hc=>?_)
   ·replace H:=yJ hc H
    refine rg zB ?_
    simp only [go_sem,Nat.reduceBEq]
    refine rg zB ?_
    simp only [go_sem]
    refine ⟨_,(Option.some.inj H).symm,?_⟩
    refine zN ⟨[some 0,some 1,some 2],?_,?_,by rfl,by rfl⟩
    ·simp [CvL,Cv,yE]
    ·exact ⟨(zT nfA),(zT nfA),(zT nfA),trivial⟩
   replace H:=yI hc H
   refine rg zB ?_
   simp only [go_sem]
   refine zW ?_
   refine zW ?_
   obtain ⟨r30,e31,H⟩:=bsi H
   obtain ⟨f32,H⟩:=zM.1 H
   replace f32:=xX.1 f32
   replace f32:=fun g=>yX.1 (f32 g)
   obtain ⟨f33,H⟩:=zM.1 H
   replace f33:=xX.1 f33
   replace f33:=fun g=>yX.1 (f33 g)
   refine wT zR ct7t5_ok (by kernel_rfl) (by kernel_rfl) ?_
   simp only [go_sem,Nat.reduceLeDiff,Nat.reduceLT,Nat.reduceAdd,reduceCtorEq,ct7t5_42,vX,e31]
   repeat ((with_reducible refine And.intro ?_ ?_);focus (first|(with_reducible trivial)|omega|exact f32|exact f33|(intro g;have q:=f32 (by first|exact g|(rw [g];rfl)|simpa using g);first|exact q|exact ⟨q.1,q.2.1⟩|exact q.2.2|omega|exact ⟨g,q⟩|exact ⟨trivial,q⟩|exact ⟨g,q.1,q.2.1⟩|exact ⟨g,q.2.2⟩)|(intro g;have q:=f33 (by first|exact g|(rw [g];rfl)|simpa using g);first|exact q|exact ⟨q.1,q.2.1⟩|exact q.2.2|omega|exact ⟨g,q⟩|exact ⟨trivial,q⟩|exact ⟨g,q.1,q.2.1⟩|exact ⟨g,q.2.2⟩)|(intro g;(try have q0:=f32 (by first|exact g|(rw [g];rfl)|simpa using g));(try have q1:=f33 (by first|exact g|(rw [g];rfl)|simpa using g));and_intros<;>first|(with_reducible trivial)|assumption|exact nfc|(intro g2;rw [g,g2];rfl)|(intro g2;assumption)|(simp only [g,Bool.true_and,Bool.and_true,Bool.not_false,Bool.not_true];assumption)|grind)|(and_intros<;>first|(with_reducible trivial)|omega|assumption|exact nfc|first|exact rfl|exact trivial|exact tP|exact .inr rfl|exact .inl rfl|exact fun x hx=>absurd hx (by omega))|grind))
   refine xJ rfl trivial (fun hc=>?_) (fun hc=>?_)
   ·replace H:=yJ hc H
    refine sq zB ?_
    simp only [go_sem]
    refine rg zB ?_
    simp only [go_sem]
    have H:=hn2_1 _ (Option.some.inj H).symm
    obtain rfl:=Option.some.inj H
    first|rfl|simp only [Bool.and_false,Bool.false_and,Bool.and_true,Bool.true_and]
   replace H:=yI hc H
   refine rg zB ?_
   simp only [go_sem]
   refine sq zB ?_
   simp only [go_sem]
   refine zW ?_
   refine vE ?_
   refine xQ (fun s:Int × Int=>(.top::.int .i64 p1::.top::.ptr 0 1 0 0::.top::.top::.top::.bool r3::.ptr 1 11 0 0::.top::.ptr 2 1 0 0::.int .i64 v1_1::.ptr 3 0 0 0::.top::.int .i64 s.1::.int .i64 s.2::tp 117 [])) (fun s=>[.row 81 1 w9.length (enR c_i64 w9),.row 84 11 w14.length (enR yA w14),.row 80 1 w22.length (enR c_i64 w22),.lit 62 [.int .u8 r26.1.Root.x0,.int .u8 r26.1.Root.x1,.int .u8 r26.1.Root.x2,.int .u8 r26.1.Root.x3,.int .u8 r26.1.Root.x4,.int .u8 r26.1.Root.x5,.int .u8 r26.1.Parent.x0,.int .u8 r26.1.Parent.x1,.int .u8 r26.1.Parent.x2,.int .u8 r26.1.Parent.x3,.int .u8 r26.1.Parent.x4,.int .u8 r26.1.Parent.x5,.int .i64 r26.1.Seq,.int .i64 r26.1.Hops,.int .i64 r26.1.Cost,.bool r26.1.Gate,.int .i64 r26.1.Until]]) (fun e:Int × Int=>(.top::.int .i64 p1::.top::.ptr 0 1 0 0::.top::.top::.top::.bool r3::.ptr 1 11 0 0::.top::.ptr 2 1 0 0::.int .i64 v1_1::.ptr 3 0 0 0::.top::.int .i64 e.1::.int .i64 e.2::tp 117 [])) (fun e=>[.row 81 1 w9.length (enR c_i64 w9),.row 84 11 w14.length (enR yA w14),.row 80 1 w22.length (enR c_i64 w22),.lit 62 [.int .u8 r26.1.Root.x0,.int .u8 r26.1.Root.x1,.int .u8 r26.1.Root.x2,.int .u8 r26.1.Root.x3,.int .u8 r26.1.Root.x4,.int .u8 r26.1.Root.x5,.int .u8 r26.1.Parent.x0,.int .u8 r26.1.Parent.x1,.int .u8 r26.1.Parent.x2,.int .u8 r26.1.Parent.x3,.int .u8 r26.1.Parent.x4,.int .u8 r26.1.Parent.x5,.int .i64 r26.1.Seq,.int .i64 r26.1.Hops,.int .i64 r26.1.Cost,.bool r26.1.Gate,.int .i64 r26.1.Until]]) H ?_ (fun s o H hn1_2 hn2_2=>?_) (fun e H=>?_)
   ·refine zN ⟨[some 0,some 1,some 2,some 3],?_,?_,by rfl,by rfl⟩
    ·simp [CvL,Cv,yE,tp]
    ·exact ⟨(zT nfA),(zT nfA),(zT nfA),cv,trivial⟩
   ·obtain ⟨v2_1,v2_2⟩:=s
    unfold F7_L2 at H
    try simp only [tp]
    refine zW ?_
    refine sq zB ?_
    simp only [go_sem,Nat.reduceAdd]
    refine condM' rfl trivial (fun hc=>?_) (fun hc=>?_)
    ·replace H:=yI hc H
     refine rg zB ?_
     simp only [go_sem,Nat.reduceBEq]
     refine ⟨_,(Option.some.inj H).symm,?_⟩
     refine zN ⟨[some 0,some 1,some 2,some 3],?_,?_,by rfl,by rfl⟩
     ·simp [CvL,Cv,yE]
     ·exact ⟨(zT nfA),(zT nfA),(zT nfA),cv,trivial⟩
    replace H:=yJ hc H
    refine rg zB ?_
    simp only [go_sem]
    refine vE ?_
    refine zW ?_
    obtain ⟨f34,H⟩:=nI H
    obtain ⟨f35,H⟩:=nI H
    obtain ⟨r36,e37,H⟩:=bsi H
    refine rg ct7t4_ok ?_
    simp only [go_sem,Nat.reduceLT,Nat.reduceAdd,Nat.reduceBEq,ct7t4_27,gB,f34,f35,e37]
    repeat ((with_reducible refine aI ?_ ?_);exact an0)
    refine zW ?_
    refine sq zB ?_
    simp only [go_sem]
    refine xJ rfl trivial (fun hc=>?_) (fun hc=>?_)
    ·replace H:=yJ hc H
     refine sq zB ?_
     simp only [go_sem]
     refine rg zB ?_
     simp only [go_sem]
     have H:=hn2_2 _ (Option.some.inj H).symm
     have H:=hn2_1 _ (Option.some.inj H).symm
     obtain rfl:=Option.some.inj H
     first|rfl|simp only [Bool.and_false,Bool.false_and,Bool.and_true,Bool.true_and]
    replace H:=yI hc H
    refine rg zB ?_
    simp only [go_sem]
    refine sq zB ?_
    simp only [go_sem,Nat.reduceLeDiff,Nat.reduceLT,Nat.reduceAdd,Nat.reduceBEq,reduceCtorEq]
    repeat ((with_reducible refine aI ?_ ?_);exact an1)
    refine zW ?_
    refine zW ?_
    obtain ⟨f38,H⟩:=zM.1 H
    replace f38:=xX.1 f38
    replace f38:=fun g=>yX.1 (f38 g)
    obtain ⟨f39,H⟩:=zM.1 H
    replace f39:=xX.1 f39
    replace f39:=fun g=>yX.1 (f39 g)
    obtain ⟨f40,H⟩:=zM.1 H
    replace f40:=xX.1 f40
    replace f40:=fun g=>decide_eq_true_iff.1 (f40 g)
    refine rg zB ?_
    simp only [go_sem,Nat.reduceLT,Nat.reduceBEq]
    repeat ((with_reducible refine And.intro ?_ ?_);focus (first|(with_reducible trivial)|omega|exact f38|exact f39|exact f40|(intro g;have q:=f38 (by first|exact g|(rw [g];rfl)|simpa using g);first|exact q|exact ⟨q.1,q.2.1⟩|exact q.2.2|omega|exact ⟨g,q⟩|exact ⟨trivial,q⟩|exact ⟨g,q.1,q.2.1⟩|exact ⟨g,q.2.2⟩)|(intro g;have q:=f39 (by first|exact g|(rw [g];rfl)|simpa using g);first|exact q|exact ⟨q.1,q.2.1⟩|exact q.2.2|omega|exact ⟨g,q⟩|exact ⟨trivial,q⟩|exact ⟨g,q.1,q.2.1⟩|exact ⟨g,q.2.2⟩)|(intro g;have q:=f40 (by first|exact g|(rw [g];rfl)|simpa using g);first|exact q|exact ⟨q.1,q.2.1⟩|exact q.2.2|omega|exact ⟨g,q⟩|exact ⟨trivial,q⟩|exact ⟨g,q.1,q.2.1⟩|exact ⟨g,q.2.2⟩)|grind))
    refine xJ rfl trivial (fun hc=>?_) (fun hc=>?_)
    ·replace H:=yJ hc H
     refine sq zB ?_
     simp only [go_sem]
     refine rg zB ?_
     simp only [go_sem]
     have H:=hn2_2 _ (Option.some.inj H).symm
     have H:=hn2_1 _ (Option.some.inj H).symm
     obtain rfl:=Option.some.inj H
     first|rfl|simp only [Bool.and_false,Bool.false_and,Bool.and_true,Bool.true_and]
    replace H:=yI hc H
    refine rg zB ?_
    simp only [go_sem]
    refine rg zB ?_
    simp only [go_sem]
    refine ⟨_,(Option.some.inj H).symm,?_⟩
    refine zN ⟨[some 0,some 1,some 2,some 3],?_,?_,by rfl,by rfl⟩
    ·simp [CvL,Cv,yE]
    ·exact ⟨(zT nfA),(zT nfA),(zT nfA),cv,trivial⟩
   ·obtain ⟨w2_3,w2_4⟩:=e
    try simp only [tp]
    try simp only [xA]
    refine sq zB ?_
    simp only [go_sem,Nat.reduceLeDiff,Nat.reduceLT,Nat.reduceAdd]
    refine xJ rfl trivial (fun hc=>?_) (fun hc=>?_)
    ·replace H:=yJ hc H
     refine sq zB ?_
     simp only [go_sem]
     refine rg zB ?_
     simp only [go_sem]
     have H:=hn2_1 _ (Option.some.inj H).symm
     obtain rfl:=Option.some.inj H
     first|rfl|simp only [Bool.and_false,Bool.false_and,Bool.and_true,Bool.true_and]
    replace H:=yI hc H
    refine rg zB ?_
    simp only [go_sem]
    refine rg zB ?_
    simp only [go_sem]
    refine ⟨_,(Option.some.inj H).symm,?_⟩
    refine zN ⟨[some 0,some 1,some 2],?_,?_,by rfl,by rfl⟩
    ·simp [CvL,Cv,yE]
    ·exact ⟨(zT nfA),(zT nfA),(zT nfA),trivial⟩
  ·try dsimp only at H ⊢
   try simp only [tp]
   try simp only [xA]
   refine sq zB ?_
   simp only [go_sem]
   refine rg zB ?_
   simp only [go_sem]
   obtain rfl:=Option.some.inj H
   first|rfl|simp only [Bool.and_false,Bool.false_and,Bool.and_true,Bool.true_and]
 ·cases hb
end Go.Proofs.Ytdcepineppafpaa
