/-
  What RootSettled reaches.
-/
import Derived.Test.YtdcepineppafpaaY7p1
namespace Go.Proofs.Ytdcepineppafpaa
open Go.Am
set_option maxHeartbeats 4000000
set_option maxRecDepth 20000
set_option linter.unusedVariables false
set_option linter.unusedSimpArgs false
noncomputable def dX (v1_2:Int) (v2_1:List Int) (v2_2:Int):Option (Lp ((List Int) × Int) ((List Int) ⊕ (A8A8i64))) :=
 bif (bLt v2_2 v1_2) then (need (inb v1_2 8) <| need (inb v2_2 8) <| need (decide (v1_2.toNat * 8+v2_2.toNat < v2_1.length)) <| bif ((bLt (gd v2_1 (v1_2.toNat * 8+v2_2.toNat)) 0) || (bLt 1000000 (gd v2_1 (v1_2.toNat * 8+v2_2.toNat)))) then (need (inb v1_2 8) <| need (inb v2_2 8) <| need (decide (v1_2.toNat * 8+v2_2.toNat < v2_1.length)) <| need (inb v2_2 8) <| need (inb v1_2 8) <| need (decide (v2_2.toNat * 8+v1_2.toNat < v2_1.length)) <| some (.next (((v2_1.set (v1_2.toNat * 8+v2_2.toNat) 0).set (v2_2.toNat * 8+v1_2.toNat) 0),wr .i64 (v2_2+1)))) else (need (inb v1_2 8) <| need (inb v2_2 8) <| need (decide (v1_2.toNat * 8+v2_2.toNat < v2_1.length)) <| need (inb v2_2 8) <| need (inb v1_2 8) <| need (decide (v2_2.toNat * 8+v1_2.toNat < v2_1.length)) <| some (.next (((v2_1.set (v1_2.toNat * 8+v2_2.toNat) (gd v2_1 (v1_2.toNat * 8+v2_2.toNat))).set (v2_2.toNat * 8+v1_2.toNat) (gd v2_1 (v1_2.toNat * 8+v2_2.toNat))),wr .i64 (v2_2+1))))) else (some (.done (.inl v2_1)))
noncomputable def F39_L1 (v1_1:List Int) (v1_2:Int):Option (Lp ((List Int) × Int) ((List Int) ⊕ (A8A8i64))) :=
 bif (bLt v1_2 8) then (need (inb v1_2 8) <| need (inb v1_2 8) <| need (decide (v1_2.toNat * 8+v1_2.toNat < v1_1.length)) <| lp (yP (fun s=>dX v1_2 s.1 s.2) ((v1_1.set (v1_2.toNat * 8+v1_2.toNat) 0),0)) (fun w2_3=>some (.next (w2_3,wr .i64 (v1_2+1)))) (fun r=>some (.done (.inr r)))) else (some (.done (.inl v1_1)))
noncomputable def F39 (p0:A8A8i64):Option (A8A8i64) :=
 (some [p0.x0.x0,p0.x0.x1,p0.x0.x2,p0.x0.x3,p0.x0.x4,p0.x0.x5,p0.x0.x6,p0.x0.x7,p0.x1.x0,p0.x1.x1,p0.x1.x2,p0.x1.x3,p0.x1.x4,p0.x1.x5,p0.x1.x6,p0.x1.x7,p0.x2.x0,p0.x2.x1,p0.x2.x2,p0.x2.x3,p0.x2.x4,p0.x2.x5,p0.x2.x6,p0.x2.x7,p0.x3.x0,p0.x3.x1,p0.x3.x2,p0.x3.x3,p0.x3.x4,p0.x3.x5,p0.x3.x6,p0.x3.x7,p0.x4.x0,p0.x4.x1,p0.x4.x2,p0.x4.x3,p0.x4.x4,p0.x4.x5,p0.x4.x6,p0.x4.x7,p0.x5.x0,p0.x5.x1,p0.x5.x2,p0.x5.x3,p0.x5.x4,p0.x5.x5,p0.x5.x6,p0.x5.x7,p0.x6.x0,p0.x6.x1,p0.x6.x2,p0.x6.x3,p0.x6.x4,p0.x6.x5,p0.x6.x6,p0.x6.x7,p0.x7.x0,p0.x7.x1,p0.x7.x2,p0.x7.x3,p0.x7.x4,p0.x7.x5,p0.x7.x6,p0.x7.x7]).bind fun w1=>lp (yP (fun s=>F39_L1 s.1 s.2) (w1,0)) (fun w1_3=>need (decide (w1_3.length=64)) <| some (A8A8i64.mk (A8i64.mk (gd w1_3 0) (gd w1_3 1) (gd w1_3 2) (gd w1_3 3) (gd w1_3 4) (gd w1_3 5) (gd w1_3 6) (gd w1_3 7)) (A8i64.mk (gd w1_3 8) (gd w1_3 9) (gd w1_3 10) (gd w1_3 11) (gd w1_3 12) (gd w1_3 13) (gd w1_3 14) (gd w1_3 15)) (A8i64.mk (gd w1_3 16) (gd w1_3 17) (gd w1_3 18) (gd w1_3 19) (gd w1_3 20) (gd w1_3 21) (gd w1_3 22) (gd w1_3 23)) (A8i64.mk (gd w1_3 24) (gd w1_3 25) (gd w1_3 26) (gd w1_3 27) (gd w1_3 28) (gd w1_3 29) (gd w1_3 30) (gd w1_3 31)) (A8i64.mk (gd w1_3 32) (gd w1_3 33) (gd w1_3 34) (gd w1_3 35) (gd w1_3 36) (gd w1_3 37) (gd w1_3 38) (gd w1_3 39)) (A8i64.mk (gd w1_3 40) (gd w1_3 41) (gd w1_3 42) (gd w1_3 43) (gd w1_3 44) (gd w1_3 45) (gd w1_3 46) (gd w1_3 47)) (A8i64.mk (gd w1_3 48) (gd w1_3 49) (gd w1_3 50) (gd w1_3 51) (gd w1_3 52) (gd w1_3 53) (gd w1_3 54) (gd w1_3 55)) (A8i64.mk (gd w1_3 56) (gd w1_3 57) (gd w1_3 58) (gd w1_3 59) (gd w1_3 60) (gd w1_3 61) (gd w1_3 62) (gd w1_3 63)))) some
noncomputable def body39:List AV->AR
 | [v0]=>.pure (aK 64 vC v0/\(F39 (g_A8A8i64 (aL v0))).isSome=true) (.agg (.int .i64 (((gt (F39 (g_A8A8i64 (aL v0)))).x0).x0)::.int .i64 (((gt (F39 (g_A8A8i64 (aL v0)))).x0).x1)::.int .i64 (((gt (F39 (g_A8A8i64 (aL v0)))).x0).x2)::.int .i64 (((gt (F39 (g_A8A8i64 (aL v0)))).x0).x3)::.int .i64 (((gt (F39 (g_A8A8i64 (aL v0)))).x0).x4)::.int .i64 (((gt (F39 (g_A8A8i64 (aL v0)))).x0).x5)::.int .i64 (((gt (F39 (g_A8A8i64 (aL v0)))).x0).x6)::.int .i64 (((gt (F39 (g_A8A8i64 (aL v0)))).x0).x7)::.int .i64 (((gt (F39 (g_A8A8i64 (aL v0)))).x1).x0)::.int .i64 (((gt (F39 (g_A8A8i64 (aL v0)))).x1).x1)::.int .i64 (((gt (F39 (g_A8A8i64 (aL v0)))).x1).x2)::.int .i64 (((gt (F39 (g_A8A8i64 (aL v0)))).x1).x3)::.int .i64 (((gt (F39 (g_A8A8i64 (aL v0)))).x1).x4)::.int .i64 (((gt (F39 (g_A8A8i64 (aL v0)))).x1).x5)::.int .i64 (((gt (F39 (g_A8A8i64 (aL v0)))).x1).x6)::.int .i64 (((gt (F39 (g_A8A8i64 (aL v0)))).x1).x7)::.int .i64 (((gt (F39 (g_A8A8i64 (aL v0)))).x2).x0)::.int .i64 (((gt (F39 (g_A8A8i64 (aL v0)))).x2).x1)::.int .i64 (((gt (F39 (g_A8A8i64 (aL v0)))).x2).x2)::.int .i64 (((gt (F39 (g_A8A8i64 (aL v0)))).x2).x3)::.int .i64 (((gt (F39 (g_A8A8i64 (aL v0)))).x2).x4)::.int .i64 (((gt (F39 (g_A8A8i64 (aL v0)))).x2).x5)::.int .i64 (((gt (F39 (g_A8A8i64 (aL v0)))).x2).x6)::.int .i64 (((gt (F39 (g_A8A8i64 (aL v0)))).x2).x7)::.int .i64 (((gt (F39 (g_A8A8i64 (aL v0)))).x3).x0)::.int .i64 (((gt (F39 (g_A8A8i64 (aL v0)))).x3).x1)::.int .i64 (((gt (F39 (g_A8A8i64 (aL v0)))).x3).x2)::.int .i64 (((gt (F39 (g_A8A8i64 (aL v0)))).x3).x3)::.int .i64 (((gt (F39 (g_A8A8i64 (aL v0)))).x3).x4)::.int .i64 (((gt (F39 (g_A8A8i64 (aL v0)))).x3).x5)::.int .i64 (((gt (F39 (g_A8A8i64 (aL v0)))).x3).x6)::.int .i64 (((gt (F39 (g_A8A8i64 (aL v0)))).x3).x7)::.int .i64 (((gt (F39 (g_A8A8i64 (aL v0)))).x4).x0)::.int .i64 (((gt (F39 (g_A8A8i64 (aL v0)))).x4).x1)::.int .i64 (((gt (F39 (g_A8A8i64 (aL v0)))).x4).x2)::.int .i64 (((gt (F39 (g_A8A8i64 (aL v0)))).x4).x3)::.int .i64 (((gt (F39 (g_A8A8i64 (aL v0)))).x4).x4)::.int .i64 (((gt (F39 (g_A8A8i64 (aL v0)))).x4).x5)::.int .i64 (((gt (F39 (g_A8A8i64 (aL v0)))).x4).x6)::.int .i64 (((gt (F39 (g_A8A8i64 (aL v0)))).x4).x7)::.int .i64 (((gt (F39 (g_A8A8i64 (aL v0)))).x5).x0)::.int .i64 (((gt (F39 (g_A8A8i64 (aL v0)))).x5).x1)::.int .i64 (((gt (F39 (g_A8A8i64 (aL v0)))).x5).x2)::.int .i64 (((gt (F39 (g_A8A8i64 (aL v0)))).x5).x3)::.int .i64 (((gt (F39 (g_A8A8i64 (aL v0)))).x5).x4)::.int .i64 (((gt (F39 (g_A8A8i64 (aL v0)))).x5).x5)::.int .i64 (((gt (F39 (g_A8A8i64 (aL v0)))).x5).x6)::.int .i64 (((gt (F39 (g_A8A8i64 (aL v0)))).x5).x7)::.int .i64 (((gt (F39 (g_A8A8i64 (aL v0)))).x6).x0)::.int .i64 (((gt (F39 (g_A8A8i64 (aL v0)))).x6).x1)::.int .i64 (((gt (F39 (g_A8A8i64 (aL v0)))).x6).x2)::.int .i64 (((gt (F39 (g_A8A8i64 (aL v0)))).x6).x3)::.int .i64 (((gt (F39 (g_A8A8i64 (aL v0)))).x6).x4)::.int .i64 (((gt (F39 (g_A8A8i64 (aL v0)))).x6).x5)::.int .i64 (((gt (F39 (g_A8A8i64 (aL v0)))).x6).x6)::.int .i64 (((gt (F39 (g_A8A8i64 (aL v0)))).x6).x7)::.int .i64 (((gt (F39 (g_A8A8i64 (aL v0)))).x7).x0)::.int .i64 (((gt (F39 (g_A8A8i64 (aL v0)))).x7).x1)::.int .i64 (((gt (F39 (g_A8A8i64 (aL v0)))).x7).x2)::.int .i64 (((gt (F39 (g_A8A8i64 (aL v0)))).x7).x3)::.int .i64 (((gt (F39 (g_A8A8i64 (aL v0)))).x7).x4)::.int .i64 (((gt (F39 (g_A8A8i64 (aL v0)))).x7).x5)::.int .i64 (((gt (F39 (g_A8A8i64 (aL v0)))).x7).x6)::.int .i64 (((gt (F39 (g_A8A8i64 (aL v0)))).x7).x7)::[]))
 | _=>.fail
theorem ok39:wS Try.prog 39 (yD body39):=by
 refine xH body39 (rs:=[.cell 2 81]) Try.func39 (by kernel_rfl) rfl rfl ?_
 intro l ob v hb hob
 unfold body39 at hb
 split at hb
 ·rename_i v0
  injection hb with q1 q2;subst q1 q2
  obtain ⟨hk0_0,hob⟩:=hob
  obtain ⟨r,H⟩:=oE.1 hob
  rw [H,zU]
  have hw0:=jQ hk0_0
  generalize g_A8A8i64 (aL v0)=p0 at H hw0
  refine ⟨[.agg (.int .i64 p0.x0.x0::.int .i64 p0.x0.x1::.int .i64 p0.x0.x2::.int .i64 p0.x0.x3::.int .i64 p0.x0.x4::.int .i64 p0.x0.x5::.int .i64 p0.x0.x6::.int .i64 p0.x0.x7::.int .i64 p0.x1.x0::.int .i64 p0.x1.x1::.int .i64 p0.x1.x2::.int .i64 p0.x1.x3::.int .i64 p0.x1.x4::.int .i64 p0.x1.x5::.int .i64 p0.x1.x6::.int .i64 p0.x1.x7::.int .i64 p0.x2.x0::.int .i64 p0.x2.x1::.int .i64 p0.x2.x2::.int .i64 p0.x2.x3::.int .i64 p0.x2.x4::.int .i64 p0.x2.x5::.int .i64 p0.x2.x6::.int .i64 p0.x2.x7::.int .i64 p0.x3.x0::.int .i64 p0.x3.x1::.int .i64 p0.x3.x2::.int .i64 p0.x3.x3::.int .i64 p0.x3.x4::.int .i64 p0.x3.x5::.int .i64 p0.x3.x6::.int .i64 p0.x3.x7::.int .i64 p0.x4.x0::.int .i64 p0.x4.x1::.int .i64 p0.x4.x2::.int .i64 p0.x4.x3::.int .i64 p0.x4.x4::.int .i64 p0.x4.x5::.int .i64 p0.x4.x6::.int .i64 p0.x4.x7::.int .i64 p0.x5.x0::.int .i64 p0.x5.x1::.int .i64 p0.x5.x2::.int .i64 p0.x5.x3::.int .i64 p0.x5.x4::.int .i64 p0.x5.x5::.int .i64 p0.x5.x6::.int .i64 p0.x5.x7::.int .i64 p0.x6.x0::.int .i64 p0.x6.x1::.int .i64 p0.x6.x2::.int .i64 p0.x6.x3::.int .i64 p0.x6.x4::.int .i64 p0.x6.x5::.int .i64 p0.x6.x6::.int .i64 p0.x6.x7::.int .i64 p0.x7.x0::.int .i64 p0.x7.x1::.int .i64 p0.x7.x2::.int .i64 p0.x7.x3::.int .i64 p0.x7.x4::.int .i64 p0.x7.x5::.int .i64 p0.x7.x6::.int .i64 p0.x7.x7::[])],_,(fun E vs F=>yU hw0.1 F (fun vs F=>F)),rfl,rfl,?_⟩
  rw [Try.ntmps39]
  simp only [lC,lN,Nat.reduceAdd,Nat.reduceSub,rS,rZ,aC,aN]
  unfold F39 at H
  refine zW ?_
  refine jT ?_
  refine wP zR zB 0 ?_
  simp only [zY,tZ,dZ,go_sem]
  refine dA zR zB (len:=64) (z:=1) rfl rfl rfl rfl (by first|exact trivial|(simp only [go_sem,Nat.reduceLeDiff,Nat.reduceLT,Nat.reduceAdd,Nat.reduceMul,Nat.reduceSub,Nat.reduceEqDiff,Nat.reduceBEq,Int.reduceToNat,reduceCtorEq];done)|simp [og]) rfl ?_
  simp only [go_sem]
  refine wP zR zB 1 ?_
  simp only [zY,tS,tZ,dS,dZ,go_sem]
  refine jD ?_
  refine zW ?_
  refine zW ?_
  obtain ⟨w1,hw2,H⟩:=bsj H
  have lhw2:w1.length=64:=by rw [← hw2];exact (by first|rfl|simp)
  refine vD (t2:=(.top::.ptr 0 1 0 0::.ptr 1 0 0 0::tp 38 [])) (h2:=[.row 81 1 w1.length (enR c_i64 w1),.lit 81 (.int .i64 0::.int .i64 0::.int .i64 0::.int .i64 0::.int .i64 0::.int .i64 0::.int .i64 0::.int .i64 0::.int .i64 0::.int .i64 0::.int .i64 0::.int .i64 0::.int .i64 0::.int .i64 0::.int .i64 0::.int .i64 0::.int .i64 0::.int .i64 0::.int .i64 0::.int .i64 0::.int .i64 0::.int .i64 0::.int .i64 0::.int .i64 0::.int .i64 0::.int .i64 0::.int .i64 0::.int .i64 0::.int .i64 0::.int .i64 0::.int .i64 0::.int .i64 0::.int .i64 0::.int .i64 0::.int .i64 0::.int .i64 0::.int .i64 0::.int .i64 0::.int .i64 0::.int .i64 0::.int .i64 0::.int .i64 0::.int .i64 0::.int .i64 0::.int .i64 0::.int .i64 0::.int .i64 0::.int .i64 0::.int .i64 0::.int .i64 0::.int .i64 0::.int .i64 0::.int .i64 0::.int .i64 0::.int .i64 0::.int .i64 0::.int .i64 0::.int .i64 0::.int .i64 0::.int .i64 0::.int .i64 0::.int .i64 0::.int .i64 0::.int .i64 0::[])]) ?_ ?_
  ·refine zN ⟨[some 0,some 1],?_,?_,by rfl,by rfl⟩
   ·simp [CvL,Cv,yE,tp]
   ·exact ⟨zO xN lhw2 (hw2 ▸ (vP (f:=c_i64) [p0.x0.x0,p0.x0.x1,p0.x0.x2,p0.x0.x3,p0.x0.x4,p0.x0.x5,p0.x0.x6,p0.x0.x7,p0.x1.x0,p0.x1.x1,p0.x1.x2,p0.x1.x3,p0.x1.x4,p0.x1.x5,p0.x1.x6,p0.x1.x7,p0.x2.x0,p0.x2.x1,p0.x2.x2,p0.x2.x3,p0.x2.x4,p0.x2.x5,p0.x2.x6,p0.x2.x7,p0.x3.x0,p0.x3.x1,p0.x3.x2,p0.x3.x3,p0.x3.x4,p0.x3.x5,p0.x3.x6,p0.x3.x7,p0.x4.x0,p0.x4.x1,p0.x4.x2,p0.x4.x3,p0.x4.x4,p0.x4.x5,p0.x4.x6,p0.x4.x7,p0.x5.x0,p0.x5.x1,p0.x5.x2,p0.x5.x3,p0.x5.x4,p0.x5.x5,p0.x5.x6,p0.x5.x7,p0.x6.x0,p0.x6.x1,p0.x6.x2,p0.x6.x3,p0.x6.x4,p0.x6.x5,p0.x6.x6,p0.x6.x7,p0.x7.x0,p0.x7.x1,p0.x7.x2,p0.x7.x3,p0.x7.x4,p0.x7.x5,p0.x7.x6,p0.x7.x7] (fun _ _=>rfl) rfl)),(by simp [CvB,CvL,Cv,tC,geth]),trivial⟩
  simp only [tp]
  refine rg zB ?_
  simp only [go_sem]
  refine vE ?_
  refine xQ (fun s:(List Int) × Int=>(.top::.ptr 2 1 0 0::.ptr 1 0 0 0::.int .i64 s.2::tp 37 [])) (fun s=>[.dead,.lit 81 (.int .i64 0::.int .i64 0::.int .i64 0::.int .i64 0::.int .i64 0::.int .i64 0::.int .i64 0::.int .i64 0::.int .i64 0::.int .i64 0::.int .i64 0::.int .i64 0::.int .i64 0::.int .i64 0::.int .i64 0::.int .i64 0::.int .i64 0::.int .i64 0::.int .i64 0::.int .i64 0::.int .i64 0::.int .i64 0::.int .i64 0::.int .i64 0::.int .i64 0::.int .i64 0::.int .i64 0::.int .i64 0::.int .i64 0::.int .i64 0::.int .i64 0::.int .i64 0::.int .i64 0::.int .i64 0::.int .i64 0::.int .i64 0::.int .i64 0::.int .i64 0::.int .i64 0::.int .i64 0::.int .i64 0::.int .i64 0::.int .i64 0::.int .i64 0::.int .i64 0::.int .i64 0::.int .i64 0::.int .i64 0::.int .i64 0::.int .i64 0::.int .i64 0::.int .i64 0::.int .i64 0::.int .i64 0::.int .i64 0::.int .i64 0::.int .i64 0::.int .i64 0::.int .i64 0::.int .i64 0::.int .i64 0::.int .i64 0::.int .i64 0::.int .i64 0::[]),.row 81 1 s.1.length (enR c_i64 s.1)]) (fun e:List Int=>(.top::.ptr 2 1 0 0::.ptr 1 0 0 0::tp 38 [])) (fun e=>[.dead,.lit 81 (.int .i64 0::.int .i64 0::.int .i64 0::.int .i64 0::.int .i64 0::.int .i64 0::.int .i64 0::.int .i64 0::.int .i64 0::.int .i64 0::.int .i64 0::.int .i64 0::.int .i64 0::.int .i64 0::.int .i64 0::.int .i64 0::.int .i64 0::.int .i64 0::.int .i64 0::.int .i64 0::.int .i64 0::.int .i64 0::.int .i64 0::.int .i64 0::.int .i64 0::.int .i64 0::.int .i64 0::.int .i64 0::.int .i64 0::.int .i64 0::.int .i64 0::.int .i64 0::.int .i64 0::.int .i64 0::.int .i64 0::.int .i64 0::.int .i64 0::.int .i64 0::.int .i64 0::.int .i64 0::.int .i64 0::.int .i64 0::.int .i64 0::.int .i64 0::.int .i64 0::.int .i64 0::.int .i64 0::.int .i64 0::.int .i64 0::.int .i64 0::.int .i64 0::.int .i64 0::.int .i64 0::.int .i64 0::.int .i64 0::.int .i64 0::.int .i64 0::.int .i64 0::.int .i64 0::.int .i64 0::.int .i64 0::.int .i64 0::.int .i64 0::.int .i64 0::[]),.row 81 1 e.length (enR c_i64 e)]) H ?_ (fun s o H hn1_1 hn2_1=>?_) (fun w1_3 H=>?_)
  ·refine zN ⟨[some 0,some 1,some 0],?_,?_,by rfl,by rfl⟩
   ·simp [CvL,Cv,yE,tp]
   ·exact ⟨zD,cv,zO xN cl (fun _ _ _ _=>rfl),trivial⟩
  ·obtain ⟨v1_1,v1_2⟩:=s
   unfold F39_L1 at H
   try dsimp only at H ⊢
   try simp only [tp]
   refine zW ?_
   refine sq zB ?_
   simp only [go_sem,Nat.reduceAdd]
   refine condM' rfl trivial (fun hc=>?_) (fun hc=>?_)
   ·replace H:=yI hc H
    refine rg zB ?_
    simp only [go_sem]
    refine ⟨_,(Option.some.inj H).symm,?_⟩
    refine zN ⟨[some 0,some 1,some 2],?_,?_,by rfl,by rfl⟩
    ·simp [CvL,Cv,yE]
    ·exact ⟨zD,cv,zO xN cl (fun _ _ _ _=>rfl),trivial⟩
   replace H:=yJ hc H
   refine rg zB ?_
   simp only [go_sem]
   refine zW ?_
   refine vE ?_
   refine zW ?_
   obtain ⟨f3,H⟩:=nI H
   obtain ⟨f4,H⟩:=nI H
   obtain ⟨f5,H⟩:=zM.1 H
   replace f5:=decide_eq_true_iff.1 f5
   refine rg zB ?_
   simp only [go_sem,Nat.reduceBEq,f3,f5]
   repeat ((with_reducible refine aI ?_ ?_);exact an1)
   refine sq zB ?_
   simp only [go_sem]
   refine vE ?_
   refine xQ (fun s:(List Int) × Int=>(.top::.ptr 3 1 0 0::.ptr 1 0 0 0::.int .i64 v1_2::.int .i64 s.2::tp 36 [])) (fun s=>[.dead,.lit 81 (.int .i64 0::.int .i64 0::.int .i64 0::.int .i64 0::.int .i64 0::.int .i64 0::.int .i64 0::.int .i64 0::.int .i64 0::.int .i64 0::.int .i64 0::.int .i64 0::.int .i64 0::.int .i64 0::.int .i64 0::.int .i64 0::.int .i64 0::.int .i64 0::.int .i64 0::.int .i64 0::.int .i64 0::.int .i64 0::.int .i64 0::.int .i64 0::.int .i64 0::.int .i64 0::.int .i64 0::.int .i64 0::.int .i64 0::.int .i64 0::.int .i64 0::.int .i64 0::.int .i64 0::.int .i64 0::.int .i64 0::.int .i64 0::.int .i64 0::.int .i64 0::.int .i64 0::.int .i64 0::.int .i64 0::.int .i64 0::.int .i64 0::.int .i64 0::.int .i64 0::.int .i64 0::.int .i64 0::.int .i64 0::.int .i64 0::.int .i64 0::.int .i64 0::.int .i64 0::.int .i64 0::.int .i64 0::.int .i64 0::.int .i64 0::.int .i64 0::.int .i64 0::.int .i64 0::.int .i64 0::.int .i64 0::.int .i64 0::.int .i64 0::.int .i64 0::[]),.dead,.row 81 1 s.1.length (enR c_i64 s.1)]) (fun e:List Int=>(.top::.ptr 3 1 0 0::.ptr 1 0 0 0::.int .i64 v1_2::tp 37 [])) (fun e=>[.dead,.lit 81 (.int .i64 0::.int .i64 0::.int .i64 0::.int .i64 0::.int .i64 0::.int .i64 0::.int .i64 0::.int .i64 0::.int .i64 0::.int .i64 0::.int .i64 0::.int .i64 0::.int .i64 0::.int .i64 0::.int .i64 0::.int .i64 0::.int .i64 0::.int .i64 0::.int .i64 0::.int .i64 0::.int .i64 0::.int .i64 0::.int .i64 0::.int .i64 0::.int .i64 0::.int .i64 0::.int .i64 0::.int .i64 0::.int .i64 0::.int .i64 0::.int .i64 0::.int .i64 0::.int .i64 0::.int .i64 0::.int .i64 0::.int .i64 0::.int .i64 0::.int .i64 0::.int .i64 0::.int .i64 0::.int .i64 0::.int .i64 0::.int .i64 0::.int .i64 0::.int .i64 0::.int .i64 0::.int .i64 0::.int .i64 0::.int .i64 0::.int .i64 0::.int .i64 0::.int .i64 0::.int .i64 0::.int .i64 0::.int .i64 0::.int .i64 0::.int .i64 0::.int .i64 0::.int .i64 0::.int .i64 0::.int .i64 0::.int .i64 0::.int .i64 0::.int .i64 0::[]),.dead,.row 81 1 e.length (enR c_i64 e)]) H ?_ (fun s o H hn1_2 hn2_2=>?_) (fun w2_3 H=>?_)
   ·refine zN ⟨[some 0,some 1,some 2,some 2],?_,?_,by rfl,by rfl⟩
    ·simp [CvL,Cv,yE,tp]
    ·exact ⟨zD,cv,zD,zO xN cl (uV (f:=c_i64) v1_1 (v1_2.toNat * 8+v1_2.toNat) 0 0 (fun _ _ _ _=>rfl) (fun y hy=>match y,hy with|0,_=>rfl|(y+1),h=>absurd h nlt)),trivial⟩
   ·obtain ⟨v2_1,v2_2⟩:=s
    unfold dX at H
    try simp only [tp]
    refine zW ?_
    refine sq zB ?_
    simp only [go_sem,Nat.reduceAdd]
    refine condM' rfl trivial (fun hc=>?_) (fun hc=>?_)
    ·replace H:=yI hc H
     refine rg zB ?_
     simp only [go_sem,Nat.reduceBEq]
     refine ⟨_,(Option.some.inj H).symm,?_⟩
     refine zN ⟨[some 0,some 1,some 2,some 3],?_,?_,by rfl,by rfl⟩
     ·simp [CvL,Cv,yE]
     ·exact ⟨zD,cv,zD,zO xN cl (fun _ _ _ _=>rfl),trivial⟩
    replace H:=yJ hc H
    refine rg zB ?_
    simp only [go_sem]
    refine zW ?_
    refine vE ?_
    refine zW ?_
    obtain ⟨f6,H⟩:=nI H
    obtain ⟨f7,H⟩:=nI H
    obtain ⟨f8,H⟩:=zM.1 H
    replace f8:=decide_eq_true_iff.1 f8
    refine rg zB ?_
    simp only [go_sem,Nat.reduceLT,Nat.reduceBEq,f6,f7,f8]
    repeat ((with_reducible refine aI ?_ ?_);exact an1)
    refine zW ?_
    refine sq zB ?_
    simp only [go_sem]
    refine xJ rfl trivial (fun hc=>?_) (fun hc=>?_)
    ·replace H:=yJ hc H
     refine rg zB ?_
     simp only [go_sem]
     obtain ⟨f9,H⟩:=nI H
     obtain ⟨f10,H⟩:=nI H
     obtain ⟨f11,H⟩:=zM.1 H
     replace f11:=decide_eq_true_iff.1 f11
     obtain ⟨f12,H⟩:=nI H
     obtain ⟨f13,H⟩:=nI H
     obtain ⟨f14,H⟩:=zM.1 H
     replace f14:=decide_eq_true_iff.1 f14
     refine vA zR zB 0 (by kernel_rfl) (by kernel_rfl) ?_
     intro an han
     simp only [fT,qY,cS,xrD,xoD,dP,qU,List.append_nil,wJ,refs,mask,tK,place,vS,tL,uE,hit,inL,wO,nrH,nrB,rZ,Nat.sub_self,Nat.add_zero,Nat.zero_add,Nat.reduceSub,Nat.lt_add_one,go_sem,Nat.reduceLeDiff,Nat.reduceLT,Nat.reduceAdd,Nat.reduceSub,Nat.reduceBEq,f9,f10,f11,f14]
     repeat ((with_reducible refine aI ?_ ?_);exact an3)
     refine rg zB ?_
     simp only [go_sem]
     refine ⟨_,(Option.some.inj H).symm,?_⟩
     refine zN ⟨[some 0,some 1,some 2,some 3],?_,?_,by rfl,by rfl⟩
     ·simp [CvL,Cv,yE]
     ·exact ⟨zD,cv,zD,zO xN cl (uV (f:=c_i64) (v2_1.set (v1_2.toNat * 8+v2_2.toNat) 0) (v2_2.toNat * 8+v1_2.toNat) 0 0 (uV (f:=c_i64) v2_1 (v1_2.toNat * 8+v2_2.toNat) 0 0 (fun _ _ _ _=>rfl) (fun y hy=>match y,hy with|0,_=>rfl|(y+1),h=>absurd h nlt)) (fun y hy=>match y,hy with|0,_=>rfl|(y+1),h=>absurd h nlt)),trivial⟩
    replace H:=yI hc H
    refine rg zB ?_
    simp only [go_sem]
    obtain ⟨f15,H⟩:=nI H
    obtain ⟨f16,H⟩:=nI H
    obtain ⟨f17,H⟩:=zM.1 H
    replace f17:=decide_eq_true_iff.1 f17
    obtain ⟨f18,H⟩:=nI H
    obtain ⟨f19,H⟩:=nI H
    obtain ⟨f20,H⟩:=zM.1 H
    replace f20:=decide_eq_true_iff.1 f20
    refine vA zR zB 0 (by kernel_rfl) (by kernel_rfl) ?_
    intro an han
    simp only [fT,qY,cS,xrD,xoD,dP,qU,List.append_nil,wJ,refs,mask,tK,place,vS,tL,uE,hit,inL,wO,nrH,nrB,rZ,Nat.sub_self,Nat.add_zero,Nat.zero_add,Nat.reduceSub,Nat.lt_add_one,go_sem,Nat.reduceLeDiff,Nat.reduceLT,Nat.reduceAdd,Nat.reduceSub,Nat.reduceBEq,f15,f16,f17,f20]
    repeat ((with_reducible refine aI ?_ ?_);exact an3)
    refine rg zB ?_
    simp only [go_sem]
    refine ⟨_,(Option.some.inj H).symm,?_⟩
    refine zN ⟨[some 0,some 1,some 2,some 3],?_,?_,by rfl,by rfl⟩
    ·simp [CvL,Cv,yE]
    ·exact ⟨zD,cv,zD,zO xN cl (uV (f:=c_i64) (v2_1.set (v1_2.toNat * 8+v2_2.toNat) (gd v2_1 (v1_2.toNat * 8+v2_2.toNat))) (v2_2.toNat * 8+v1_2.toNat) 0 (gd v2_1 (v1_2.toNat * 8+v2_2.toNat)) (uV (f:=c_i64) v2_1 (v1_2.toNat * 8+v2_2.toNat) 0 (gd v2_1 (v1_2.toNat * 8+v2_2.toNat)) (fun _ _ _ _=>rfl) (fun y hy=>match y,hy with|0,_=>rfl|(y+1),h=>absurd h nlt)) (fun y hy=>match y,hy with|0,_=>rfl|(y+1),h=>absurd h nlt)),trivial⟩
   ·try dsimp only at H ⊢
    try simp only [tp]
    try simp only [xA,bG]
    refine rg zB ?_
    simp only [go_sem]
    refine ⟨_,(Option.some.inj H).symm,?_⟩
    refine zN ⟨[some 0,some 1,some 3],?_,?_,by rfl,by rfl⟩
    ·simp [CvL,Cv,yE]
    ·exact ⟨zD,cv,zO xN cl (fun _ _ _ _=>rfl),trivial⟩
  ·try dsimp only at H ⊢
   try simp only [tp]
   try simp only [xA]
   refine zW ?_
   refine jT ?_
   refine wP zR zB 0 ?_
   simp only [zY,tZ,dZ,go_sem]
   obtain ⟨f21,H⟩:=zM.1 H
   replace f21:=decide_eq_true_iff.1 f21
   refine uO zR zB (b:=2) (z:=1) (n:=64) (cells:=(.int .i64 (gd w1_3 0)::.int .i64 (gd w1_3 1)::.int .i64 (gd w1_3 2)::.int .i64 (gd w1_3 3)::.int .i64 (gd w1_3 4)::.int .i64 (gd w1_3 5)::.int .i64 (gd w1_3 6)::.int .i64 (gd w1_3 7)::.int .i64 (gd w1_3 8)::.int .i64 (gd w1_3 9)::.int .i64 (gd w1_3 10)::.int .i64 (gd w1_3 11)::.int .i64 (gd w1_3 12)::.int .i64 (gd w1_3 13)::.int .i64 (gd w1_3 14)::.int .i64 (gd w1_3 15)::.int .i64 (gd w1_3 16)::.int .i64 (gd w1_3 17)::.int .i64 (gd w1_3 18)::.int .i64 (gd w1_3 19)::.int .i64 (gd w1_3 20)::.int .i64 (gd w1_3 21)::.int .i64 (gd w1_3 22)::.int .i64 (gd w1_3 23)::.int .i64 (gd w1_3 24)::.int .i64 (gd w1_3 25)::.int .i64 (gd w1_3 26)::.int .i64 (gd w1_3 27)::.int .i64 (gd w1_3 28)::.int .i64 (gd w1_3 29)::.int .i64 (gd w1_3 30)::.int .i64 (gd w1_3 31)::.int .i64 (gd w1_3 32)::.int .i64 (gd w1_3 33)::.int .i64 (gd w1_3 34)::.int .i64 (gd w1_3 35)::.int .i64 (gd w1_3 36)::.int .i64 (gd w1_3 37)::.int .i64 (gd w1_3 38)::.int .i64 (gd w1_3 39)::.int .i64 (gd w1_3 40)::.int .i64 (gd w1_3 41)::.int .i64 (gd w1_3 42)::.int .i64 (gd w1_3 43)::.int .i64 (gd w1_3 44)::.int .i64 (gd w1_3 45)::.int .i64 (gd w1_3 46)::.int .i64 (gd w1_3 47)::.int .i64 (gd w1_3 48)::.int .i64 (gd w1_3 49)::.int .i64 (gd w1_3 50)::.int .i64 (gd w1_3 51)::.int .i64 (gd w1_3 52)::.int .i64 (gd w1_3 53)::.int .i64 (gd w1_3 54)::.int .i64 (gd w1_3 55)::.int .i64 (gd w1_3 56)::.int .i64 (gd w1_3 57)::.int .i64 (gd w1_3 58)::.int .i64 (gd w1_3 59)::.int .i64 (gd w1_3 60)::.int .i64 (gd w1_3 61)::.int .i64 (gd w1_3 62)::.int .i64 (gd w1_3 63)::[])) rfl rfl rfl rfl (by first|exact trivial|(simp only [go_sem,Nat.reduceLeDiff,Nat.reduceLT,Nat.reduceAdd,Nat.reduceMul,Nat.reduceSub,Nat.reduceEqDiff,Nat.reduceBEq,Int.reduceToNat,reduceCtorEq];done)|simp [og]) rfl f21 (by kernel_rfl) (by kernel_rfl) rfl (by decide) (fun x y hx hy=>(vR (f:=fun x=>c_i64 (gd w1_3 x)) (n:=64) (fun _=>rfl) x y (by omega) hy).symm) ?_
   simp only [go_sem]
   refine wP zR zB 1 ?_
   simp only [zY,tS,tZ,dS,dZ,go_sem,Nat.reduceAdd]
   repeat ((with_reducible refine aI ?_ ?_);exact an1)
   refine jD ?_
   refine rg zB ?_
   simp only [go_sem,Nat.reduceLT,Nat.reduceAdd]
   obtain rfl:=Option.some.inj H
   first|rfl|simp only [Bool.and_false,Bool.false_and,Bool.and_true,Bool.true_and]
 ·cases hb
noncomputable def F42 (p0:Int):Option (A6u8) :=
 some (A6u8.mk (wr .u8 (wr .i64 (p0+1))) 0 0 0 0 0)
noncomputable def vX:List AV->AR
 | [v0]=>.pure (iK .i64 v0/\(F42 (iA v0)).isSome=true) (.agg [.int .u8 ((gt (F42 (iA v0))).x0),.int .u8 ((gt (F42 (iA v0))).x1),.int .u8 ((gt (F42 (iA v0))).x2),.int .u8 ((gt (F42 (iA v0))).x3),.int .u8 ((gt (F42 (iA v0))).x4),.int .u8 ((gt (F42 (iA v0))).x5)])
 | _=>.fail
theorem ok42:wS Try.prog 42 (yD vX):=by
 refine xH vX (rs:=[.cell 2 23]) Try.func42 (by kernel_rfl) rfl rfl ?_
 intro l ob v hb hob
 unfold vX at hb
 split at hb
 ·rename_i v0
  injection hb with q1 q2;subst q1 q2
  obtain ⟨hk0_0,hob⟩:=hob
  obtain ⟨r,H⟩:=oE.1 hob
  rw [H,zU]
  have hw0:=zK hk0_0
  generalize iA v0=p0 at H hw0
  refine ⟨[.int .i64 p0],_,(fun E vs F=>yU hw0.1 F (fun vs F=>F)),rfl,rfl,?_⟩
  rw [Try.ntmps42]
  simp only [lC,lN,Nat.reduceAdd,Nat.reduceSub,rS,rZ,aC,aN]
  unfold F42 at H
  refine sq zB ?_
  simp only [go_sem]
  refine sq zB ?_
  simp only [go_sem,Nat.reduceLeDiff,Nat.reduceAdd]
  refine rg zB ?_
  simp only [go_sem,Nat.reduceLT,Nat.reduceAdd]
  obtain rfl:=Option.some.inj H
  first|rfl|simp only [Bool.and_false,Bool.false_and,Bool.and_true,Bool.true_and]
 ·cases hb
noncomputable def ct18t0:Ct:=tab [(34,yD qW)]
theorem ct18t0_ok:xK Try.prog ct18t0:=yG ok34 <| yM
theorem ct18t0_34 (l:List AV) (h:List ABlk):ct18t0 34 l h=yD qW l h:=rfl
noncomputable def ct18t1:Ct:=tab [(56,edC fG)]
theorem ct18t1_ok:xK Try.prog ct18t1:=yG ok56 <| yM
theorem ct18t1_56 (l:List AV) (h:List ABlk):ct18t1 56 l h=edC fG l h:=rfl
noncomputable def F18 (p0:TRoots):Option (TRootWord × TRoots × Int) :=
 (F34 p0).bind fun r1=>bif (!bEq r1 0) then (some ((TRootWord.mk (A6u8.mk 0 0 0 0 0 0) 0 0 0 false),(TRoots.mk (A6u8.mk 0 0 0 0 0 0) false false 0 [] []),r1)) else (bif (!p0.Root) then (some ((TRootWord.mk (A6u8.mk 0 0 0 0 0 0) 0 0 0 false),(TRoots.mk (A6u8.mk 0 0 0 0 0 0) false false 0 [] []),20)) else (bif (bEq p0.Seq 2147483647) then (some ((TRootWord.mk (A6u8.mk 0 0 0 0 0 0) 0 0 0 false),(TRoots.mk (A6u8.mk 0 0 0 0 0 0) false false 0 [] []),22)) else ((F56 p0).bind fun r3=>some ((TRootWord.mk (A6u8.mk r3.Own.x0 r3.Own.x1 r3.Own.x2 r3.Own.x3 r3.Own.x4 r3.Own.x5) (wr .i64 (r3.Seq+1)) 0 0 r3.Gate),(TRoots.mk (A6u8.mk r3.Own.x0 r3.Own.x1 r3.Own.x2 r3.Own.x3 r3.Own.x4 r3.Own.x5) r3.Root r3.Gate (wr .i64 (r3.Seq+1)) r3.Trees r3.Proxies),0))))
noncomputable def body18:List AV->List ABlk->ED
 | [v0],h=>.ed [] (aK 11 vF (roD (zG h []) v0)/\uY (zG h []) v0/\(F18 (zI (aL (roD (zG h []) v0)))).isSome=true) (.tup [.agg [.int .u8 ((((gt (F18 (zI (aL (roD (zG h []) v0))))).1).Root).x0),.int .u8 ((((gt (F18 (zI (aL (roD (zG h []) v0))))).1).Root).x1),.int .u8 ((((gt (F18 (zI (aL (roD (zG h []) v0))))).1).Root).x2),.int .u8 ((((gt (F18 (zI (aL (roD (zG h []) v0))))).1).Root).x3),.int .u8 ((((gt (F18 (zI (aL (roD (zG h []) v0))))).1).Root).x4),.int .u8 ((((gt (F18 (zI (aL (roD (zG h []) v0))))).1).Root).x5),.int .i64 (((gt (F18 (zI (aL (roD (zG h []) v0))))).1).Seq),.int .i64 (((gt (F18 (zI (aL (roD (zG h []) v0))))).1).Hops),.int .i64 (((gt (F18 (zI (aL (roD (zG h []) v0))))).1).Cost),.bool (((gt (F18 (zI (aL (roD (zG h []) v0))))).1).Gate)],.agg [.int .u8 ((((gt (F18 (zI (aL (roD (zG h []) v0))))).2.1).Own).x0),.int .u8 ((((gt (F18 (zI (aL (roD (zG h []) v0))))).2.1).Own).x1),.int .u8 ((((gt (F18 (zI (aL (roD (zG h []) v0))))).2.1).Own).x2),.int .u8 ((((gt (F18 (zI (aL (roD (zG h []) v0))))).2.1).Own).x3),.int .u8 ((((gt (F18 (zI (aL (roD (zG h []) v0))))).2.1).Own).x4),.int .u8 ((((gt (F18 (zI (aL (roD (zG h []) v0))))).2.1).Own).x5),.bool (((gt (F18 (zI (aL (roD (zG h []) v0))))).2.1).Root),.bool (((gt (F18 (zI (aL (roD (zG h []) v0))))).2.1).Gate),.int .i64 (((gt (F18 (zI (aL (roD (zG h []) v0))))).2.1).Seq),.sl 0 17 0 ((((gt (F18 (zI (aL (roD (zG h []) v0))))).2.1).Trees).length) false,.sl 1 13 0 ((((gt (F18 (zI (aL (roD (zG h []) v0))))).2.1).Proxies).length) false],.int .i64 ((gt (F18 (zI (aL (roD (zG h []) v0))))).2.2)]) [.row 62 17 ((((gt (F18 (zI (aL (roD (zG h []) v0))))).2.1).Trees).length) (enR zH (((gt (F18 (zI (aL (roD (zG h []) v0))))).2.1).Trees)),.row 64 13 ((((gt (F18 (zI (aL (roD (zG h []) v0))))).2.1).Proxies).length) (enR zC (((gt (F18 (zI (aL (roD (zG h []) v0))))).2.1).Proxies))]
 | _,_=>.fail
theorem ok18:wS Try.prog 18 (edC body18):=by
 refine qO body18 (rs:=[.cell 2 25,.cell 3 41,.tmp 4]) Try.func18 (by kernel_rfl) rfl rfl ?_
 intro l h bs ob q0 g0 hb hob
 unfold body18 at hb
 split at hb
 ·rename_i v0
  injection hb with q1 q2 q3 q4;subst q1 q2 q3 q4
  obtain ⟨hk0_0,hk0_1,hob⟩:=hob
  obtain ⟨r,H⟩:=oE.1 hob
  rw [H,zU]
  have hw0:=qK hk0_0
  obtain ⟨p0,hp_p0⟩:∃ p0,p0=zI (aL (roD (zG h []) v0)):=⟨_,rfl⟩
  rw [← hp_p0] at H hw0
  refine ⟨[.agg [.int .u8 p0.Own.x0,.int .u8 p0.Own.x1,.int .u8 p0.Own.x2,.int .u8 p0.Own.x3,.int .u8 p0.Own.x4,.int .u8 p0.Own.x5,.bool p0.Root,.bool p0.Gate,.int .i64 p0.Seq,.ro 17 p0.Trees.length false (enR zH p0.Trees),.ro 13 p0.Proxies.length false (enR zC p0.Proxies)]],[],rfl,⟨(vO hk0_1 hw0),trivial⟩,trivial,trivial,⟨(qI xC),⟨(qI xB),trivial⟩⟩,⟨wU,⟨wU,trivial⟩⟩,(by first|(simp only [noro,xY,and_self];done)|(simp only [noro,xY];and_intros<;>first|trivial|exact gZ (by simp only [noro]) (by simp only [noro])|(simp only [noro,xY,and_self]))),?_⟩
  rw [Try.ntmps18]
  simp only [lC,lN,Nat.reduceAdd,Nat.reduceSub,rS,rZ,aC,aN]
  unfold F18 at H
  refine sq zB ?_
  simp only [go_sem,Nat.reduceAdd]
  refine zW ?_
  obtain ⟨r1,e2,H⟩:=bsi H
  refine rg ct18t0_ok ?_
  simp only [go_sem,Nat.reduceLT,Nat.reduceAdd,ct18t0_34,qW,e2]
  refine zW ?_
  refine vE ?_
  refine sq zB ?_
  simp only [go_sem]
  refine xJ rfl trivial (fun hc=>?_) (fun hc=>?_)
  ·replace H:=yJ hc H
   refine sq zB ?_
   simp only [go_sem,Nat.reduceAdd]
   refine rg zB ?_
   simp only [go_sem,Nat.reduceLT,Nat.reduceAdd]
   obtain rfl:=Option.some.inj H
   refine xO [] [none,none] ?_ ?_ ?_ ?_ (by rfl) (by rfl)
   ·simp only [go_sem]
    try exact at0
   ·simp only [go_sem]
    try exact at0
   ·simp only [go_sem]
    exact vQ (zA (by simp [Cv,CvL]) (zA (by first|(simp [Cv,CvL];done)|(simp [Cv,CvL,yE,zU];omega)) (zA (by simp [Cv]) xU)))
   ·simp only [go_sem,CvH]
    first|exact ⟨yN,yN⟩|trivial
  replace H:=yI hc H
  refine sq zB ?_
  simp only [go_sem,Nat.reduceLeDiff,Nat.reduceLT,Nat.reduceAdd]
  refine xJ rfl trivial (fun hc=>?_) (fun hc=>?_)
  ·replace H:=yJ hc H
   refine sq zB ?_
   simp only [go_sem,Nat.reduceAdd]
   refine rg zB ?_
   simp only [go_sem,Nat.reduceLT,Nat.reduceAdd]
   obtain rfl:=Option.some.inj H
   refine xO [] [none,none] ?_ ?_ ?_ ?_ (by rfl) (by rfl)
   ·simp only [go_sem]
    try exact at0
   ·simp only [go_sem]
    try exact at0
   ·simp only [go_sem]
    exact vQ (zA (by simp [Cv,CvL]) (zA (by first|(simp [Cv,CvL];done)|(simp [Cv,CvL,yE,zU];omega)) (zA (by simp [Cv]) xU)))
   ·simp only [go_sem,CvH]
    first|exact ⟨yN,yN⟩|trivial
  replace H:=yI hc H
  refine sq zB ?_
  simp only [go_sem,Nat.reduceLeDiff,Nat.reduceLT,Nat.reduceAdd]
  refine xJ rfl trivial (fun hc=>?_) (fun hc=>?_)
  ·replace H:=yJ hc H
   refine sq zB ?_
   simp only [go_sem,Nat.reduceAdd]
   refine rg zB ?_
   simp only [go_sem,Nat.reduceLT,Nat.reduceAdd]
   obtain rfl:=Option.some.inj H
   refine xO [] [none,none] ?_ ?_ ?_ ?_ (by rfl) (by rfl)
   ·simp only [go_sem]
    try exact at0
   ·simp only [go_sem]
    try exact at0
   ·simp only [go_sem]
    exact vQ (zA (by simp [Cv,CvL]) (zA (by first|(simp [Cv,CvL];done)|(simp [Cv,CvL,yE,zU];omega)) (zA (by simp [Cv]) xU)))
   ·simp only [go_sem,CvH]
    first|exact ⟨yN,yN⟩|trivial
  replace H:=yI hc H
  refine rg zB ?_
  simp only [go_sem]
  refine zW ?_
  obtain ⟨r3,e4,H⟩:=bsi H
  refine rg ct18t1_ok ?_
  simp only [go_sem,Nat.reduceLT,Nat.reduceAdd,ct18t1_56,fG,e4]
  refine sq zB ?_
  simp only [go_sem,Nat.reduceLeDiff,Nat.reduceLT,Nat.reduceAdd]
  refine zW ?_
  refine vA zR zB 0 (by kernel_rfl) (by kernel_rfl) ?_
  intro an han
  simp only [fT,qY,cS,xrD,xoD,dP,qU,List.append_nil,wJ,refs,mask,tK,place,vS,tL,uE,hit,inL,wO,nrH,nrB,nrL,nr,rZ,Nat.sub_self,Nat.add_zero,Nat.zero_add,Nat.reduceSub,Nat.lt_add_one,go_sem,Nat.reduceLeDiff,Nat.reduceLT,Nat.reduceAdd,Nat.reduceSub,Nat.reduceBEq,reduceCtorEq]
  refine rg zB ?_
  simp only [go_sem,Nat.reduceLT,Nat.reduceAdd]
  obtain rfl:=Option.some.inj H
  refine xO [] [some 3,some 4] ?_ ?_ ?_ ?_ (by rfl) (by rfl)
  ·simp only [go_sem]
   try exact at0
  ·simp only [go_sem]
   try exact at0
  ·simp only [go_sem]
   exact vQ (zA (by simp [Cv,CvL]) (zA (by first|(simp [Cv,CvL,yE];done)|(simp [Cv,CvL,yE,zU];omega)) (zA (by simp [Cv]) xU)))
  ·simp only [go_sem,CvH]
   first|exact ⟨zO xC cl (fun _ _ _ _=>rfl),zO xB cl (fun _ _ _ _=>rfl)⟩|trivial
 ·cases hb
noncomputable def gI (p2:Int) (p3:TRootWord) (w1:List Int) (v1_1:List Tmessage) (v1_2:Int):Option (Lp ((List Tmessage) × Int) ((List Tmessage) ⊕ (List Tmessage))) :=
 bif (bLt v1_2 8) then (need (inb p2 8) <| need (inb v1_2 8) <| need (decide (p2.toNat * 8+v1_2.toNat < w1.length)) <| bif ((bLt 0 (gd w1 (p2.toNat * 8+v1_2.toNat))) && (!bEq v1_2 p2)) then (need (capb 56 (v1_1.length+1)) <| some (.next ((v1_1 ++ [(Tmessage.mk v1_2 p2 (TRootWord.mk (A6u8.mk p3.Root.x0 p3.Root.x1 p3.Root.x2 p3.Root.x3 p3.Root.x4 p3.Root.x5) p3.Seq p3.Hops p3.Cost p3.Gate))]),wr .i64 (v1_2+1)))) else (some (.next (v1_1,wr .i64 (v1_2+1))))) else (some (.done (.inl v1_1)))
noncomputable def bC (p0:List Tmessage) (p1:A8A8i64) (p2:Int) (p3:TRootWord):Option (List Tmessage) :=
 (some [p1.x0.x0,p1.x0.x1,p1.x0.x2,p1.x0.x3,p1.x0.x4,p1.x0.x5,p1.x0.x6,p1.x0.x7,p1.x1.x0,p1.x1.x1,p1.x1.x2,p1.x1.x3,p1.x1.x4,p1.x1.x5,p1.x1.x6,p1.x1.x7,p1.x2.x0,p1.x2.x1,p1.x2.x2,p1.x2.x3,p1.x2.x4,p1.x2.x5,p1.x2.x6,p1.x2.x7,p1.x3.x0,p1.x3.x1,p1.x3.x2,p1.x3.x3,p1.x3.x4,p1.x3.x5,p1.x3.x6,p1.x3.x7,p1.x4.x0,p1.x4.x1,p1.x4.x2,p1.x4.x3,p1.x4.x4,p1.x4.x5,p1.x4.x6,p1.x4.x7,p1.x5.x0,p1.x5.x1,p1.x5.x2,p1.x5.x3,p1.x5.x4,p1.x5.x5,p1.x5.x6,p1.x5.x7,p1.x6.x0,p1.x6.x1,p1.x6.x2,p1.x6.x3,p1.x6.x4,p1.x6.x5,p1.x6.x6,p1.x6.x7,p1.x7.x0,p1.x7.x1,p1.x7.x2,p1.x7.x3,p1.x7.x4,p1.x7.x5,p1.x7.x6,p1.x7.x7]).bind fun w1=>lp (yP (fun s=>gI p2 p3 w1 s.1 s.2) (p0,0)) (fun w1_3=>some w1_3) some
noncomputable def jB:List AV->List ABlk->ED
 | [v0,v1,v2,v3],h=>.ed [slN v0] (oS 130 12 h v0/\lK uM 12 (roW h v0)/\aK 64 vC (roD (zG h [slN v0]) v1)/\uY (zG h [slN v0]) v1/\iK .i64 (roD (zG h [slN v0]) v2)/\uY (zG h [slN v0]) v2/\aK 10 wH (roD (zG h [slN v0]) v3)/\uY (zG h [slN v0]) v3/\(bC (lA wA (roW h v0)) (g_A8A8i64 (aL (roD (zG h [slN v0]) v1))) (iA (roD (zG h [slN v0]) v2)) (zZ (aL (roD (zG h [slN v0]) v3)))).isSome=true) (.sl 1 12 0 ((gt (bC (lA wA (roW h v0)) (g_A8A8i64 (aL (roD (zG h [slN v0]) v1))) (iA (roD (zG h [slN v0]) v2)) (zZ (aL (roD (zG h [slN v0]) v3))))).length) false) [.dead,.row 130 12 ((gt (bC (lA wA (roW h v0)) (g_A8A8i64 (aL (roD (zG h [slN v0]) v1))) (iA (roD (zG h [slN v0]) v2)) (zZ (aL (roD (zG h [slN v0]) v3))))).length) (enR zS (gt (bC (lA wA (roW h v0)) (g_A8A8i64 (aL (roD (zG h [slN v0]) v1))) (iA (roD (zG h [slN v0]) v2)) (zZ (aL (roD (zG h [slN v0]) v3))))))]
 | _,_=>.fail
theorem ok77_1:wS Try.prog 77 (edC jB):=by
 refine qO jB (rs:=[.tmp 8]) Try.func77 (by kernel_rfl) rfl rfl ?_
 intro l h bs ob q0 g0 hb hob
 unfold jB at hb
 split at hb
 ·rename_i v0 v1 v2 v3
  injection hb with q1 q2 q3 q4;subst q1 q2 q3 q4
  obtain ⟨hk0_0,hk0_1,hk1_0,hk1_1,hk2_0,hk2_1,hk3_0,hk3_1,hob⟩:=hob
  obtain ⟨r,H⟩:=oE.1 hob
  rw [H,zU]
  obtain ⟨p0,hp0⟩:∃ p0,p0=lA wA (roW h v0):=⟨_,rfl⟩
  rw [← hp0] at H
  obtain ⟨ev0,eb0⟩:=own_row2 (f:=zS) (g:=wA) (bs:=[slN v0]) (i:=0) (fun hr=>w_Tmessage hr) hk0_0 hk0_1 (L:=p0) (by rw [hp0]) rfl
  have hw1:=jQ hk1_0
  obtain ⟨p1,hp_p1⟩:∃ p1,p1=g_A8A8i64 (aL (roD (zG h [slN v0]) v1)):=⟨_,rfl⟩
  rw [← hp_p1] at H hw1
  have hw2:=zK hk2_0
  obtain ⟨p2,hp_p2⟩:∃ p2,p2=iA (roD (zG h [slN v0]) v2):=⟨_,rfl⟩
  rw [← hp_p2] at H hw2
  have hw3:=fS hk3_0
  obtain ⟨p3,hp_p3⟩:∃ p3,p3=zZ (aL (roD (zG h [slN v0]) v3)):=⟨_,rfl⟩
  rw [← hp_p3] at H hw3
  refine ⟨[.sl 0 12 0 p0.length false,.agg (.int .i64 p1.x0.x0::.int .i64 p1.x0.x1::.int .i64 p1.x0.x2::.int .i64 p1.x0.x3::.int .i64 p1.x0.x4::.int .i64 p1.x0.x5::.int .i64 p1.x0.x6::.int .i64 p1.x0.x7::.int .i64 p1.x1.x0::.int .i64 p1.x1.x1::.int .i64 p1.x1.x2::.int .i64 p1.x1.x3::.int .i64 p1.x1.x4::.int .i64 p1.x1.x5::.int .i64 p1.x1.x6::.int .i64 p1.x1.x7::.int .i64 p1.x2.x0::.int .i64 p1.x2.x1::.int .i64 p1.x2.x2::.int .i64 p1.x2.x3::.int .i64 p1.x2.x4::.int .i64 p1.x2.x5::.int .i64 p1.x2.x6::.int .i64 p1.x2.x7::.int .i64 p1.x3.x0::.int .i64 p1.x3.x1::.int .i64 p1.x3.x2::.int .i64 p1.x3.x3::.int .i64 p1.x3.x4::.int .i64 p1.x3.x5::.int .i64 p1.x3.x6::.int .i64 p1.x3.x7::.int .i64 p1.x4.x0::.int .i64 p1.x4.x1::.int .i64 p1.x4.x2::.int .i64 p1.x4.x3::.int .i64 p1.x4.x4::.int .i64 p1.x4.x5::.int .i64 p1.x4.x6::.int .i64 p1.x4.x7::.int .i64 p1.x5.x0::.int .i64 p1.x5.x1::.int .i64 p1.x5.x2::.int .i64 p1.x5.x3::.int .i64 p1.x5.x4::.int .i64 p1.x5.x5::.int .i64 p1.x5.x6::.int .i64 p1.x5.x7::.int .i64 p1.x6.x0::.int .i64 p1.x6.x1::.int .i64 p1.x6.x2::.int .i64 p1.x6.x3::.int .i64 p1.x6.x4::.int .i64 p1.x6.x5::.int .i64 p1.x6.x6::.int .i64 p1.x6.x7::.int .i64 p1.x7.x0::.int .i64 p1.x7.x1::.int .i64 p1.x7.x2::.int .i64 p1.x7.x3::.int .i64 p1.x7.x4::.int .i64 p1.x7.x5::.int .i64 p1.x7.x6::.int .i64 p1.x7.x7::[]),.int .i64 p2,.agg [.int .u8 p3.Root.x0,.int .u8 p3.Root.x1,.int .u8 p3.Root.x2,.int .u8 p3.Root.x3,.int .u8 p3.Root.x4,.int .u8 p3.Root.x5,.int .i64 p3.Seq,.int .i64 p3.Hops,.int .i64 p3.Cost,.bool p3.Gate]],[.row 130 12 p0.length (enR zS p0)],rfl,⟨(EW_own ev0 (by simp only [noro])),⟨(vO hk1_1 hw1),⟨(vO hk2_1 hw2),⟨(vO hk3_1 hw3),trivial⟩⟩⟩⟩,⟨eb0,trivial⟩,⟨wU,trivial⟩,⟨trivial,⟨(qI yV),trivial⟩⟩,⟨trivial,⟨wU,trivial⟩⟩,(by first|(simp only [noro];done)|(simp only [noro,xY];and_intros<;>first|trivial|exact gZ (by simp only [noro]) (by simp only [noro])|(simp only [noro,xY,and_self]))),?_⟩
  rw [Try.ntmps77]
  simp only [lC,lN,Nat.reduceAdd,Nat.reduceSub,rS,rZ,aC,aN]
  unfold bC at H
  refine zW ?_
  refine jT ?_
  refine wP zR zB 0 ?_
  simp only [zY,tZ,dZ,go_sem]
  refine dA zR zB (len:=64) (z:=1) rfl rfl rfl rfl (by first|exact trivial|(simp only [go_sem,Nat.reduceLeDiff,Nat.reduceLT,Nat.reduceAdd,Nat.reduceMul,Nat.reduceSub,Nat.reduceEqDiff,Nat.reduceBEq,Int.reduceToNat,reduceCtorEq];done)|simp [og]) rfl ?_
  simp only [go_sem]
  refine wP zR zB 2 ?_
  simp only [zY,tS,tZ,dS,dZ,go_sem,Nat.reduceAdd]
  refine jD ?_
  refine zW ?_
  refine zW ?_
  obtain ⟨w1,hw2,H⟩:=bsj H
  have lhw2:w1.length=64:=by rw [← hw2];exact (by first|rfl|simp)
  refine vD (t2:=(.sl 0 12 0 p0.length false::.top::.int .i64 p2::.top::.top::.ptr 1 1 0 0::.top::.ptr 2 0 0 0::tp 25 [])) (h2:=[.row 130 12 p0.length (enR zS p0),.row 81 1 w1.length (enR c_i64 w1),.lit 25 [.int .u8 p3.Root.x0,.int .u8 p3.Root.x1,.int .u8 p3.Root.x2,.int .u8 p3.Root.x3,.int .u8 p3.Root.x4,.int .u8 p3.Root.x5,.int .i64 p3.Seq,.int .i64 p3.Hops,.int .i64 p3.Cost,.bool p3.Gate]]) ?_ ?_
  ·refine zN ⟨[some 0,some 1,some 2],?_,?_,by rfl,by rfl⟩
   ·simp [CvL,Cv,yE,tp]
   ·exact ⟨zO yV rfl (fun _ _ _ _=>rfl),zO xN lhw2 (hw2 ▸ (vP (f:=c_i64) [p1.x0.x0,p1.x0.x1,p1.x0.x2,p1.x0.x3,p1.x0.x4,p1.x0.x5,p1.x0.x6,p1.x0.x7,p1.x1.x0,p1.x1.x1,p1.x1.x2,p1.x1.x3,p1.x1.x4,p1.x1.x5,p1.x1.x6,p1.x1.x7,p1.x2.x0,p1.x2.x1,p1.x2.x2,p1.x2.x3,p1.x2.x4,p1.x2.x5,p1.x2.x6,p1.x2.x7,p1.x3.x0,p1.x3.x1,p1.x3.x2,p1.x3.x3,p1.x3.x4,p1.x3.x5,p1.x3.x6,p1.x3.x7,p1.x4.x0,p1.x4.x1,p1.x4.x2,p1.x4.x3,p1.x4.x4,p1.x4.x5,p1.x4.x6,p1.x4.x7,p1.x5.x0,p1.x5.x1,p1.x5.x2,p1.x5.x3,p1.x5.x4,p1.x5.x5,p1.x5.x6,p1.x5.x7,p1.x6.x0,p1.x6.x1,p1.x6.x2,p1.x6.x3,p1.x6.x4,p1.x6.x5,p1.x6.x6,p1.x6.x7,p1.x7.x0,p1.x7.x1,p1.x7.x2,p1.x7.x3,p1.x7.x4,p1.x7.x5,p1.x7.x6,p1.x7.x7] (fun _ _=>rfl) rfl)),(by simp [CvB,CvL,Cv,tC,geth]),trivial⟩
  simp only [tp]
  refine rg zB ?_
  simp only [go_sem]
  refine vE ?_
  refine xQ (fun s:(List Tmessage) × Int=>(.sl 3 12 0 s.1.length false::.top::.int .i64 p2::.top::.top::.ptr 1 1 0 0::.top::.ptr 2 0 0 0::.top::.int .i64 s.2::tp 23 [])) (fun s=>[.dead,.row 81 1 w1.length (enR c_i64 w1),.lit 25 [.int .u8 p3.Root.x0,.int .u8 p3.Root.x1,.int .u8 p3.Root.x2,.int .u8 p3.Root.x3,.int .u8 p3.Root.x4,.int .u8 p3.Root.x5,.int .i64 p3.Seq,.int .i64 p3.Hops,.int .i64 p3.Cost,.bool p3.Gate],.row 130 12 s.1.length (enR zS s.1)]) (fun e:List Tmessage=>(.sl 3 12 0 e.length false::tp 32 [])) (fun e=>[.dead,.dead,.dead,.row 130 12 e.length (enR zS e)]) H ?_ (fun s o H hn1_1 hn2_1=>?_) (fun w1_3 H=>?_)
  ·refine zN ⟨[some 0,some 1,some 2,some 0],?_,?_,by rfl,by rfl⟩
   ·simp [CvL,Cv,yE,tp]
   ·exact ⟨zD,(zT nfA),cv,zO yV cl (fun _ _ _ _=>rfl),trivial⟩
  ·obtain ⟨v1_1,v1_2⟩:=s
   unfold gI at H
   try simp only [tp]
   refine zW ?_
   refine sq zB ?_
   simp only [go_sem,Nat.reduceAdd]
   refine condM' rfl trivial (fun hc=>?_) (fun hc=>?_)
   ·replace H:=yI hc H
    refine rg zB ?_
    simp only [go_sem]
    refine ⟨_,(Option.some.inj H).symm,?_⟩
    refine zN ⟨[some 0,some 1,some 2,some 3],?_,?_,by rfl,by rfl⟩
    ·simp [CvL,Cv,yE]
    ·exact ⟨zD,zD,zD,zO yV cl (fun _ _ _ _=>rfl),trivial⟩
   replace H:=yJ hc H
   refine rg zB ?_
   simp only [go_sem]
   refine zW ?_
   refine vE ?_
   refine zW ?_
   obtain ⟨f3,H⟩:=nI H
   obtain ⟨f4,H⟩:=nI H
   obtain ⟨f5,H⟩:=zM.1 H
   replace f5:=decide_eq_true_iff.1 f5
   refine rg zB ?_
   simp only [go_sem,Nat.reduceLT,Nat.reduceBEq,f3,f4,f5]
   repeat ((with_reducible refine aI ?_ ?_);exact an1)
   refine condM' rfl trivial (fun hc=>?_) (fun hc=>?_)
   ·replace H:=yI hc H
    refine rg zB ?_
    simp only [go_sem]
    refine rg zB ?_
    simp only [go_sem]
    refine ⟨_,(Option.some.inj H).symm,?_⟩
    refine zN ⟨[some 0,some 1,some 2,some 3],?_,?_,by rfl,by rfl⟩
    ·simp [CvL,Cv,yE]
    ·exact ⟨zD,(zT nfA),cv,zO yV cl (fun _ _ _ _=>rfl),trivial⟩
   replace H:=yJ hc H
   obtain ⟨f6,H⟩:=nC H
   refine rg zB ?_
   simp only [go_sem,Nat.reduceLeDiff,Nat.reduceLT,Nat.reduceAdd,Nat.reduceBEq,f6]
   repeat ((with_reducible refine aI ?_ ?_);exact an4)
   refine rg zB ?_
   simp only [go_sem]
   refine ⟨_,(Option.some.inj H).symm,?_⟩
   refine zN ⟨[some 0,some 1,some 2,some 5],?_,?_,by rfl,by rfl⟩
   ·simp [CvL,Cv,yE]
   ·exact ⟨zD,(zT nfA),cv,zO yV cl (app_row (f:=zS) v1_1 [(Tmessage.mk v1_2 p2 (TRootWord.mk (A6u8.mk p3.Root.x0 p3.Root.x1 p3.Root.x2 p3.Root.x3 p3.Root.x4 p3.Root.x5) p3.Seq p3.Hops p3.Cost p3.Gate))] (fun _ _ _ _=>rfl) (vP (f:=zS) [(Tmessage.mk v1_2 p2 (TRootWord.mk (A6u8.mk p3.Root.x0 p3.Root.x1 p3.Root.x2 p3.Root.x3 p3.Root.x4 p3.Root.x5) p3.Seq p3.Hops p3.Cost p3.Gate))] (fun _ _=>rfl) rfl)),trivial⟩
  ·try dsimp only at H ⊢
   try simp only [tp]
   try simp only [xA]
   refine sq zB ?_
   simp only [go_sem]
   refine rg zB ?_
   simp only [go_sem]
   obtain rfl:=Option.some.inj H
   refine xO [] [some 0,some 3] ?_ ?_ ?_ ?_ (by rfl) (by rfl)
   ·simp only [go_sem]
    try exact at0
   ·simp only [go_sem]
    try exact at0
   ·simp only [go_sem]
    exact (by first|(simp [Cv,yE];done)|(simp [Cv,CvL,yE,zU];omega))
   ·simp only [go_sem,CvH]
    first|exact ⟨zD,zO yV cl (fun _ _ _ _=>rfl)⟩|trivial
 ·cases hb
noncomputable def F37_L1 (p0:TRoots) (p1:A6u8) (v1_1:Int):Option (Lp (Int) ((Unit) ⊕ (TTree × Bool))) :=
 bif (bLt v1_1 (p0.Trees.length:Nat)) then (need (inb v1_1 p0.Trees.length) <| bif (bEq (((gd p0.Trees v1_1.toNat).Root).x0) p1.x0 && (bEq (((gd p0.Trees v1_1.toNat).Root).x1) p1.x1 && (bEq (((gd p0.Trees v1_1.toNat).Root).x2) p1.x2 && (bEq (((gd p0.Trees v1_1.toNat).Root).x3) p1.x3 && (bEq (((gd p0.Trees v1_1.toNat).Root).x4) p1.x4 && (bEq (((gd p0.Trees v1_1.toNat).Root).x5) p1.x5)))))) then (need (inb v1_1 p0.Trees.length) <| some (.done (.inr ((TTree.mk (A6u8.mk (((gd p0.Trees v1_1.toNat).Root).x0) (((gd p0.Trees v1_1.toNat).Root).x1) (((gd p0.Trees v1_1.toNat).Root).x2) (((gd p0.Trees v1_1.toNat).Root).x3) (((gd p0.Trees v1_1.toNat).Root).x4) (((gd p0.Trees v1_1.toNat).Root).x5)) (A6u8.mk (((gd p0.Trees v1_1.toNat).Parent).x0) (((gd p0.Trees v1_1.toNat).Parent).x1) (((gd p0.Trees v1_1.toNat).Parent).x2) (((gd p0.Trees v1_1.toNat).Parent).x3) (((gd p0.Trees v1_1.toNat).Parent).x4) (((gd p0.Trees v1_1.toNat).Parent).x5)) ((gd p0.Trees v1_1.toNat).Seq) ((gd p0.Trees v1_1.toNat).Hops) ((gd p0.Trees v1_1.toNat).Cost) ((gd p0.Trees v1_1.toNat).Gate) ((gd p0.Trees v1_1.toNat).Until)),true)))) else (some (.next (wr .i64 (v1_1+1))))) else (some (.done (.inl ())))
noncomputable def F37 (p0:TRoots) (p1:A6u8):Option (TTree × Bool) :=
 lp (yP (fun s=>F37_L1 p0 p1 s) 0) (fun _=>some ((TTree.mk (A6u8.mk 0 0 0 0 0 0) (A6u8.mk 0 0 0 0 0 0) 0 0 0 false 0),false)) some
noncomputable def cD:List AV->AR
 | [v0,v1]=>.pure (aK 11 vF v0/\aK 6 tB v1/\(F37 (zI (aL v0)) (yB (aL v1))).isSome=true) (.tup [.agg [.int .u8 ((((gt (F37 (zI (aL v0)) (yB (aL v1)))).1).Root).x0),.int .u8 ((((gt (F37 (zI (aL v0)) (yB (aL v1)))).1).Root).x1),.int .u8 ((((gt (F37 (zI (aL v0)) (yB (aL v1)))).1).Root).x2),.int .u8 ((((gt (F37 (zI (aL v0)) (yB (aL v1)))).1).Root).x3),.int .u8 ((((gt (F37 (zI (aL v0)) (yB (aL v1)))).1).Root).x4),.int .u8 ((((gt (F37 (zI (aL v0)) (yB (aL v1)))).1).Root).x5),.int .u8 ((((gt (F37 (zI (aL v0)) (yB (aL v1)))).1).Parent).x0),.int .u8 ((((gt (F37 (zI (aL v0)) (yB (aL v1)))).1).Parent).x1),.int .u8 ((((gt (F37 (zI (aL v0)) (yB (aL v1)))).1).Parent).x2),.int .u8 ((((gt (F37 (zI (aL v0)) (yB (aL v1)))).1).Parent).x3),.int .u8 ((((gt (F37 (zI (aL v0)) (yB (aL v1)))).1).Parent).x4),.int .u8 ((((gt (F37 (zI (aL v0)) (yB (aL v1)))).1).Parent).x5),.int .i64 (((gt (F37 (zI (aL v0)) (yB (aL v1)))).1).Seq),.int .i64 (((gt (F37 (zI (aL v0)) (yB (aL v1)))).1).Hops),.int .i64 (((gt (F37 (zI (aL v0)) (yB (aL v1)))).1).Cost),.bool (((gt (F37 (zI (aL v0)) (yB (aL v1)))).1).Gate),.int .i64 (((gt (F37 (zI (aL v0)) (yB (aL v1)))).1).Until)],.bool ((gt (F37 (zI (aL v0)) (yB (aL v1)))).2)])
 | _=>.fail
theorem ok37:wS Try.prog 37 (yD cD):=by
 refine xH cD (rs:=[.cell 4 62,.tmp 5]) Try.func37 (by kernel_rfl) rfl rfl ?_
 intro l ob v hb hob
 unfold cD at hb
 split at hb
 ·rename_i v0 v1
  injection hb with q1 q2;subst q1 q2
  obtain ⟨hk0_0,hk1_0,hob⟩:=hob
  obtain ⟨r,H⟩:=oE.1 hob
  rw [H,zU]
  have hw0:=qK hk0_0
  have hw1:=hZ hk1_0
  generalize zI (aL v0)=p0 at H hw0
  generalize yB (aL v1)=p1 at H hw1
  refine ⟨[.agg [.int .u8 p0.Own.x0,.int .u8 p0.Own.x1,.int .u8 p0.Own.x2,.int .u8 p0.Own.x3,.int .u8 p0.Own.x4,.int .u8 p0.Own.x5,.bool p0.Root,.bool p0.Gate,.int .i64 p0.Seq,.ro 17 p0.Trees.length false (enR zH p0.Trees),.ro 13 p0.Proxies.length false (enR zC p0.Proxies)],.agg [.int .u8 p1.x0,.int .u8 p1.x1,.int .u8 p1.x2,.int .u8 p1.x3,.int .u8 p1.x4,.int .u8 p1.x5]],_,(fun E vs F=>yU hw0.1 F (fun vs F=>yU hw1.1 F (fun vs F=>F))),rfl,rfl,?_⟩
  rw [Try.ntmps37]
  simp only [lC,lN,Nat.reduceAdd,Nat.reduceSub,rS,rZ,aC,aN]
  unfold F37 at H
  refine sq zB ?_
  simp only [go_sem,Nat.reduceAdd]
  refine zW ?_
  refine sq zB ?_
  simp only [go_sem]
  refine vE ?_
  refine xQ (fun s:Int=>(.top::.top::.ptr 0 0 0 0::.ptr 1 0 0 0::.ptr 2 0 0 0::.top::.int .i64 s::tp 21 [])) (fun s=>[.lit 41 [.int .u8 p0.Own.x0,.int .u8 p0.Own.x1,.int .u8 p0.Own.x2,.int .u8 p0.Own.x3,.int .u8 p0.Own.x4,.int .u8 p0.Own.x5,.bool p0.Root,.bool p0.Gate,.int .i64 p0.Seq,.ro 17 p0.Trees.length false (enR zH p0.Trees),.ro 13 p0.Proxies.length false (enR zC p0.Proxies)],.lit 23 [.int .u8 p1.x0,.int .u8 p1.x1,.int .u8 p1.x2,.int .u8 p1.x3,.int .u8 p1.x4,.int .u8 p1.x5],.lit 62 [.int .u8 0,.int .u8 0,.int .u8 0,.int .u8 0,.int .u8 0,.int .u8 0,.int .u8 0,.int .u8 0,.int .u8 0,.int .u8 0,.int .u8 0,.int .u8 0,.int .i64 0,.int .i64 0,.int .i64 0,.bool false,.int .i64 0]]) (fun e:Unit=>(tp 4 (.ptr 2 0 0 0::tp 23 []))) (fun e=>[.dead,.dead,.lit 62 [.int .u8 0,.int .u8 0,.int .u8 0,.int .u8 0,.int .u8 0,.int .u8 0,.int .u8 0,.int .u8 0,.int .u8 0,.int .u8 0,.int .u8 0,.int .u8 0,.int .i64 0,.int .i64 0,.int .i64 0,.bool false,.int .i64 0]]) H ?_ (fun v1_1 o H hn1_1 hn2_1=>?_) (fun e H=>?_)
  ·refine zN ⟨[some 0,some 1,some 2],?_,?_,by rfl,by rfl⟩
   ·simp [CvL,Cv,yE,tp]
   ·exact ⟨cv,cv,cv,trivial⟩
  ·unfold F37_L1 at H
   try simp only [tp]
   refine zW ?_
   refine sq zB ?_
   simp only [go_sem,Nat.reduceLeDiff,Nat.reduceLT,Nat.reduceAdd]
   refine condM' rfl trivial (fun hc=>?_) (fun hc=>?_)
   ·replace H:=yI hc H
    refine rg zB ?_
    simp only [go_sem]
    refine ⟨_,(Option.some.inj H).symm,?_⟩
    refine zN ⟨[some 0,some 1,some 2],?_,?_,by rfl,by rfl⟩
    ·simp [CvL,Cv,yE]
    ·exact ⟨zD,zD,cv,trivial⟩
   replace H:=yJ hc H
   refine rg zB ?_
   simp only [go_sem]
   refine zW ?_
   refine vE ?_
   refine zW ?_
   obtain ⟨f1,H⟩:=nI H
   refine wT zR zB (by kernel_rfl) (by kernel_rfl) ?_
   simp only [go_sem,Nat.reduceLeDiff,Nat.reduceLT,Nat.reduceAdd,reduceCtorEq,f1]
   refine condM' rfl trivial (fun hc=>?_) (fun hc=>?_)
   ·replace H:=yI hc H
    refine rg zB ?_
    simp only [go_sem]
    refine rg zB ?_
    simp only [go_sem]
    refine ⟨_,(Option.some.inj H).symm,?_⟩
    refine zN ⟨[some 0,some 1,some 2],?_,?_,by rfl,by rfl⟩
    ·simp [CvL,Cv,yE]
    ·exact ⟨cv,cv,cv,trivial⟩
   replace H:=yJ hc H
   refine zW ?_
   obtain ⟨f2,H⟩:=nI H
   refine rg zB ?_
   simp only [go_sem,Nat.reduceLeDiff,Nat.reduceLT,Nat.reduceAdd,f2]
   refine rg zB ?_
   simp only [go_sem,Nat.reduceLT,Nat.reduceAdd]
   have H:=hn2_1 _ (Option.some.inj H).symm
   obtain rfl:=Option.some.inj H
   first|rfl|simp only [Bool.and_false,Bool.false_and,Bool.and_true,Bool.true_and]
  ·try dsimp only at H ⊢
   try simp only [tp]
   try simp only [xA]
   refine sq zB ?_
   simp only [go_sem,Nat.reduceAdd]
   refine rg zB ?_
   simp only [go_sem,Nat.reduceLT,Nat.reduceAdd]
   obtain rfl:=Option.some.inj H
   first|rfl|simp only [Bool.and_false,Bool.false_and,Bool.and_true,Bool.true_and]
 ·cases hb
noncomputable def F38 (p0:TTree) (p1:TTree):Option (Bool) :=
 some ((bLt p1.Seq p0.Seq) || ((bEq p0.Seq p1.Seq) && (bLt p0.Cost p1.Cost)))
noncomputable def body38:List AV->AR
 | [v0,v1]=>.pure (aK 17 xF v0/\aK 17 xF v1/\(F38 (zV (aL v0)) (zV (aL v1))).isSome=true) (.bool (gt (F38 (zV (aL v0)) (zV (aL v1)))))
 | _=>.fail
theorem ok38:wS Try.prog 38 (yD body38):=by
 refine xH body38 (rs:=[.tmp 4]) Try.func38 (by kernel_rfl) rfl rfl ?_
 intro l ob v hb hob
 unfold body38 at hb
 split at hb
 ·rename_i v0 v1
  injection hb with q1 q2;subst q1 q2
  obtain ⟨hk0_0,hk1_0,hob⟩:=hob
  obtain ⟨r,H⟩:=oE.1 hob
  rw [H,zU]
  have hw0:=fD hk0_0
  have hw1:=fD hk1_0
  generalize zV (aL v0)=p0 at H hw0
  generalize zV (aL v1)=p1 at H hw1
  refine ⟨[.agg [.int .u8 p0.Root.x0,.int .u8 p0.Root.x1,.int .u8 p0.Root.x2,.int .u8 p0.Root.x3,.int .u8 p0.Root.x4,.int .u8 p0.Root.x5,.int .u8 p0.Parent.x0,.int .u8 p0.Parent.x1,.int .u8 p0.Parent.x2,.int .u8 p0.Parent.x3,.int .u8 p0.Parent.x4,.int .u8 p0.Parent.x5,.int .i64 p0.Seq,.int .i64 p0.Hops,.int .i64 p0.Cost,.bool p0.Gate,.int .i64 p0.Until],.agg [.int .u8 p1.Root.x0,.int .u8 p1.Root.x1,.int .u8 p1.Root.x2,.int .u8 p1.Root.x3,.int .u8 p1.Root.x4,.int .u8 p1.Root.x5,.int .u8 p1.Parent.x0,.int .u8 p1.Parent.x1,.int .u8 p1.Parent.x2,.int .u8 p1.Parent.x3,.int .u8 p1.Parent.x4,.int .u8 p1.Parent.x5,.int .i64 p1.Seq,.int .i64 p1.Hops,.int .i64 p1.Cost,.bool p1.Gate,.int .i64 p1.Until]],_,(fun E vs F=>yU hw0.1 F (fun vs F=>yU hw1.1 F (fun vs F=>F))),rfl,rfl,?_⟩
  rw [Try.ntmps38]
  simp only [lC,lN,Nat.reduceAdd,Nat.reduceSub,rS,rZ,aC,aN]
  unfold F38 at H
  refine sq zB ?_
  simp only [go_sem]
  refine sq zB ?_
  simp only [go_sem,Nat.reduceLeDiff,Nat.reduceLT,Nat.reduceAdd]
  repeat ((with_reducible refine aI ?_ ?_);exact an1)
  refine rg zB ?_
  simp only [go_sem]
  obtain rfl:=Option.some.inj H
  first|rfl|simp only [Bool.and_false,Bool.false_and,Bool.and_true,Bool.true_and]
 ·cases hb
noncomputable def ct78t0:Ct:=tab [(37,yD cD),(42,yD vX)]
theorem ct78t0_ok:xK Try.prog ct78t0:=yG ok37 <| yG ok42 <| yM
theorem ct78t0_37 (l:List AV) (h:List ABlk):ct78t0 37 l h=yD cD l h:=rfl
theorem ct78t0_42 (l:List AV) (h:List ABlk):ct78t0 42 l h=yD vX l h:=rfl
noncomputable def ct78t1:Ct:=tab [(42,yD vX)]
theorem ct78t1_ok:xK Try.prog ct78t1:=yG ok42 <| yM
theorem ct78t1_42 (l:List AV) (h:List ABlk):ct78t1 42 l h=yD vX l h:=rfl
noncomputable def ct78t2:Ct:=tab [(38,yD body38)]
theorem ct78t2_ok:xK Try.prog ct78t2:=yG ok38 <| yM
theorem ct78t2_38 (l:List AV) (h:List ABlk):ct78t2 38 l h=yD body38 l h:=rfl
noncomputable def F78_L1 (w1:List TRoots) (v1_1:Int):Option (Lp (Int) ((Unit) ⊕ (Bool))) :=
 bif (bLt v1_1 8) then (need (inb v1_1 8) <| need (inb v1_1 w1.length) <| (F42 0).bind fun r5=>(F37 (TRoots.mk (A6u8.mk (((gd w1 v1_1.toNat).Own).x0) (((gd w1 v1_1.toNat).Own).x1) (((gd w1 v1_1.toNat).Own).x2) (((gd w1 v1_1.toNat).Own).x3) (((gd w1 v1_1.toNat).Own).x4) (((gd w1 v1_1.toNat).Own).x5)) ((gd w1 v1_1.toNat).Root) ((gd w1 v1_1.toNat).Gate) ((gd w1 v1_1.toNat).Seq) ((gd w1 v1_1.toNat).Trees) ((gd w1 v1_1.toNat).Proxies)) r5).bind fun r7=>need (bif (!(!r7.2)) then ((F42 0).isSome) else true) <| bif ((!r7.2) || (bEq r7.1.Parent.x0 ((gt (F42 0)).x0) && (bEq r7.1.Parent.x1 ((gt (F42 0)).x1) && (bEq r7.1.Parent.x2 ((gt (F42 0)).x2) && (bEq r7.1.Parent.x3 ((gt (F42 0)).x3) && (bEq r7.1.Parent.x4 ((gt (F42 0)).x4) && (bEq r7.1.Parent.x5 ((gt (F42 0)).x5)))))))) then (some (.next (wr .i64 (v1_1+1)))) else (bif ((bLt (wr .i64 ((wr .i64 r7.1.Parent.x0) - 1)) 1) || (bLe 8 (wr .i64 ((wr .i64 r7.1.Parent.x0) - 1)))) then (some (.done (.inr false))) else (need (inb (wr .i64 ((wr .i64 r7.1.Parent.x0) - 1)) 8) <| need (inb (wr .i64 ((wr .i64 r7.1.Parent.x0) - 1)) w1.length) <| (F42 0).bind fun r12=>(F37 (TRoots.mk (A6u8.mk (((gd w1 ((wr .i64 ((wr .i64 r7.1.Parent.x0) - 1)).toNat)).Own).x0) (((gd w1 ((wr .i64 ((wr .i64 r7.1.Parent.x0) - 1)).toNat)).Own).x1) (((gd w1 ((wr .i64 ((wr .i64 r7.1.Parent.x0) - 1)).toNat)).Own).x2) (((gd w1 ((wr .i64 ((wr .i64 r7.1.Parent.x0) - 1)).toNat)).Own).x3) (((gd w1 ((wr .i64 ((wr .i64 r7.1.Parent.x0) - 1)).toNat)).Own).x4) (((gd w1 ((wr .i64 ((wr .i64 r7.1.Parent.x0) - 1)).toNat)).Own).x5)) ((gd w1 ((wr .i64 ((wr .i64 r7.1.Parent.x0) - 1)).toNat)).Root) ((gd w1 ((wr .i64 ((wr .i64 r7.1.Parent.x0) - 1)).toNat)).Gate) ((gd w1 ((wr .i64 ((wr .i64 r7.1.Parent.x0) - 1)).toNat)).Seq) ((gd w1 ((wr .i64 ((wr .i64 r7.1.Parent.x0) - 1)).toNat)).Trees) ((gd w1 ((wr .i64 ((wr .i64 r7.1.Parent.x0) - 1)).toNat)).Proxies)) r12).bind fun r14=>need (bif (!(!r14.2)) then ((F38 r14.1 r7.1).isSome) else true) <| bif ((!r14.2) || (!(gt (F38 r14.1 r7.1)))) then (some (.done (.inr false))) else (some (.next (wr .i64 (v1_1+1))))))) else (some (.done (.inl ())))
noncomputable def F78 (p0:A8TRoots):Option (Bool) :=
 (some [p0.x0,p0.x1,p0.x2,p0.x3,p0.x4,p0.x5,p0.x6,p0.x7]).bind fun w1=>lp (yP (fun s=>F78_L1 w1 s) 1) (fun _=>some true) some
noncomputable def body78:List AV->AR
 | [v0]=>.pure (aK 88 uL v0/\(F78 (wN (aL v0))).isSome=true) (.bool (gt (F78 (wN (aL v0)))))
 | _=>.fail
theorem ok78:wS Try.prog 78 (yD body78):=by
 refine xH body78 (rs:=[.tmp 2]) Try.func78 (by kernel_rfl) rfl rfl ?_
 intro l ob v hb hob
 unfold body78 at hb
 split at hb
 ·rename_i v0
  injection hb with q1 q2;subst q1 q2
  obtain ⟨hk0_0,hob⟩:=hob
  obtain ⟨r,H⟩:=oE.1 hob
  rw [H,zU]
  have hw0:=wA_A8TRoots hk0_0
  generalize wN (aL v0)=p0 at H hw0
  refine ⟨[.agg (.int .u8 p0.x0.Own.x0::.int .u8 p0.x0.Own.x1::.int .u8 p0.x0.Own.x2::.int .u8 p0.x0.Own.x3::.int .u8 p0.x0.Own.x4::.int .u8 p0.x0.Own.x5::.bool p0.x0.Root::.bool p0.x0.Gate::.int .i64 p0.x0.Seq::.ro 17 p0.x0.Trees.length false (enR zH p0.x0.Trees)::.ro 13 p0.x0.Proxies.length false (enR zC p0.x0.Proxies)::.int .u8 p0.x1.Own.x0::.int .u8 p0.x1.Own.x1::.int .u8 p0.x1.Own.x2::.int .u8 p0.x1.Own.x3::.int .u8 p0.x1.Own.x4::.int .u8 p0.x1.Own.x5::.bool p0.x1.Root::.bool p0.x1.Gate::.int .i64 p0.x1.Seq::.ro 17 p0.x1.Trees.length false (enR zH p0.x1.Trees)::.ro 13 p0.x1.Proxies.length false (enR zC p0.x1.Proxies)::.int .u8 p0.x2.Own.x0::.int .u8 p0.x2.Own.x1::.int .u8 p0.x2.Own.x2::.int .u8 p0.x2.Own.x3::.int .u8 p0.x2.Own.x4::.int .u8 p0.x2.Own.x5::.bool p0.x2.Root::.bool p0.x2.Gate::.int .i64 p0.x2.Seq::.ro 17 p0.x2.Trees.length false (enR zH p0.x2.Trees)::.ro 13 p0.x2.Proxies.length false (enR zC p0.x2.Proxies)::.int .u8 p0.x3.Own.x0::.int .u8 p0.x3.Own.x1::.int .u8 p0.x3.Own.x2::.int .u8 p0.x3.Own.x3::.int .u8 p0.x3.Own.x4::.int .u8 p0.x3.Own.x5::.bool p0.x3.Root::.bool p0.x3.Gate::.int .i64 p0.x3.Seq::.ro 17 p0.x3.Trees.length false (enR zH p0.x3.Trees)::.ro 13 p0.x3.Proxies.length false (enR zC p0.x3.Proxies)::.int .u8 p0.x4.Own.x0::.int .u8 p0.x4.Own.x1::.int .u8 p0.x4.Own.x2::.int .u8 p0.x4.Own.x3::.int .u8 p0.x4.Own.x4::.int .u8 p0.x4.Own.x5::.bool p0.x4.Root::.bool p0.x4.Gate::.int .i64 p0.x4.Seq::.ro 17 p0.x4.Trees.length false (enR zH p0.x4.Trees)::.ro 13 p0.x4.Proxies.length false (enR zC p0.x4.Proxies)::.int .u8 p0.x5.Own.x0::.int .u8 p0.x5.Own.x1::.int .u8 p0.x5.Own.x2::.int .u8 p0.x5.Own.x3::.int .u8 p0.x5.Own.x4::.int .u8 p0.x5.Own.x5::.bool p0.x5.Root::.bool p0.x5.Gate::.int .i64 p0.x5.Seq::.ro 17 p0.x5.Trees.length false (enR zH p0.x5.Trees)::.ro 13 p0.x5.Proxies.length false (enR zC p0.x5.Proxies)::.int .u8 p0.x6.Own.x0::.int .u8 p0.x6.Own.x1::.int .u8 p0.x6.Own.x2::.int .u8 p0.x6.Own.x3::.int .u8 p0.x6.Own.x4::.int .u8 p0.x6.Own.x5::.bool p0.x6.Root::.bool p0.x6.Gate::.int .i64 p0.x6.Seq::.ro 17 p0.x6.Trees.length false (enR zH p0.x6.Trees)::.ro 13 p0.x6.Proxies.length false (enR zC p0.x6.Proxies)::.int .u8 p0.x7.Own.x0::.int .u8 p0.x7.Own.x1::.int .u8 p0.x7.Own.x2::.int .u8 p0.x7.Own.x3::.int .u8 p0.x7.Own.x4::.int .u8 p0.x7.Own.x5::.bool p0.x7.Root::.bool p0.x7.Gate::.int .i64 p0.x7.Seq::.ro 17 p0.x7.Trees.length false (enR zH p0.x7.Trees)::.ro 13 p0.x7.Proxies.length false (enR zC p0.x7.Proxies)::[])],_,(fun E vs F=>yU hw0.1 F (fun vs F=>F)),rfl,rfl,?_⟩
  rw [Try.ntmps78]
  simp only [lC,lN,Nat.reduceAdd,Nat.reduceSub,rS,rZ,aC,aN]
  unfold F78 at H
  refine zW ?_
  refine jT ?_
  refine wP zR zB 0 ?_
  simp only [zY,tZ,dZ,go_sem]
  refine dA zR zB (len:=8) (z:=11) rfl rfl rfl rfl (by first|exact trivial|(simp only [go_sem,Nat.reduceLeDiff,Nat.reduceLT,Nat.reduceAdd,Nat.reduceMul,Nat.reduceSub,Nat.reduceEqDiff,Nat.reduceBEq,Int.reduceToNat,reduceCtorEq];done)|simp [og]) rfl ?_
  simp only [go_sem]
  refine wP zR zB 1 ?_
  simp only [zY,tS,tZ,dS,dZ,go_sem]
  refine jD ?_
  refine zW ?_
  refine zW ?_
  obtain ⟨w1,hw2,H⟩:=bsj H
  have lhw2:w1.length=8:=by rw [← hw2];exact (by first|rfl|simp)
  refine vD (t2:=(.top::.ptr 0 11 0 0::tp 54 [])) (h2:=[.row 84 11 w1.length (enR yA w1)]) ?_ ?_
  ·refine zN ⟨[some 0],?_,?_,by rfl,by rfl⟩
   ·simp [CvL,Cv,yE,tp]
   ·exact ⟨zO wC lhw2 (hw2 ▸ (vP (f:=yA) [p0.x0,p0.x1,p0.x2,p0.x3,p0.x4,p0.x5,p0.x6,p0.x7] (fun _ _=>rfl) rfl)),trivial⟩
  simp only [tp]
  refine rg zB ?_
  simp only [go_sem]
  refine vE ?_
  refine xQ (fun s:Int=>(.top::.ptr 0 11 0 0::.top::.int .i64 s::tp 52 [])) (fun s=>[.row 84 11 w1.length (enR yA w1)]) (fun e:Unit=>(tp 56 [])) (fun e=>[.dead]) H ?_ (fun v1_1 o H hn1_1 hn2_1=>?_) (fun e H=>?_)
  ·refine zN ⟨[some 0],?_,?_,by rfl,by rfl⟩
   ·simp [CvL,Cv,yE,tp]
   ·exact ⟨(zT nfA),trivial⟩
  ·unfold F78_L1 at H
   try dsimp only at H ⊢
   try simp only [tp]
   refine zW ?_
   refine sq zB ?_
   simp only [go_sem]
   refine condM' rfl trivial (fun hc=>?_) (fun hc=>?_)
   ·replace H:=yI hc H
    refine rg zB ?_
    simp only [go_sem]
    refine ⟨_,(Option.some.inj H).symm,?_⟩
    refine zN ⟨[some 0],?_,?_,by rfl,by rfl⟩
    ·simp [CvL,Cv]
    ·exact ⟨zD,trivial⟩
   replace H:=yJ hc H
   refine rg zB ?_
   simp only [go_sem]
   refine zW ?_
   refine vE ?_
   refine zW ?_
   obtain ⟨f3,H⟩:=nI H
   obtain ⟨f4,H⟩:=nI H
   obtain ⟨r5,e6,H⟩:=bsi H
   obtain ⟨r7,e8,H⟩:=bsi H
   refine vA zR ct78t0_ok 1 (by kernel_rfl) (by kernel_rfl) ?_
   intro an han
   simp only [fT,qY,cS,xrD,xoD,dP,qU,List.append_nil,wJ,refs,jN,mask,tK,place,vS,tL,uE,hit,inL,wO,ren,rnN,nrH,nrB,nrL,nr,rZ,rS,Nat.sub_self,Nat.add_zero,Nat.zero_add,Nat.reduceSub,Nat.lt_add_one,go_sem,Nat.reduceLeDiff,Nat.reduceLT,Nat.reduceAdd,Nat.reduceSub,Nat.reduceBEq,ct78t0_37,cD,ct78t0_42,vX,f3,f4,e6,e8]
   repeat ((with_reducible refine aI ?_ ?_);exact an3)
   refine zW ?_
   refine zW ?_
   obtain ⟨f9,H⟩:=zM.1 H
   replace f9:=xX.1 f9
   refine wT zR ct78t1_ok (by kernel_rfl) (by kernel_rfl) ?_
   simp only [go_sem,Nat.reduceLeDiff,Nat.reduceLT,Nat.reduceAdd,reduceCtorEq,ct78t1_42,vX]
   repeat ((with_reducible refine And.intro ?_ ?_);focus (first|(with_reducible trivial)|omega|exact f9|(intro g;have q:=f9 (by first|exact g|(rw [g];rfl)|simpa using g);first|exact q|exact ⟨q.1,q.2.1⟩|exact q.2.2|omega|exact ⟨g,q⟩|exact ⟨trivial,q⟩|exact ⟨g,q.1,q.2.1⟩|exact ⟨g,q.2.2⟩)|(intro g;(try have q0:=f9 (by first|exact g|(rw [g];rfl)|simpa using g));and_intros<;>first|(with_reducible trivial)|assumption|exact nfc|(intro g2;rw [g,g2];rfl)|(intro g2;assumption)|(simp only [g,Bool.true_and,Bool.and_true,Bool.not_false,Bool.not_true];assumption)|grind)|(and_intros<;>first|(with_reducible trivial)|omega|assumption|exact nfc|first|exact rfl|exact trivial|exact tP|exact .inr rfl|exact .inl rfl|exact fun x hx=>absurd hx (by omega))|grind))
   refine xJ rfl trivial (fun hc=>?_) (fun hc=>?_)
   ·replace H:=yJ hc H
    refine rg zB ?_
    simp only [go_sem,Nat.reduceBEq]
    refine rg zB ?_
    simp only [go_sem]
    refine ⟨_,(Option.some.inj H).symm,?_⟩
    refine zN ⟨[some 0],?_,?_,by rfl,by rfl⟩
    ·simp [CvL,Cv,yE]
    ·exact ⟨(zT nfA),trivial⟩
   replace H:=yI hc H
   refine rg zB ?_
   simp only [go_sem]
   refine sq zB ?_
   simp only [go_sem,Nat.reduceLeDiff,Nat.reduceLT,Nat.reduceAdd,Nat.reduceBEq,reduceCtorEq]
   repeat ((with_reducible refine aI ?_ ?_);exact an1)
   refine zW ?_
   refine sq zB ?_
   simp only [go_sem]
   refine xJ rfl trivial (fun hc=>?_) (fun hc=>?_)
   ·replace H:=yJ hc H
    refine sq zB ?_
    simp only [go_sem]
    refine rg zB ?_
    simp only [go_sem]
    have H:=hn2_1 _ (Option.some.inj H).symm
    obtain rfl:=Option.some.inj H
    first|rfl|simp only [Bool.and_false,Bool.false_and,Bool.and_true,Bool.true_and]
   replace H:=yI hc H
   refine rg zB ?_
   simp only [go_sem]
   refine zW ?_
   obtain ⟨f10,H⟩:=nI H
   obtain ⟨f11,H⟩:=nI H
   obtain ⟨r12,e13,H⟩:=bsi H
   obtain ⟨r14,e15,H⟩:=bsi H
   refine vA zR ct78t0_ok 1 (by kernel_rfl) (by kernel_rfl) ?_
   intro an han
   simp only [fT,qY,cS,xrD,xoD,dP,qU,List.append_nil,wJ,refs,jN,mask,tK,place,vS,tL,uE,hit,inL,wO,ren,rnN,nrH,nrB,nrL,nr,rZ,rS,Nat.sub_self,Nat.add_zero,Nat.zero_add,Nat.reduceSub,Nat.lt_add_one,go_sem,Nat.reduceLeDiff,Nat.reduceLT,Nat.reduceAdd,Nat.reduceSub,Nat.reduceBEq,ct78t0_37,cD,ct78t0_42,vX,f10,f11,e13,e15]
   repeat ((with_reducible refine aI ?_ ?_);exact an3)
   refine zW ?_
   obtain ⟨f16,H⟩:=zM.1 H
   replace f16:=xX.1 f16
   refine rg ct78t2_ok ?_
   simp only [go_sem,Nat.reduceLT,Nat.reduceAdd,ct78t2_38,body38]
   repeat ((with_reducible refine And.intro ?_ ?_);focus (first|(with_reducible trivial)|omega|exact f16|(intro g;have q:=f16 (by first|exact g|(rw [g];rfl)|simpa using g);first|exact q|exact ⟨q.1,q.2.1⟩|exact q.2.2|omega|exact ⟨g,q⟩|exact ⟨trivial,q⟩|exact ⟨g,q.1,q.2.1⟩|exact ⟨g,q.2.2⟩)|(intro g;(try have q0:=f16 (by first|exact g|(rw [g];rfl)|simpa using g));and_intros<;>first|(with_reducible trivial)|assumption|exact nfc|(intro g2;rw [g,g2];rfl)|(intro g2;assumption)|(simp only [g,Bool.true_and,Bool.and_true,Bool.not_false,Bool.not_true];assumption)|grind)|(and_intros<;>first|(with_reducible trivial)|omega|assumption|exact nfc|first|exact rfl|exact trivial|exact tP|exact .inr rfl|exact .inl rfl|exact fun x hx=>absurd hx (by omega))|grind))
   refine xJ rfl trivial (fun hc=>?_) (fun hc=>?_)
   ·replace H:=yJ hc H
    refine sq zB ?_
    simp only [go_sem]
    refine rg zB ?_
    simp only [go_sem]
    have H:=hn2_1 _ (Option.some.inj H).symm
    obtain rfl:=Option.some.inj H
    first|rfl|simp only [Bool.and_false,Bool.false_and,Bool.and_true,Bool.true_and]
   replace H:=yI hc H
   refine rg zB ?_
   simp only [go_sem]
   refine rg zB ?_
   simp only [go_sem]
   refine ⟨_,(Option.some.inj H).symm,?_⟩
   refine zN ⟨[some 0],?_,?_,by rfl,by rfl⟩
   ·simp [CvL,Cv,yE]
   ·exact ⟨(zT nfA),trivial⟩
  ·try dsimp only at H ⊢
   try simp only [tp]
   try simp only [xA]
   refine sq zB ?_
   simp only [go_sem]
   refine rg zB ?_
   simp only [go_sem]
   obtain rfl:=Option.some.inj H
   first|rfl|simp only [Bool.and_false,Bool.false_and,Bool.and_true,Bool.true_and]
 ·cases hb
end Go.Proofs.Ytdcepineppafpaa
