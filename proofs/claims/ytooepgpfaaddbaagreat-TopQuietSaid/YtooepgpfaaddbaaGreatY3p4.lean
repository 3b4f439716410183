/-
  Contracts of functions: each computes its partial function.
-/
import Derived.Test.YtooepgpfaaddbaaGreatY3p3
namespace Go.Proofs.YtooepgpfaaddbaaGreat
open Go.Am
set_option maxHeartbeats 4000000
set_option maxRecDepth 20000
noncomputable section
set_option linter.unusedVariables false
set_option linter.unusedSimpArgs false
def ct65_0t0:Ct:=tab [(18,pureC wC)]
theorem ct65_0t0_ok:yP Tryz.prog ct65_0t0:=zE ok18_0 <| zO
theorem ct65_0t0_18 (l:List AV) (h:List ABlk):ct65_0t0 18 l h=pureC wC l h:=rfl
def ct65_0t1:Ct:=tab [(49,edC qW)]
theorem ct65_0t1_ok:yP Tryz.prog ct65_0t1:=zE ok49_0 <| zO
theorem ct65_0t1_49 (l:List AV) (h:List ABlk):ct65_0t1 49 l h=edC qW l h:=rfl
def F65_0 (p0:TRegulate) (p1:TRegulateWord) (p2:Int) (p3:Int):Option ((List TRegulateWord) × Int × TRegulate) :=
 (wX p0.Table p1.To).bind fun r1=>bif (!r1) then (some ([],6,(TRegulate.mk p0.Table p0.Channel p0.Lead p0.Heard p0.Stopped p0.Moving p0.To p0.At p0.Blocked p0.Clear))) else ((F49_0 (TRegulate.mk p0.Table p0.Channel p0.Lead p0.Heard p0.Stopped p0.Moving p0.To p0.At p0.Blocked p0.Clear) p3).bind fun r4=>some ([],0,(TRegulate.mk r4.Table r4.Channel r4.Lead r4.Heard r4.Stopped true p1.To p1.At r4.Blocked r4.Clear)))
def eL:List AV->List ABlk->ED
 | [v0,v1,v2,v3],h=>(fun z1=>(fun z0=>.ed [ptB v0,slN (getL (yA h v0) 0),slN (getL (yA h v0) 8),slN (getL (yA h v0) 9)] (pK 30 10 h v0/\xA (getL (kK h (yA h v0)))/\oS 35 3 h (getL (yA h v0) 0)/\nref (getL (yA h v0) 1)/\nref (getL (yA h v0) 2)/\nref (getL (yA h v0) 3)/\nref (getL (yA h v0) 4)/\nref (getL (yA h v0) 5)/\nref (getL (yA h v0) 6)/\nref (getL (yA h v0) 7)/\oS 97 2 h (getL (yA h v0) 8)/\oS 3 1 h (getL (yA h v0) 9)/\aK 4 yV (roD z1 v1)/\xJ z1 v1/\iK .i64 (roD z1 v2)/\xJ z1 v2/\iK .i64 (roD z1 v3)/\xJ z1 v3/\z0.isSome=true) (.tup [.sl 7 4 0 (((gt z0).1).length) false,.int .i64 ((gt z0).2.1)]) [.lit 30 [.sl 4 3 0 ((((gt z0).2.2).Table).length) false,.int .i64 (((gt z0).2.2).Channel),.bool (((gt z0).2.2).Lead),.int .i64 (((gt z0).2.2).Heard),.bool (((gt z0).2.2).Stopped),.bool (((gt z0).2.2).Moving),.int .i64 (((gt z0).2.2).To),.int .i64 (((gt z0).2.2).At),.sl 5 2 0 ((((gt z0).2.2).Blocked).length) false,.sl 6 1 0 ((((gt z0).2.2).Clear).length) false],.dead,.dead,.dead,.row 35 3 ((((gt z0).2.2).Table).length) (enR c_TRegulateChannel (((gt z0).2.2).Table)),.row 97 2 ((((gt z0).2.2).Blocked).length) (enR zB (((gt z0).2.2).Blocked)),.row 3 1 ((((gt z0).2.2).Clear).length) (enR yG (((gt z0).2.2).Clear)),.row 43 4 (((gt z0).1).length) (enR zR ((gt z0).1))]) (F65_0 (yJ (getL (kK h (yA h v0)))) (zY (aL (roD z1 v1))) (iA (roD z1 v2)) (iA (roD z1 v3)))) (zH h [ptB v0,slN (getL (yA h v0) 0),slN (getL (yA h v0) 8),slN (getL (yA h v0) 9)])
 | _,_=>.fail
theorem ok65_0:FnOk Tryz.prog 65 (edC eL):=by
 refine xO eL (rs:=[.tmp 8,.tmp 9]) Tryz.func65 (by kernel_rfl) rfl rfl ?_
 intro l h bs ob q0 g0 hb hob
 unfold eL at hb
 dsimp only at hb
 split at hb
 ·rename_i v0 v1 v2 v3
  injection hb with q1 q2 q3 q4;subst q1 q2 q3 q4
  obtain ⟨hk0_0,hk0_1,hk0_2,hk0_3,hk0_4,hk0_5,hk0_6,hk0_7,hk0_8,hk0_9,hk0_10,hk0_11,hk1_0,hk1_1,hk2_0,hk2_1,hk3_0,hk3_1,hob⟩:=hob
  obtain ⟨r,H⟩:=oE.1 hob
  rw [H,zN]
  obtain ⟨p0,hp0⟩:∃ p0,p0=yJ (getL (kK h (yA h v0))):=⟨_,rfl⟩
  rw [← hp0] at H
  have hw0:∀ y,y < 10->WkV (getL (zG p0) y) (roW h (getL (yA h v0) y))/\nref (getL (zG p0) y):=fun y hy=>by rw [hp0,← yQ];exact qO hk0_1 y hy
  have hk0_K:=hk0_1
  unfold xA at hk0_K
  obtain ⟨kk0_0,kk0_1,kk0_2,kk0_3,kk0_4,kk0_5,kk0_6,kk0_7,kk0_8,kk0_9⟩:=hk0_K
  obtain ⟨ev0_0,eb0_0⟩:=wT (f:=c_TRegulateChannel) (g:=g_TRegulateChannel) (bs:=[ptB v0,slN (getL (yA h v0) 0),slN (getL (yA h v0) 8),slN (getL (yA h v0) 9)]) (i:=1) (fun hr=>yH hr) hk0_2 (by rw [← yQ];exact kk0_0) (L:=p0.Table) (by rw [hp0,← yQ];rfl) rfl
  obtain ⟨ev0_8,eb0_8⟩:=wT (f:=zB) (g:=zF) (bs:=[ptB v0,slN (getL (yA h v0) 0),slN (getL (yA h v0) 8),slN (getL (yA h v0) 9)]) (i:=2) (fun hr=>xD hr) hk0_10 (by rw [← yQ];exact kk0_8) (L:=p0.Blocked) (by rw [hp0,← yQ];rfl) rfl
  obtain ⟨ev0_9,eb0_9⟩:=wT (f:=yG) (g:=xQ) (bs:=[ptB v0,slN (getL (yA h v0) 0),slN (getL (yA h v0) 8),slN (getL (yA h v0) 9)]) (i:=3) (fun hr=>jJ hr) hk0_11 (by rw [← yQ];exact kk0_9) (L:=p0.Clear) (by rw [hp0,← yQ];rfl) rfl
  have hw1:=xY hk1_0
  obtain ⟨p1,hp_p1⟩:∃ p1,p1=zY (aL (roD (zH h [ptB v0,slN (getL (yA h v0) 0),slN (getL (yA h v0) 8),slN (getL (yA h v0) 9)]) v1)):=⟨_,rfl⟩
  rw [← hp_p1] at H hw1
  have hw2:=iK_wk hk2_0
  obtain ⟨p2,hp_p2⟩:∃ p2,p2=iA (roD (zH h [ptB v0,slN (getL (yA h v0) 0),slN (getL (yA h v0) 8),slN (getL (yA h v0) 9)]) v2):=⟨_,rfl⟩
  rw [← hp_p2] at H hw2
  have hw3:=iK_wk hk3_0
  obtain ⟨p3,hp_p3⟩:∃ p3,p3=iA (roD (zH h [ptB v0,slN (getL (yA h v0) 0),slN (getL (yA h v0) 8),slN (getL (yA h v0) 9)]) v3):=⟨_,rfl⟩
  rw [← hp_p3] at H hw3
  refine ⟨[.ptr 0 0 0 0,.agg [.int .u8 p1.Kind,.int .i64 p1.Channel,.int .i64 p1.To,.int .i64 p1.At],.int .i64 p2,.int .i64 p3],[.lit 30 [.sl 1 3 0 p0.Table.length false,.int .i64 p0.Channel,.bool p0.Lead,.int .i64 p0.Heard,.bool p0.Stopped,.bool p0.Moving,.int .i64 p0.To,.int .i64 p0.At,.sl 2 2 0 p0.Blocked.length false,.sl 3 1 0 p0.Clear.length false],.row 35 3 p0.Table.length (enR c_TRegulateChannel p0.Table),.row 97 2 p0.Blocked.length (enR zB p0.Blocked),.row 3 1 p0.Clear.length (enR yG p0.Clear)],rfl,⟨(cM (EV_pK hk0_0 rfl) (by simp only [noro])),⟨(yR hk1_1 hw1),⟨(yR hk2_1 hw2),⟨(yR hk3_1 hw3),trivial⟩⟩⟩⟩,⟨(EB_pK hk0_0 rfl rfl (fun y hy=>by
     match y,hy with
     | 0,_=>exact ev0_0
     | 1,_=>exact uQ hk0_3 (hw0 1 (by decide))
     | 2,_=>exact uQ hk0_4 (hw0 2 (by decide))
     | 3,_=>exact uQ hk0_5 (hw0 3 (by decide))
     | 4,_=>exact uQ hk0_6 (hw0 4 (by decide))
     | 5,_=>exact uQ hk0_7 (hw0 5 (by decide))
     | 6,_=>exact uQ hk0_8 (hw0 6 (by decide))
     | 7,_=>exact uQ hk0_9 (hw0 7 (by decide))
     | 8,_=>exact ev0_8
     | 9,_=>exact ev0_9
     | y+10,hy=>omega)),⟨eb0_0,⟨eb0_8,⟨eb0_9,trivial⟩⟩⟩⟩,⟨(by simp only [kP,yK,noro,and_self]),⟨zW,⟨zW,⟨zW,trivial⟩⟩⟩⟩,⟨trivial,⟨trivial,⟨trivial,⟨trivial,⟨(yY zI),⟨(yY zM),⟨(yY xL),⟨(yY yL),trivial⟩⟩⟩⟩⟩⟩⟩⟩,⟨(by simp only [kP,yK,noro,and_self]),⟨trivial,⟨trivial,⟨trivial,⟨zW,⟨zW,⟨zW,⟨zW,trivial⟩⟩⟩⟩⟩⟩⟩⟩,(by first|(simp only [noro,yK,and_self];done)|(simp only [noro,yK];and_intros<;>first|trivial|exact xX (by simp only [noro]) (by simp only [noro])|(simp only [noro,yK,and_self]))),?_⟩
  rw [Tryz.ntmps65]
  simp only [lC,lN,Nat.reduceAdd,Nat.reduceSub,rS,rZ,aC,aN]
  unfold F65_0 at H
  try dsimp only at H
  refine sq zA ?_
  simp only [go_sem,Nat.reduceAdd]
  refine zC ?_
  refine zC ?_
  obtain ⟨r1,e2,H⟩:=bsi H
  refine rg ct65_0t0_ok ?_
  simp only [go_sem,Nat.reduceLeDiff,Nat.reduceLT,Nat.reduceAdd,ct65_0t0_18,wC,e2]
  repeat ((with_reducible refine aI ?_ ?_);exact an0)
  refine zX rfl trivial (fun hc=>?_) (fun hc=>?_)
  ·have hk3:(r1)=false:=by simpa using hc
   replace H:=zL hc H
   refine sq zA ?_
   simp only [go_sem]
   refine rg zA ?_
   simp only [go_sem]
   obtain rfl:=Option.some.inj H
   refine yE [] [some 0,some 1,some 2,some 3,some 1,some 2,some 3,none] ?_ ?_ ?_ ?_ (by rfl) (by rfl)
   ·simp only [go_sem]
    try exact at0
   ·simp only [go_sem]
    try exact at0
   ·simp only [go_sem]
    exact cT
   ·simp only [go_sem,CvH]
    first|exact ⟨(by simp [CvB,CvL,Cv,uD,geth,yB]),yI,yI,yI,zJ zI cl (fun _ _ _ _=>rfl),zJ zM cl (fun _ _ _ _=>rfl),zJ xL cl (fun _ _ _ _=>rfl),zQ⟩|trivial
  have hk3:(r1)=true:=by simpa using hc
  replace H:=zK hc H
  refine rg zA ?_
  simp only [go_sem]
  refine zC ?_
  obtain ⟨r4,e5,H⟩:=bsi H
  refine rg ct65_0t1_ok ?_
  simp only [go_sem,Nat.reduceAdd,Nat.reduceBEq,ct65_0t1_49,qW,e5]
  repeat ((with_reducible refine aI ?_ ?_);exact an0)
  refine zC ?_
  refine xC zU zA 0 (by kernel_rfl) (by kernel_rfl) ?_
  intro an han
  simp only [vH,wI,tC,xrD,xoD,uY,vL,List.append_nil,xF,refs,mask,wN,place,xU,wO,xV,hit,inL,xH,nrH,nrB,nrL,nr,rZ,Nat.sub_self,Nat.add_zero,Nat.zero_add,Nat.reduceSub,Nat.lt_add_one,go_sem,Nat.reduceLeDiff,Nat.reduceLT,Nat.reduceAdd,Nat.reduceSub,Nat.reduceBEq]
  repeat ((with_reducible refine aI ?_ ?_);exact an5)
  refine sq zA ?_
  simp only [go_sem]
  refine rg zA ?_
  simp only [go_sem]
  obtain rfl:=Option.some.inj H
  refine yE [] [some 0,some 1,some 2,some 3,some 5,some 6,some 7,none] ?_ ?_ ?_ ?_ (by rfl) (by rfl)
  ·simp only [go_sem]
   try exact at0
  ·simp only [go_sem]
   try exact at0
  ·simp only [go_sem]
   exact cT
  ·simp only [go_sem,CvH]
   first|exact ⟨(by simp [CvB,CvL,Cv,uD,geth,yB]),yI,yI,yI,zJ zI cl (fun _ _ _ _=>rfl),zJ zM cl (fun _ _ _ _=>rfl),zJ xL cl (fun _ _ _ _=>rfl),zQ⟩|trivial
 ·cases hb
def F66_0 (p0_2:Bool) (p0_4:Bool) (p1:TRegulateWord) (p2:Int):Option (Bool) :=
 some (p0_2 && (!p0_4))
def eM:List AV->AR
 | [v0,v1,v2]=>.pure (rM 10 v0/\bK (rG v0 2)/\bK (rG v0 4)/\aK 4 yV v1/\iK .i64 v2/\(F66_0 (bA (rG v0 2)) (bA (rG v0 4)) (zY (aL v1)) (iA v2)).isSome=true) (.bool (gt (F66_0 (bA (rG v0 2)) (bA (rG v0 4)) (zY (aL v1)) (iA v2))))
 | _=>.fail
theorem ok66_0:FnOk Tryz.prog 66 (pureC eM):=by
 refine yM eM (rs:=[.tmp 6]) Tryz.func66 (by kernel_rfl) rfl rfl ?_
 intro l ob v hb hob
 unfold eM at hb
 split at hb
 ·rename_i v0 v1 v2
  injection hb with q1 q2;subst q1 q2
  obtain ⟨hk0_0,hk0_1,hk0_2,hk1_0,hk2_0,hob⟩:=hob
  obtain ⟨r,H⟩:=oE.1 hob
  rw [H,zN]
  have hw0:=(fN (cells:=[AV.top,AV.top,AV.bool (bA (rG v0 2)),AV.top,AV.bool (bA (rG v0 4)),AV.top,AV.top,AV.top,AV.top,AV.top]) hk0_0 (fun y hy=>match y,hy with|0,_=>yD|1,_=>yD|2,_=>vT hk0_1|3,_=>yD|4,_=>vT hk0_2|5,_=>yD|6,_=>yD|7,_=>yD|8,_=>yD|9,_=>yD|y+10,hy=>absurd hy (by omega)))
  have hw1:=xY hk1_0
  have hw2:=iK_wk hk2_0
  generalize bA (rG v0 2)=p0_2 at H hw0
  generalize bA (rG v0 4)=p0_4 at H hw0
  generalize zY (aL v1)=p1 at H hw1
  generalize iA v2=p2 at H hw2
  refine ⟨[.rptr 10 1 0 0 (fun _ y=>getL [.top,.top,.bool p0_2,.top,.bool p0_4,.top,.top,.top,.top,.top] y),.agg [.int .u8 p1.Kind,.int .i64 p1.Channel,.int .i64 p1.To,.int .i64 p1.At],.int .i64 p2],_,(fun E vs F=>yC hw0.1 F (fun vs F=>yC hw1.1 F (fun vs F=>yC hw2.1 F (fun vs F=>F)))),rfl,rfl,?_⟩
  rw [Tryz.ntmps66]
  simp only [lC,lN,Nat.reduceAdd,Nat.reduceSub,rS,rZ,aC,aN]
  unfold F66_0 at H
  try dsimp only at H
  refine sq zA ?_
  simp only [go_sem]
  refine sq zA ?_
  simp only [go_sem,Nat.reduceLeDiff,Nat.reduceLT,Nat.reduceAdd]
  repeat ((with_reducible refine aI ?_ ?_);exact an4)
  refine rg zA ?_
  simp only [go_sem]
  obtain rfl:=Option.some.inj H
  exact fB
 ·cases hb
def ct67_0t0:Ct:=tab [(23,edC qR)]
theorem ct67_0t0_ok:yP Tryz.prog ct67_0t0:=zE ok23_0 <| zO
theorem ct67_0t0_23 (l:List AV) (h:List ABlk):ct67_0t0 23 l h=edC qR l h:=rfl
def F67_0 (p0:TRegulate) (p1:TRegulateWord) (p2:Int) (p3:Int):Option ((List TRegulateWord) × Int × TRegulate) :=
 (F23_0 (TRegulate.mk p0.Table p0.Channel p0.Lead p0.Heard p0.Stopped p0.Moving p0.To p0.At p0.Blocked p0.Clear) p2 p3).bind fun r1=>some (r1.1,0,(TRegulate.mk r1.2.Table r1.2.Channel r1.2.Lead r1.2.Heard r1.2.Stopped r1.2.Moving r1.2.To r1.2.At r1.2.Blocked r1.2.Clear))
def eN:List AV->List ABlk->ED
 | [v0,v1,v2,v3],h=>(fun z1=>(fun z0=>.ed [ptB v0,slN (getL (yA h v0) 0),slN (getL (yA h v0) 8),slN (getL (yA h v0) 9)] (pK 30 10 h v0/\xA (getL (kK h (yA h v0)))/\oS 35 3 h (getL (yA h v0) 0)/\nref (getL (yA h v0) 1)/\nref (getL (yA h v0) 2)/\nref (getL (yA h v0) 3)/\nref (getL (yA h v0) 4)/\nref (getL (yA h v0) 5)/\nref (getL (yA h v0) 6)/\nref (getL (yA h v0) 7)/\oS 97 2 h (getL (yA h v0) 8)/\oS 3 1 h (getL (yA h v0) 9)/\aK 4 yV (roD z1 v1)/\xJ z1 v1/\iK .i64 (roD z1 v2)/\xJ z1 v2/\iK .i64 (roD z1 v3)/\xJ z1 v3/\z0.isSome=true) (.tup [.sl 7 4 0 (((gt z0).1).length) false,.int .i64 ((gt z0).2.1)]) [.lit 30 [.sl 4 3 0 ((((gt z0).2.2).Table).length) false,.int .i64 (((gt z0).2.2).Channel),.bool (((gt z0).2.2).Lead),.int .i64 (((gt z0).2.2).Heard),.bool (((gt z0).2.2).Stopped),.bool (((gt z0).2.2).Moving),.int .i64 (((gt z0).2.2).To),.int .i64 (((gt z0).2.2).At),.sl 5 2 0 ((((gt z0).2.2).Blocked).length) false,.sl 6 1 0 ((((gt z0).2.2).Clear).length) false],.dead,.dead,.dead,.row 35 3 ((((gt z0).2.2).Table).length) (enR c_TRegulateChannel (((gt z0).2.2).Table)),.row 97 2 ((((gt z0).2.2).Blocked).length) (enR zB (((gt z0).2.2).Blocked)),.row 3 1 ((((gt z0).2.2).Clear).length) (enR yG (((gt z0).2.2).Clear)),.row 43 4 (((gt z0).1).length) (enR zR ((gt z0).1))]) (F67_0 (yJ (getL (kK h (yA h v0)))) (zY (aL (roD z1 v1))) (iA (roD z1 v2)) (iA (roD z1 v3)))) (zH h [ptB v0,slN (getL (yA h v0) 0),slN (getL (yA h v0) 8),slN (getL (yA h v0) 9)])
 | _,_=>.fail
theorem ok67_0:FnOk Tryz.prog 67 (edC eN):=by
 refine xO eN (rs:=[.tmp 8,.tmp 9]) Tryz.func67 (by kernel_rfl) rfl rfl ?_
 intro l h bs ob q0 g0 hb hob
 unfold eN at hb
 dsimp only at hb
 split at hb
 ·rename_i v0 v1 v2 v3
  injection hb with q1 q2 q3 q4;subst q1 q2 q3 q4
  obtain ⟨hk0_0,hk0_1,hk0_2,hk0_3,hk0_4,hk0_5,hk0_6,hk0_7,hk0_8,hk0_9,hk0_10,hk0_11,hk1_0,hk1_1,hk2_0,hk2_1,hk3_0,hk3_1,hob⟩:=hob
  obtain ⟨r,H⟩:=oE.1 hob
  rw [H,zN]
  obtain ⟨p0,hp0⟩:∃ p0,p0=yJ (getL (kK h (yA h v0))):=⟨_,rfl⟩
  rw [← hp0] at H
  have hw0:∀ y,y < 10->WkV (getL (zG p0) y) (roW h (getL (yA h v0) y))/\nref (getL (zG p0) y):=fun y hy=>by rw [hp0,← yQ];exact qO hk0_1 y hy
  have hk0_K:=hk0_1
  unfold xA at hk0_K
  obtain ⟨kk0_0,kk0_1,kk0_2,kk0_3,kk0_4,kk0_5,kk0_6,kk0_7,kk0_8,kk0_9⟩:=hk0_K
  obtain ⟨ev0_0,eb0_0⟩:=wT (f:=c_TRegulateChannel) (g:=g_TRegulateChannel) (bs:=[ptB v0,slN (getL (yA h v0) 0),slN (getL (yA h v0) 8),slN (getL (yA h v0) 9)]) (i:=1) (fun hr=>yH hr) hk0_2 (by rw [← yQ];exact kk0_0) (L:=p0.Table) (by rw [hp0,← yQ];rfl) rfl
  obtain ⟨ev0_8,eb0_8⟩:=wT (f:=zB) (g:=zF) (bs:=[ptB v0,slN (getL (yA h v0) 0),slN (getL (yA h v0) 8),slN (getL (yA h v0) 9)]) (i:=2) (fun hr=>xD hr) hk0_10 (by rw [← yQ];exact kk0_8) (L:=p0.Blocked) (by rw [hp0,← yQ];rfl) rfl
  obtain ⟨ev0_9,eb0_9⟩:=wT (f:=yG) (g:=xQ) (bs:=[ptB v0,slN (getL (yA h v0) 0),slN (getL (yA h v0) 8),slN (getL (yA h v0) 9)]) (i:=3) (fun hr=>jJ hr) hk0_11 (by rw [← yQ];exact kk0_9) (L:=p0.Clear) (by rw [hp0,← yQ];rfl) rfl
  have hw1:=xY hk1_0
  obtain ⟨p1,hp_p1⟩:∃ p1,p1=zY (aL (roD (zH h [ptB v0,slN (getL (yA h v0) 0),slN (getL (yA h v0) 8),slN (getL (yA h v0) 9)]) v1)):=⟨_,rfl⟩
  rw [← hp_p1] at H hw1
  have hw2:=iK_wk hk2_0
  obtain ⟨p2,hp_p2⟩:∃ p2,p2=iA (roD (zH h [ptB v0,slN (getL (yA h v0) 0),slN (getL (yA h v0) 8),slN (getL (yA h v0) 9)]) v2):=⟨_,rfl⟩
  rw [← hp_p2] at H hw2
  have hw3:=iK_wk hk3_0
  obtain ⟨p3,hp_p3⟩:∃ p3,p3=iA (roD (zH h [ptB v0,slN (getL (yA h v0) 0),slN (getL (yA h v0) 8),slN (getL (yA h v0) 9)]) v3):=⟨_,rfl⟩
  rw [← hp_p3] at H hw3
  refine ⟨[.ptr 0 0 0 0,.agg [.int .u8 p1.Kind,.int .i64 p1.Channel,.int .i64 p1.To,.int .i64 p1.At],.int .i64 p2,.int .i64 p3],[.lit 30 [.sl 1 3 0 p0.Table.length false,.int .i64 p0.Channel,.bool p0.Lead,.int .i64 p0.Heard,.bool p0.Stopped,.bool p0.Moving,.int .i64 p0.To,.int .i64 p0.At,.sl 2 2 0 p0.Blocked.length false,.sl 3 1 0 p0.Clear.length false],.row 35 3 p0.Table.length (enR c_TRegulateChannel p0.Table),.row 97 2 p0.Blocked.length (enR zB p0.Blocked),.row 3 1 p0.Clear.length (enR yG p0.Clear)],rfl,⟨(cM (EV_pK hk0_0 rfl) (by simp only [noro])),⟨(yR hk1_1 hw1),⟨(yR hk2_1 hw2),⟨(yR hk3_1 hw3),trivial⟩⟩⟩⟩,⟨(EB_pK hk0_0 rfl rfl (fun y hy=>by
     match y,hy with
     | 0,_=>exact ev0_0
     | 1,_=>exact uQ hk0_3 (hw0 1 (by decide))
     | 2,_=>exact uQ hk0_4 (hw0 2 (by decide))
     | 3,_=>exact uQ hk0_5 (hw0 3 (by decide))
     | 4,_=>exact uQ hk0_6 (hw0 4 (by decide))
     | 5,_=>exact uQ hk0_7 (hw0 5 (by decide))
     | 6,_=>exact uQ hk0_8 (hw0 6 (by decide))
     | 7,_=>exact uQ hk0_9 (hw0 7 (by decide))
     | 8,_=>exact ev0_8
     | 9,_=>exact ev0_9
     | y+10,hy=>omega)),⟨eb0_0,⟨eb0_8,⟨eb0_9,trivial⟩⟩⟩⟩,⟨(by simp only [kP,yK,noro,and_self]),⟨zW,⟨zW,⟨zW,trivial⟩⟩⟩⟩,⟨trivial,⟨trivial,⟨trivial,⟨trivial,⟨(yY zI),⟨(yY zM),⟨(yY xL),⟨(yY yL),trivial⟩⟩⟩⟩⟩⟩⟩⟩,⟨(by simp only [kP,yK,noro,and_self]),⟨trivial,⟨trivial,⟨trivial,⟨zW,⟨zW,⟨zW,⟨zW,trivial⟩⟩⟩⟩⟩⟩⟩⟩,(by first|(simp only [noro,yK,and_self];done)|(simp only [noro,yK];and_intros<;>first|trivial|exact xX (by simp only [noro]) (by simp only [noro])|(simp only [noro,yK,and_self]))),?_⟩
  rw [Tryz.ntmps67]
  simp only [lC,lN,Nat.reduceAdd,Nat.reduceSub,rS,rZ,aC,aN]
  unfold F67_0 at H
  try dsimp only at H
  refine sq zA ?_
  simp only [go_sem,Nat.reduceAdd]
  refine zC ?_
  obtain ⟨r1,e2,H⟩:=bsi H
  refine rg ct67_0t0_ok ?_
  simp only [go_sem,Nat.reduceAdd,Nat.reduceBEq,ct67_0t0_23,qR,e2]
  repeat ((with_reducible refine aI ?_ ?_);exact an0)
  refine rg zA ?_
  simp only [go_sem]
  obtain rfl:=Option.some.inj H
  refine yE [] [some 0,some 1,some 2,some 3,some 5,some 6,some 7,some 8] ?_ ?_ ?_ ?_ (by rfl) (by rfl)
  ·simp only [go_sem]
   try exact at0
  ·simp only [go_sem]
   try exact at0
  ·simp only [go_sem]
   exact cT
  ·simp only [go_sem,CvH]
   first|exact ⟨(by simp [CvB,CvL,Cv,uD,geth,yB]),yI,yI,yI,zJ zI cl (fun _ _ _ _=>rfl),zJ zM cl (fun _ _ _ _=>rfl),zJ xL cl (fun _ _ _ _=>rfl),zJ yL cl (fun _ _ _ _=>rfl)⟩|trivial
 ·cases hb
def F68_0 (p0_2:Bool) (p0_3:Int) (p0_4:Bool) (p1:TRegulateWord) (p2:Int):Option (Bool) :=
 some ((((!p0_2) && (!p0_4)) && (bLe p0_3 p1.At)) && (bLe p1.At p2))
def eO:List AV->AR
 | [v0,v1,v2]=>.pure (rM 10 v0/\bK (rG v0 2)/\iK .i64 (rG v0 3)/\bK (rG v0 4)/\aK 4 yV v1/\iK .i64 v2/\(F68_0 (bA (rG v0 2)) (iA (rG v0 3)) (bA (rG v0 4)) (zY (aL v1)) (iA v2)).isSome=true) (.bool (gt (F68_0 (bA (rG v0 2)) (iA (rG v0 3)) (bA (rG v0 4)) (zY (aL v1)) (iA v2))))
 | _=>.fail
theorem ok68_0:FnOk Tryz.prog 68 (pureC eO):=by
 refine yM eO (rs:=[.tmp 6]) Tryz.func68 (by kernel_rfl) rfl rfl ?_
 intro l ob v hb hob
 unfold eO at hb
 split at hb
 ·rename_i v0 v1 v2
  injection hb with q1 q2;subst q1 q2
  obtain ⟨hk0_0,hk0_1,hk0_2,hk0_3,hk1_0,hk2_0,hob⟩:=hob
  obtain ⟨r,H⟩:=oE.1 hob
  rw [H,zN]
  have hw0:=(fN (cells:=[AV.top,AV.top,AV.bool (bA (rG v0 2)),AV.int .i64 (iA (rG v0 3)),AV.bool (bA (rG v0 4)),AV.top,AV.top,AV.top,AV.top,AV.top]) hk0_0 (fun y hy=>match y,hy with|0,_=>yD|1,_=>yD|2,_=>vT hk0_1|3,_=>iK_wk hk0_2|4,_=>vT hk0_3|5,_=>yD|6,_=>yD|7,_=>yD|8,_=>yD|9,_=>yD|y+10,hy=>absurd hy (by omega)))
  have hw1:=xY hk1_0
  have hw2:=iK_wk hk2_0
  generalize bA (rG v0 2)=p0_2 at H hw0
  generalize iA (rG v0 3)=p0_3 at H hw0
  generalize bA (rG v0 4)=p0_4 at H hw0
  generalize zY (aL v1)=p1 at H hw1
  generalize iA v2=p2 at H hw2
  refine ⟨[.rptr 10 1 0 0 (fun _ y=>getL [.top,.top,.bool p0_2,.int .i64 p0_3,.bool p0_4,.top,.top,.top,.top,.top] y),.agg [.int .u8 p1.Kind,.int .i64 p1.Channel,.int .i64 p1.To,.int .i64 p1.At],.int .i64 p2],_,(fun E vs F=>yC hw0.1 F (fun vs F=>yC hw1.1 F (fun vs F=>yC hw2.1 F (fun vs F=>F)))),rfl,rfl,?_⟩
  rw [Tryz.ntmps68]
  simp only [lC,lN,Nat.reduceAdd,Nat.reduceSub,rS,rZ,aC,aN]
  unfold F68_0 at H
  try dsimp only at H
  refine sq zA ?_
  simp only [go_sem]
  refine zC ?_
  refine xZ zU zA (by kernel_rfl) (by kernel_rfl) ?_
  simp only [go_sem,Nat.reduceLeDiff,Nat.reduceLT,Nat.reduceAdd]
  repeat ((with_reducible refine aI ?_ ?_);exact an4)
  refine rg zA ?_
  simp only [go_sem]
  obtain rfl:=Option.some.inj H
  exact fB
 ·cases hb
def F69_0 (p0:TRegulate) (p1:TRegulateWord) (p2:Int) (p3:Int):Option ((List TRegulateWord) × Int × TRegulate) :=
 some ([],0,(TRegulate.mk p0.Table p0.Channel p0.Lead p1.At p0.Stopped p0.Moving p0.To p0.At p0.Blocked p0.Clear))
def eP:List AV->List ABlk->ED
 | [v0,v1,v2,v3],h=>(fun z1=>(fun z0=>.ed [ptB v0,slN (getL (yA h v0) 0),slN (getL (yA h v0) 8),slN (getL (yA h v0) 9)] (pK 30 10 h v0/\xA (getL (kK h (yA h v0)))/\oS 35 3 h (getL (yA h v0) 0)/\nref (getL (yA h v0) 1)/\nref (getL (yA h v0) 2)/\nref (getL (yA h v0) 3)/\nref (getL (yA h v0) 4)/\nref (getL (yA h v0) 5)/\nref (getL (yA h v0) 6)/\nref (getL (yA h v0) 7)/\oS 97 2 h (getL (yA h v0) 8)/\oS 3 1 h (getL (yA h v0) 9)/\aK 4 yV (roD z1 v1)/\xJ z1 v1/\iK .i64 (roD z1 v2)/\xJ z1 v2/\iK .i64 (roD z1 v3)/\xJ z1 v3/\z0.isSome=true) (.tup [.sl 7 4 0 (((gt z0).1).length) false,.int .i64 ((gt z0).2.1)]) [.lit 30 [.sl 4 3 0 ((((gt z0).2.2).Table).length) false,.int .i64 (((gt z0).2.2).Channel),.bool (((gt z0).2.2).Lead),.int .i64 (((gt z0).2.2).Heard),.bool (((gt z0).2.2).Stopped),.bool (((gt z0).2.2).Moving),.int .i64 (((gt z0).2.2).To),.int .i64 (((gt z0).2.2).At),.sl 5 2 0 ((((gt z0).2.2).Blocked).length) false,.sl 6 1 0 ((((gt z0).2.2).Clear).length) false],.dead,.dead,.dead,.row 35 3 ((((gt z0).2.2).Table).length) (enR c_TRegulateChannel (((gt z0).2.2).Table)),.row 97 2 ((((gt z0).2.2).Blocked).length) (enR zB (((gt z0).2.2).Blocked)),.row 3 1 ((((gt z0).2.2).Clear).length) (enR yG (((gt z0).2.2).Clear)),.row 43 4 (((gt z0).1).length) (enR zR ((gt z0).1))]) (F69_0 (yJ (getL (kK h (yA h v0)))) (zY (aL (roD z1 v1))) (iA (roD z1 v2)) (iA (roD z1 v3)))) (zH h [ptB v0,slN (getL (yA h v0) 0),slN (getL (yA h v0) 8),slN (getL (yA h v0) 9)])
 | _,_=>.fail
theorem ok69_0:FnOk Tryz.prog 69 (edC eP):=by
 refine xO eP (rs:=[.tmp 8,.tmp 9]) Tryz.func69 (by kernel_rfl) rfl rfl ?_
 intro l h bs ob q0 g0 hb hob
 unfold eP at hb
 dsimp only at hb
 split at hb
 ·rename_i v0 v1 v2 v3
  injection hb with q1 q2 q3 q4;subst q1 q2 q3 q4
  obtain ⟨hk0_0,hk0_1,hk0_2,hk0_3,hk0_4,hk0_5,hk0_6,hk0_7,hk0_8,hk0_9,hk0_10,hk0_11,hk1_0,hk1_1,hk2_0,hk2_1,hk3_0,hk3_1,hob⟩:=hob
  obtain ⟨r,H⟩:=oE.1 hob
  rw [H,zN]
  obtain ⟨p0,hp0⟩:∃ p0,p0=yJ (getL (kK h (yA h v0))):=⟨_,rfl⟩
  rw [← hp0] at H
  have hw0:∀ y,y < 10->WkV (getL (zG p0) y) (roW h (getL (yA h v0) y))/\nref (getL (zG p0) y):=fun y hy=>by rw [hp0,← yQ];exact qO hk0_1 y hy
  have hk0_K:=hk0_1
  unfold xA at hk0_K
  obtain ⟨kk0_0,kk0_1,kk0_2,kk0_3,kk0_4,kk0_5,kk0_6,kk0_7,kk0_8,kk0_9⟩:=hk0_K
  obtain ⟨ev0_0,eb0_0⟩:=wT (f:=c_TRegulateChannel) (g:=g_TRegulateChannel) (bs:=[ptB v0,slN (getL (yA h v0) 0),slN (getL (yA h v0) 8),slN (getL (yA h v0) 9)]) (i:=1) (fun hr=>yH hr) hk0_2 (by rw [← yQ];exact kk0_0) (L:=p0.Table) (by rw [hp0,← yQ];rfl) rfl
  obtain ⟨ev0_8,eb0_8⟩:=wT (f:=zB) (g:=zF) (bs:=[ptB v0,slN (getL (yA h v0) 0),slN (getL (yA h v0) 8),slN (getL (yA h v0) 9)]) (i:=2) (fun hr=>xD hr) hk0_10 (by rw [← yQ];exact kk0_8) (L:=p0.Blocked) (by rw [hp0,← yQ];rfl) rfl
  obtain ⟨ev0_9,eb0_9⟩:=wT (f:=yG) (g:=xQ) (bs:=[ptB v0,slN (getL (yA h v0) 0),slN (getL (yA h v0) 8),slN (getL (yA h v0) 9)]) (i:=3) (fun hr=>jJ hr) hk0_11 (by rw [← yQ];exact kk0_9) (L:=p0.Clear) (by rw [hp0,← yQ];rfl) rfl
  have hw1:=xY hk1_0
  obtain ⟨p1,hp_p1⟩:∃ p1,p1=zY (aL (roD (zH h [ptB v0,slN (getL (yA h v0) 0),slN (getL (yA h v0) 8),slN (getL (yA h v0) 9)]) v1)):=⟨_,rfl⟩
  rw [← hp_p1] at H hw1
  have hw2:=iK_wk hk2_0
  obtain ⟨p2,hp_p2⟩:∃ p2,p2=iA (roD (zH h [ptB v0,slN (getL (yA h v0) 0),slN (getL (yA h v0) 8),slN (getL (yA h v0) 9)]) v2):=⟨_,rfl⟩
  rw [← hp_p2] at H hw2
  have hw3:=iK_wk hk3_0
  obtain ⟨p3,hp_p3⟩:∃ p3,p3=iA (roD (zH h [ptB v0,slN (getL (yA h v0) 0),slN (getL (yA h v0) 8),slN (getL (yA h v0) 9)]) v3):=⟨_,rfl⟩
  rw [← hp_p3] at H hw3
  refine ⟨[.ptr 0 0 0 0,.agg [.int .u8 p1.Kind,.int .i64 p1.Channel,.int .i64 p1.To,.int .i64 p1.At],.int .i64 p2,.int .i64 p3],[.lit 30 [.sl 1 3 0 p0.Table.length false,.int .i64 p0.Channel,.bool p0.Lead,.int .i64 p0.Heard,.bool p0.Stopped,.bool p0.Moving,.int .i64 p0.To,.int .i64 p0.At,.sl 2 2 0 p0.Blocked.length false,.sl 3 1 0 p0.Clear.length false],.row 35 3 p0.Table.length (enR c_TRegulateChannel p0.Table),.row 97 2 p0.Blocked.length (enR zB p0.Blocked),.row 3 1 p0.Clear.length (enR yG p0.Clear)],rfl,⟨(cM (EV_pK hk0_0 rfl) (by simp only [noro])),⟨(yR hk1_1 hw1),⟨(yR hk2_1 hw2),⟨(yR hk3_1 hw3),trivial⟩⟩⟩⟩,⟨(EB_pK hk0_0 rfl rfl (fun y hy=>by
     match y,hy with
     | 0,_=>exact ev0_0
     | 1,_=>exact uQ hk0_3 (hw0 1 (by decide))
     | 2,_=>exact uQ hk0_4 (hw0 2 (by decide))
     | 3,_=>exact uQ hk0_5 (hw0 3 (by decide))
     | 4,_=>exact uQ hk0_6 (hw0 4 (by decide))
     | 5,_=>exact uQ hk0_7 (hw0 5 (by decide))
     | 6,_=>exact uQ hk0_8 (hw0 6 (by decide))
     | 7,_=>exact uQ hk0_9 (hw0 7 (by decide))
     | 8,_=>exact ev0_8
     | 9,_=>exact ev0_9
     | y+10,hy=>omega)),⟨eb0_0,⟨eb0_8,⟨eb0_9,trivial⟩⟩⟩⟩,⟨(by simp only [kP,yK,noro,and_self]),⟨zW,⟨zW,⟨zW,trivial⟩⟩⟩⟩,⟨trivial,⟨trivial,⟨trivial,⟨trivial,⟨(yY zI),⟨(yY zM),⟨(yY xL),⟨(yY yL),trivial⟩⟩⟩⟩⟩⟩⟩⟩,⟨(by simp only [kP,yK,noro,and_self]),⟨trivial,⟨trivial,⟨trivial,⟨zW,⟨zW,⟨zW,⟨zW,trivial⟩⟩⟩⟩⟩⟩⟩⟩,(by first|(simp only [noro,yK,and_self];done)|(simp only [noro,yK];and_intros<;>first|trivial|exact xX (by simp only [noro]) (by simp only [noro])|(simp only [noro,yK,and_self]))),?_⟩
  rw [Tryz.ntmps69]
  simp only [lC,lN,Nat.reduceAdd,Nat.reduceSub,rS,rZ,aC,aN]
  unfold F69_0 at H
  try dsimp only at H
  refine sq zA ?_
  simp only [go_sem,Nat.reduceAdd]
  refine sq zA ?_
  simp only [go_sem,Nat.reduceLeDiff,Nat.reduceLT,Nat.reduceAdd]
  repeat ((with_reducible refine aI ?_ ?_);exact an4)
  refine sq zA ?_
  simp only [go_sem]
  refine rg zA ?_
  simp only [go_sem]
  obtain rfl:=Option.some.inj H
  refine yE [] [some 0,some 1,some 2,some 3,some 1,some 2,some 3,none] ?_ ?_ ?_ ?_ (by rfl) (by rfl)
  ·simp only [go_sem]
   try exact at0
  ·simp only [go_sem]
   try exact at0
  ·simp only [go_sem]
   exact cT
  ·simp only [go_sem,CvH]
   first|exact ⟨(by simp [CvB,CvL,Cv,uD,geth,yB]),yI,yI,yI,zJ zI cl (fun _ _ _ _=>rfl),zJ zM cl (fun _ _ _ _=>rfl),zJ xL cl (fun _ _ _ _=>rfl),zQ⟩|trivial
 ·cases hb
def ct13t0:Ct:=tab [(22,edC qE)]
theorem ct13t0_ok:yP Tryz.prog ct13t0:=zE ok22 <| zO
theorem ct13t0_22 (l:List AV) (h:List ABlk):ct13t0 22 l h=edC qE l h:=rfl
def ct13t1:Ct:=tab [(29,pureC kR)]
theorem ct13t1_ok:yP Tryz.prog ct13t1:=zE ok29 <| zO
theorem ct13t1_29 (l:List AV) (h:List ABlk):ct13t1 29 l h=pureC kR l h:=rfl
def ct13t2:Ct:=tab [(30,mapC M30)]
theorem gC:yP Tryz.prog ct13t2:=zE ok30 <| zO
theorem gB (l:List AV) (h:List ABlk):ct13t2 30 l h=mapC M30 l h:=rfl
def ct13t3:Ct:=tab [(64,pureC eK)]
theorem ct13t3_ok:yP Tryz.prog ct13t3:=zE ok64_0 <| zO
theorem ct13t3_64 (l:List AV) (h:List ABlk):ct13t3 64 l h=pureC eK l h:=rfl
def ct13t4:Ct:=tab [(65,edC eL)]
theorem ct13t4_ok:yP Tryz.prog ct13t4:=zE ok65_0 <| zO
theorem ct13t4_65 (l:List AV) (h:List ABlk):ct13t4 65 l h=edC eL l h:=rfl
def ct13t5:Ct:=tab [(66,pureC eM)]
theorem ct13t5_ok:yP Tryz.prog ct13t5:=zE ok66_0 <| zO
theorem ct13t5_66 (l:List AV) (h:List ABlk):ct13t5 66 l h=pureC eM l h:=rfl
def ct13t6:Ct:=tab [(67,edC eN)]
theorem ct13t6_ok:yP Tryz.prog ct13t6:=zE ok67_0 <| zO
theorem ct13t6_67 (l:List AV) (h:List ABlk):ct13t6 67 l h=edC eN l h:=rfl
def ct13t7:Ct:=tab [(68,pureC eO)]
theorem ct13t7_ok:yP Tryz.prog ct13t7:=zE ok68_0 <| zO
theorem ct13t7_68 (l:List AV) (h:List ABlk):ct13t7 68 l h=pureC eO l h:=rfl
def ct13t8:Ct:=tab [(69,edC eP)]
theorem ct13t8_ok:yP Tryz.prog ct13t8:=zE ok69_0 <| zO
theorem ct13t8_69 (l:List AV) (h:List ABlk):ct13t8 69 l h=edC eP l h:=rfl
def F13 (p0:TRegulate) (p1:TRegulateWord) (p2:Int) (p3:Int):Option (TRegulate × (List TRegulateWord) × Int) :=
 (F22 p0 p3 p2).bind fun r1=>bif r1.1.isSome then (bif (!bEq r1.2 0) then (some ((TRegulate.mk [] 0 false 0 false false 0 0 [] []),[],r1.2)) else ((F29 p1).bind fun r5=>bif (!r5) then (some ((TRegulate.mk [] 0 false 0 false false 0 0 [] []),[],8)) else (bif bEq p1.Kind 1 then (need (bif (bEq p1.Channel ((gt r1.1).Channel)) then ((F64_0 ((gt r1.1).Lead) p1 p3).isSome) else true) <| bif ((!bEq p1.Channel ((gt r1.1).Channel)) || (!(gt (F64_0 ((gt r1.1).Lead) p1 p3)))) then (some ((TRegulate.mk [] 0 false 0 false false 0 0 [] []),[],21)) else ((F65_0 (TRegulate.mk ((gt r1.1).Table) ((gt r1.1).Channel) ((gt r1.1).Lead) ((gt r1.1).Heard) ((gt r1.1).Stopped) ((gt r1.1).Moving) ((gt r1.1).To) ((gt r1.1).At) ((gt r1.1).Blocked) ((gt r1.1).Clear)) p1 p2 p3).bind fun r11=>bif (!bEq r11.2.1 0) then (some ((TRegulate.mk [] 0 false 0 false false 0 0 [] []),[],r11.2.1)) else (some ((TRegulate.mk r11.2.2.Table r11.2.2.Channel r11.2.2.Lead r11.2.2.Heard r11.2.2.Stopped r11.2.2.Moving r11.2.2.To r11.2.2.At r11.2.2.Blocked r11.2.2.Clear),r11.1,0)))) else (bif bEq p1.Kind 2 then (need (bif (bEq p1.Channel ((gt r1.1).Channel)) then ((F66_0 ((gt r1.1).Lead) ((gt r1.1).Stopped) p1 p3).isSome) else true) <| bif ((!bEq p1.Channel ((gt r1.1).Channel)) || (!(gt (F66_0 ((gt r1.1).Lead) ((gt r1.1).Stopped) p1 p3)))) then (some ((TRegulate.mk [] 0 false 0 false false 0 0 [] []),[],21)) else ((F67_0 (TRegulate.mk ((gt r1.1).Table) ((gt r1.1).Channel) ((gt r1.1).Lead) ((gt r1.1).Heard) ((gt r1.1).Stopped) ((gt r1.1).Moving) ((gt r1.1).To) ((gt r1.1).At) ((gt r1.1).Blocked) ((gt r1.1).Clear)) p1 p2 p3).bind fun r17=>bif (!bEq r17.2.1 0) then (some ((TRegulate.mk [] 0 false 0 false false 0 0 [] []),[],r17.2.1)) else (some ((TRegulate.mk r17.2.2.Table r17.2.2.Channel r17.2.2.Lead r17.2.2.Heard r17.2.2.Stopped r17.2.2.Moving r17.2.2.To r17.2.2.At r17.2.2.Blocked r17.2.2.Clear),r17.1,0)))) else (bif bEq p1.Kind 3 then (need (bif (bEq p1.Channel ((gt r1.1).Channel)) then ((F68_0 ((gt r1.1).Lead) ((gt r1.1).Heard) ((gt r1.1).Stopped) p1 p3).isSome) else true) <| bif ((!bEq p1.Channel ((gt r1.1).Channel)) || (!(gt (F68_0 ((gt r1.1).Lead) ((gt r1.1).Heard) ((gt r1.1).Stopped) p1 p3)))) then (some ((TRegulate.mk [] 0 false 0 false false 0 0 [] []),[],21)) else ((F69_0 (TRegulate.mk ((gt r1.1).Table) ((gt r1.1).Channel) ((gt r1.1).Lead) ((gt r1.1).Heard) ((gt r1.1).Stopped) ((gt r1.1).Moving) ((gt r1.1).To) ((gt r1.1).At) ((gt r1.1).Blocked) ((gt r1.1).Clear)) p1 p2 p3).bind fun r23=>bif (!bEq r23.2.1 0) then (some ((TRegulate.mk [] 0 false 0 false false 0 0 [] []),[],r23.2.1)) else (some ((TRegulate.mk r23.2.2.Table r23.2.2.Channel r23.2.2.Lead r23.2.2.Heard r23.2.2.Stopped r23.2.2.Moving r23.2.2.To r23.2.2.At r23.2.2.Blocked r23.2.2.Clear),r23.1,0)))) else (none)))))) else (bif (!bEq r1.2 0) then (some ((TRegulate.mk [] 0 false 0 false false 0 0 [] []),[],r1.2)) else ((F29 p1).bind fun r27=>bif (!r27) then (some ((TRegulate.mk [] 0 false 0 false false 0 0 [] []),[],8)) else (bif bEq p1.Kind 1 then (none) else (bif bEq p1.Kind 2 then (none) else (bif bEq p1.Kind 3 then (none) else (none))))))
def dM:List AV->List ABlk->ED
 | [v0,v1,v2,v3],h=>(fun z0=>.ed [] (aK 10 xA (roD (zH h []) v0)/\xJ (zH h []) v0/\aK 4 yV (roD (zH h []) v1)/\xJ (zH h []) v1/\iK .i64 (roD (zH h []) v2)/\xJ (zH h []) v2/\iK .i64 (roD (zH h []) v3)/\xJ (zH h []) v3/\z0.isSome=true) (.tup [.agg [.sl 0 3 0 ((((gt z0).1).Table).length) false,.int .i64 (((gt z0).1).Channel),.bool (((gt z0).1).Lead),.int .i64 (((gt z0).1).Heard),.bool (((gt z0).1).Stopped),.bool (((gt z0).1).Moving),.int .i64 (((gt z0).1).To),.int .i64 (((gt z0).1).At),.sl 1 2 0 ((((gt z0).1).Blocked).length) false,.sl 2 1 0 ((((gt z0).1).Clear).length) false],.sl 3 4 0 (((gt z0).2.1).length) false,.int .i64 ((gt z0).2.2)]) [.row 35 3 ((((gt z0).1).Table).length) (enR c_TRegulateChannel (((gt z0).1).Table)),.row 97 2 ((((gt z0).1).Blocked).length) (enR zB (((gt z0).1).Blocked)),.row 3 1 ((((gt z0).1).Clear).length) (enR yG (((gt z0).1).Clear)),.row 43 4 (((gt z0).2.1).length) (enR zR ((gt z0).2.1))]) (F13 (yJ (aL (roD (zH h []) v0))) (zY (aL (roD (zH h []) v1))) (iA (roD (zH h []) v2)) (iA (roD (zH h []) v3)))
 | _,_=>.fail
theorem ok13:FnOk Tryz.prog 13 (edC dM):=by
 refine xO dM (rs:=[.cell 8 30,.tmp 9,.tmp 10]) Tryz.func13 (by kernel_rfl) rfl rfl ?_
 intro l h bs ob q0 g0 hb hob
 unfold dM at hb
 dsimp only at hb
 split at hb
 ·rename_i v0 v1 v2 v3
  injection hb with q1 q2 q3 q4;subst q1 q2 q3 q4
  obtain ⟨hk0_0,hk0_1,hk1_0,hk1_1,hk2_0,hk2_1,hk3_0,hk3_1,hob⟩:=hob
  obtain ⟨r,H⟩:=oE.1 hob
  rw [H,zN]
  have hw0:=tT hk0_0
  obtain ⟨p0,hp_p0⟩:∃ p0,p0=yJ (aL (roD (zH h []) v0)):=⟨_,rfl⟩
  rw [← hp_p0] at H hw0
  have hw1:=xY hk1_0
  obtain ⟨p1,hp_p1⟩:∃ p1,p1=zY (aL (roD (zH h []) v1)):=⟨_,rfl⟩
  rw [← hp_p1] at H hw1
  have hw2:=iK_wk hk2_0
  obtain ⟨p2,hp_p2⟩:∃ p2,p2=iA (roD (zH h []) v2):=⟨_,rfl⟩
  rw [← hp_p2] at H hw2
  have hw3:=iK_wk hk3_0
  obtain ⟨p3,hp_p3⟩:∃ p3,p3=iA (roD (zH h []) v3):=⟨_,rfl⟩
  rw [← hp_p3] at H hw3
  refine ⟨[.agg [.ro 3 p0.Table.length false (enR c_TRegulateChannel p0.Table),.int .i64 p0.Channel,.bool p0.Lead,.int .i64 p0.Heard,.bool p0.Stopped,.bool p0.Moving,.int .i64 p0.To,.int .i64 p0.At,.ro 2 p0.Blocked.length false (enR zB p0.Blocked),.ro 1 p0.Clear.length false (enR yG p0.Clear)],.agg [.int .u8 p1.Kind,.int .i64 p1.Channel,.int .i64 p1.To,.int .i64 p1.At],.int .i64 p2,.int .i64 p3],[],rfl,⟨(yR hk0_1 hw0),⟨(yR hk1_1 hw1),⟨(yR hk2_1 hw2),⟨(yR hk3_1 hw3),trivial⟩⟩⟩⟩,trivial,trivial,⟨(yY zI),⟨(yY zM),⟨(yY xL),⟨(yY yL),trivial⟩⟩⟩⟩,⟨zW,⟨zW,⟨zW,⟨zW,trivial⟩⟩⟩⟩,(by first|(simp only [noro,yK,and_self];done)|(simp only [noro,yK];and_intros<;>first|trivial|exact xX (by simp only [noro]) (by simp only [noro])|(simp only [noro,yK,and_self]))),?_⟩
  rw [Tryz.ntmps13]
  simp only [lC,lN,Nat.reduceAdd,Nat.reduceSub,rS,rZ,aC,aN]
  unfold F13 at H
  try dsimp only at H
  refine sq zA ?_
  simp only [go_sem,Nat.reduceAdd]
  refine zC ?_
  obtain ⟨r1,e2,H⟩:=bsi H
  refine rg ct13t0_ok ?_
  simp only [go_sem,Nat.reduceLT,Nat.reduceAdd,ct13t0_22,qE,e2]
  repeat ((with_reducible refine aI ?_ ?_);exact an0)
  refine wG (c:=r1.1.isSome) (fun hq3=>?_) (fun hq3=>?_)
  ·replace H:=zL hq3 H
   simp only [go_sem,Nat.reduceAdd,hq3,cond_true,rnm,dH,rnmC_en,fC]
   refine zC ?_
   refine sq zA ?_
   simp only [go_sem]
   refine zX rfl trivial (fun hc=>?_) (fun hc=>?_)
   ·have hk4:(bEq r1.2 0)=false:=by simpa using hc
    replace H:=zL hc H
    refine sq zA ?_
    simp only [go_sem,Nat.reduceLT,Nat.reduceAdd]
    repeat ((with_reducible refine aI ?_ ?_);exact an4)
    refine rg zA ?_
    simp only [go_sem,Nat.reduceLT,Nat.reduceAdd]
    obtain rfl:=Option.some.inj H
    refine yE [] [none,none,none,none] ?_ ?_ ?_ ?_ (by rfl) (by rfl)
    ·simp only [go_sem]
     try exact at0
    ·simp only [go_sem]
     try exact at0
    ·simp only [go_sem]
     exact cT
    ·simp only [go_sem,CvH]
     first|exact ⟨zQ,zQ,zQ,zQ⟩|trivial
   have hk4:(bEq r1.2 0)=true:=by simpa using hc
   replace H:=zK hc H
   refine rg zA ?_
   simp only [go_sem]
   refine zC ?_
   refine zC ?_
   obtain ⟨r5,e6,H⟩:=bsi H
   refine rg ct13t1_ok ?_
   simp only [go_sem,Nat.reduceLT,Nat.reduceAdd,ct13t1_29,kR,e6]
   repeat ((with_reducible refine aI ?_ ?_);exact an0)
   refine zX rfl trivial (fun hc=>?_) (fun hc=>?_)
   ·have hk7:(r5)=false:=by simpa using hc
    replace H:=zL hc H
    refine sq zA ?_
    simp only [go_sem,Nat.reduceLT,Nat.reduceAdd]
    repeat ((with_reducible refine aI ?_ ?_);exact an4)
    refine rg zA ?_
    simp only [go_sem,Nat.reduceLT,Nat.reduceAdd]
    obtain rfl:=Option.some.inj H
    refine yE [] [none,none,none,none] ?_ ?_ ?_ ?_ (by rfl) (by rfl)
    ·simp only [go_sem]
     try exact at0
    ·simp only [go_sem]
     try exact at0
    ·simp only [go_sem]
     exact cT
    ·simp only [go_sem,CvH]
     first|exact ⟨zQ,zQ,zQ,zQ⟩|trivial
   have hk7:(r5)=true:=by simpa using hc
   replace H:=zK hc H
   refine rg zA ?_
   simp only [go_sem]
   refine zC ?_
   refine wG (c:=bEq p1.Kind 1) (fun hg8=>?_) (fun hg8=>?_)
   ·replace H:=zL hg8 H
    refine xC zU gC 1 (by kernel_rfl) (by kernel_rfl) ?_
    intro an han
    simp only [vH,wI,tC,xrD,xoD,uY,vL,List.append_nil,xF,refs,vN,mask,wN,place,xU,wO,xV,hit,inL,xH,ren,rnN,nrH,nrB,nrL,nr,rZ,rS,Nat.sub_self,Nat.add_zero,Nat.zero_add,Nat.reduceSub,Nat.lt_add_one,go_sem,Nat.reduceLeDiff,Nat.reduceLT,Nat.reduceAdd,Nat.reduceSub,Nat.reduceBEq,gB,lk30,has30,hg8]
    repeat ((with_reducible refine aI ?_ ?_);exact an5)
    refine zC ?_
    refine zC ?_
    obtain ⟨f9,H⟩:=zP.1 H
    replace f9:=xR.1 f9
    refine xZ zU ct13t3_ok (by kernel_rfl) (by kernel_rfl) ?_
    simp only [go_sem,Nat.reduceLeDiff,Nat.reduceLT,Nat.reduceAdd,ct13t3_64,eK]
    repeat ((with_reducible refine And.intro ?_ ?_);focus exact bn2 f9)
    refine zX rfl trivial (fun hc=>?_) (fun hc=>?_)
    ·have hk10:((!bEq p1.Channel ((gt r1.1).Channel)) || (!(gt (F64_0 ((gt r1.1).Lead) p1 p3))))=true:=by simpa using hc
     replace H:=zL hc H
     refine sq zA ?_
     simp only [go_sem,Nat.reduceLT,Nat.reduceAdd]
     repeat ((with_reducible refine aI ?_ ?_);exact an4)
     refine rg zA ?_
     simp only [go_sem,Nat.reduceLT,Nat.reduceAdd]
     obtain rfl:=Option.some.inj H
     refine yE [] [none,none,none,none] ?_ ?_ ?_ ?_ (by rfl) (by rfl)
     ·simp only [go_sem]
      try exact at0
     ·simp only [go_sem]
      try exact at0
     ·simp only [go_sem]
      exact cT
     ·simp only [go_sem,CvH]
      first|exact ⟨zQ,zQ,zQ,zQ⟩|trivial
    have hk10:((!bEq p1.Channel ((gt r1.1).Channel)) || (!(gt (F64_0 ((gt r1.1).Lead) p1 p3))))=false:=by simpa using hc
    replace H:=zK hc H
    refine rg zA ?_
    simp only [go_sem]
    refine zC ?_
    refine zC ?_
    obtain ⟨r11,e12,H⟩:=bsi H
    refine rg ct13t4_ok ?_
    simp only [go_sem,Nat.reduceLT,Nat.reduceAdd,Nat.reduceBEq,ct13t4_65,eL,e12]
    repeat ((with_reducible refine aI ?_ ?_);exact an0)
    refine sq zA ?_
    simp only [go_sem]
    refine zX rfl trivial (fun hc=>?_) (fun hc=>?_)
    ·have hk13:(bEq r11.2.1 0)=false:=by simpa using hc
     replace H:=zL hc H
     refine sq zA ?_
     simp only [go_sem,Nat.reduceLT,Nat.reduceAdd]
     repeat ((with_reducible refine aI ?_ ?_);exact an4)
     refine rg zA ?_
     simp only [go_sem,Nat.reduceLT,Nat.reduceAdd]
     obtain rfl:=Option.some.inj H
     refine yE [] [none,none,none,none] ?_ ?_ ?_ ?_ (by rfl) (by rfl)
     ·simp only [go_sem]
      try exact at0
     ·simp only [go_sem]
      try exact at0
     ·simp only [go_sem]
      exact cT
     ·simp only [go_sem,CvH]
      first|exact ⟨zQ,zQ,zQ,zQ⟩|trivial
    have hk13:(bEq r11.2.1 0)=true:=by simpa using hc
    replace H:=zK hc H
    refine rg zA ?_
    simp only [go_sem]
    refine sq zA ?_
    simp only [go_sem,Nat.reduceLT,Nat.reduceAdd]
    repeat ((with_reducible refine aI ?_ ?_);exact an4)
    refine rg zA ?_
    simp only [go_sem,Nat.reduceLT,Nat.reduceAdd]
    obtain rfl:=Option.some.inj H
    refine yE [] [some 8,some 9,some 10,some 11] ?_ ?_ ?_ ?_ (by rfl) (by rfl)
    ·simp only [go_sem]
     try exact at0
    ·simp only [go_sem]
     try exact at0
    ·simp only [go_sem]
     exact cT
    ·simp only [go_sem,CvH]
     first|exact ⟨zJ zI cl (fun _ _ _ _=>rfl),zJ zM cl (fun _ _ _ _=>rfl),zJ xL cl (fun _ _ _ _=>rfl),zJ yL cl (fun _ _ _ _=>rfl)⟩|trivial
   replace H:=zK hg8 H
   refine wG (c:=bEq p1.Kind 2) (fun hg14=>?_) (fun hg14=>?_)
   ·replace H:=zL hg14 H
    refine xC zU gC 1 (by kernel_rfl) (by kernel_rfl) ?_
    intro an han
    simp only [vH,wI,tC,xrD,xoD,uY,vL,List.append_nil,xF,refs,vN,mask,wN,place,xU,wO,xV,hit,inL,xH,ren,rnN,nrH,nrB,nrL,nr,rZ,rS,Nat.sub_self,Nat.add_zero,Nat.zero_add,Nat.reduceSub,Nat.lt_add_one,go_sem,Nat.reduceLeDiff,Nat.reduceLT,Nat.reduceAdd,Nat.reduceSub,Nat.reduceBEq,gB,lk30,has30,hg8,hg14]
    repeat ((with_reducible refine aI ?_ ?_);exact an5)
    refine zC ?_
    refine zC ?_
    obtain ⟨f15,H⟩:=zP.1 H
    replace f15:=xR.1 f15
    refine xZ zU ct13t5_ok (by kernel_rfl) (by kernel_rfl) ?_
    simp only [go_sem,Nat.reduceLeDiff,Nat.reduceLT,Nat.reduceAdd,ct13t5_66,eM]
    repeat ((with_reducible refine And.intro ?_ ?_);focus exact bn2 f15)
    refine zX rfl trivial (fun hc=>?_) (fun hc=>?_)
    ·have hk16:((!bEq p1.Channel ((gt r1.1).Channel)) || (!(gt (F66_0 ((gt r1.1).Lead) ((gt r1.1).Stopped) p1 p3))))=true:=by simpa using hc
     replace H:=zL hc H
     refine sq zA ?_
     simp only [go_sem,Nat.reduceLT,Nat.reduceAdd]
     repeat ((with_reducible refine aI ?_ ?_);exact an4)
     refine rg zA ?_
     simp only [go_sem,Nat.reduceLT,Nat.reduceAdd]
     obtain rfl:=Option.some.inj H
     refine yE [] [none,none,none,none] ?_ ?_ ?_ ?_ (by rfl) (by rfl)
     ·simp only [go_sem]
      try exact at0
     ·simp only [go_sem]
      try exact at0
     ·simp only [go_sem]
      exact cT
     ·simp only [go_sem,CvH]
      first|exact ⟨zQ,zQ,zQ,zQ⟩|trivial
    have hk16:((!bEq p1.Channel ((gt r1.1).Channel)) || (!(gt (F66_0 ((gt r1.1).Lead) ((gt r1.1).Stopped) p1 p3))))=false:=by simpa using hc
    replace H:=zK hc H
    refine rg zA ?_
    simp only [go_sem]
    refine zC ?_
    refine zC ?_
    obtain ⟨r17,e18,H⟩:=bsi H
    refine rg ct13t6_ok ?_
    simp only [go_sem,Nat.reduceLT,Nat.reduceAdd,Nat.reduceBEq,ct13t6_67,eN,e18]
    repeat ((with_reducible refine aI ?_ ?_);exact an0)
    refine sq zA ?_
    simp only [go_sem]
    refine zX rfl trivial (fun hc=>?_) (fun hc=>?_)
    ·have hk19:(bEq r17.2.1 0)=false:=by simpa using hc
     replace H:=zL hc H
     refine sq zA ?_
     simp only [go_sem,Nat.reduceLT,Nat.reduceAdd]
     repeat ((with_reducible refine aI ?_ ?_);exact an4)
     refine rg zA ?_
     simp only [go_sem,Nat.reduceLT,Nat.reduceAdd]
     obtain rfl:=Option.some.inj H
     refine yE [] [none,none,none,none] ?_ ?_ ?_ ?_ (by rfl) (by rfl)
     ·simp only [go_sem]
      try exact at0
     ·simp only [go_sem]
      try exact at0
     ·simp only [go_sem]
      exact cT
     ·simp only [go_sem,CvH]
      first|exact ⟨zQ,zQ,zQ,zQ⟩|trivial
    have hk19:(bEq r17.2.1 0)=true:=by simpa using hc
    replace H:=zK hc H
    refine rg zA ?_
    simp only [go_sem]
    refine sq zA ?_
    simp only [go_sem,Nat.reduceLT,Nat.reduceAdd]
    repeat ((with_reducible refine aI ?_ ?_);exact an4)
    refine rg zA ?_
    simp only [go_sem,Nat.reduceLT,Nat.reduceAdd]
    obtain rfl:=Option.some.inj H
    refine yE [] [some 8,some 9,some 10,some 11] ?_ ?_ ?_ ?_ (by rfl) (by rfl)
    ·simp only [go_sem]
     try exact at0
    ·simp only [go_sem]
     try exact at0
    ·simp only [go_sem]
     exact cT
    ·simp only [go_sem,CvH]
     first|exact ⟨zJ zI cl (fun _ _ _ _=>rfl),zJ zM cl (fun _ _ _ _=>rfl),zJ xL cl (fun _ _ _ _=>rfl),zJ yL cl (fun _ _ _ _=>rfl)⟩|trivial
   replace H:=zK hg14 H
   refine wG (c:=bEq p1.Kind 3) (fun hg20=>?_) (fun hg20=>?_)
   ·replace H:=zL hg20 H
    refine xC zU gC 1 (by kernel_rfl) (by kernel_rfl) ?_
    intro an han
    simp only [vH,wI,tC,xrD,xoD,uY,vL,List.append_nil,xF,refs,vN,mask,wN,place,xU,wO,xV,hit,inL,xH,ren,rnN,nrH,nrB,nrL,nr,rZ,rS,Nat.sub_self,Nat.add_zero,Nat.zero_add,Nat.reduceSub,Nat.lt_add_one,go_sem,Nat.reduceLeDiff,Nat.reduceLT,Nat.reduceAdd,Nat.reduceSub,Nat.reduceBEq,gB,lk30,has30,hg8,hg14,hg20]
    repeat ((with_reducible refine aI ?_ ?_);exact an5)
    refine zC ?_
    refine zC ?_
    obtain ⟨f21,H⟩:=zP.1 H
    replace f21:=xR.1 f21
    refine xZ zU ct13t7_ok (by kernel_rfl) (by kernel_rfl) ?_
    simp only [go_sem,Nat.reduceLeDiff,Nat.reduceLT,Nat.reduceAdd,ct13t7_68,eO]
    repeat ((with_reducible refine And.intro ?_ ?_);focus exact bn2 f21)
    refine zX rfl trivial (fun hc=>?_) (fun hc=>?_)
    ·have hk22:((!bEq p1.Channel ((gt r1.1).Channel)) || (!(gt (F68_0 ((gt r1.1).Lead) ((gt r1.1).Heard) ((gt r1.1).Stopped) p1 p3))))=true:=by simpa using hc
     replace H:=zL hc H
     refine sq zA ?_
     simp only [go_sem,Nat.reduceLT,Nat.reduceAdd]
     repeat ((with_reducible refine aI ?_ ?_);exact an4)
     refine rg zA ?_
     simp only [go_sem,Nat.reduceLT,Nat.reduceAdd]
     obtain rfl:=Option.some.inj H
     refine yE [] [none,none,none,none] ?_ ?_ ?_ ?_ (by rfl) (by rfl)
     ·simp only [go_sem]
      try exact at0
     ·simp only [go_sem]
      try exact at0
     ·simp only [go_sem]
      exact cT
     ·simp only [go_sem,CvH]
      first|exact ⟨zQ,zQ,zQ,zQ⟩|trivial
    have hk22:((!bEq p1.Channel ((gt r1.1).Channel)) || (!(gt (F68_0 ((gt r1.1).Lead) ((gt r1.1).Heard) ((gt r1.1).Stopped) p1 p3))))=false:=by simpa using hc
    replace H:=zK hc H
    refine rg zA ?_
    simp only [go_sem]
    refine zC ?_
    refine zC ?_
    obtain ⟨r23,e24,H⟩:=bsi H
    refine rg ct13t8_ok ?_
    simp only [go_sem,Nat.reduceLT,Nat.reduceAdd,Nat.reduceBEq,ct13t8_69,eP,e24]
    repeat ((with_reducible refine aI ?_ ?_);exact an0)
    refine sq zA ?_
    simp only [go_sem]
    refine zX rfl trivial (fun hc=>?_) (fun hc=>?_)
    ·have hk25:(bEq r23.2.1 0)=false:=by simpa using hc
     replace H:=zL hc H
     refine sq zA ?_
     simp only [go_sem,Nat.reduceLT,Nat.reduceAdd]
     repeat ((with_reducible refine aI ?_ ?_);exact an4)
     refine rg zA ?_
     simp only [go_sem,Nat.reduceLT,Nat.reduceAdd]
     obtain rfl:=Option.some.inj H
     refine yE [] [none,none,none,none] ?_ ?_ ?_ ?_ (by rfl) (by rfl)
     ·simp only [go_sem]
      try exact at0
     ·simp only [go_sem]
      try exact at0
     ·simp only [go_sem]
      exact cT
     ·simp only [go_sem,CvH]
      first|exact ⟨zQ,zQ,zQ,zQ⟩|trivial
    have hk25:(bEq r23.2.1 0)=true:=by simpa using hc
    replace H:=zK hc H
    refine rg zA ?_
    simp only [go_sem]
    refine sq zA ?_
    simp only [go_sem,Nat.reduceLT,Nat.reduceAdd]
    repeat ((with_reducible refine aI ?_ ?_);exact an4)
    refine rg zA ?_
    simp only [go_sem,Nat.reduceLT,Nat.reduceAdd]
    obtain rfl:=Option.some.inj H
    refine yE [] [some 8,some 9,some 10,some 11] ?_ ?_ ?_ ?_ (by rfl) (by rfl)
    ·simp only [go_sem]
     try exact at0
    ·simp only [go_sem]
     try exact at0
    ·simp only [go_sem]
     exact cT
    ·simp only [go_sem,CvH]
     first|exact ⟨zJ zI cl (fun _ _ _ _=>rfl),zJ zM cl (fun _ _ _ _=>rfl),zJ xL cl (fun _ _ _ _=>rfl),zJ yL cl (fun _ _ _ _=>rfl)⟩|trivial
   replace H:=zK hg20 H
   cases H
  replace H:=zK hq3 H
  simp only [go_sem,hq3,cond_false]
  refine zC ?_
  refine sq zA ?_
  simp only [go_sem]
  refine zX rfl trivial (fun hc=>?_) (fun hc=>?_)
  ·have hk26:(bEq r1.2 0)=false:=by simpa using hc
   replace H:=zL hc H
   refine sq zA ?_
   simp only [go_sem,Nat.reduceLT,Nat.reduceAdd]
   repeat ((with_reducible refine aI ?_ ?_);exact an4)
   refine rg zA ?_
   simp only [go_sem,Nat.reduceLT,Nat.reduceAdd]
   obtain rfl:=Option.some.inj H
   refine yE [] [none,none,none,none] ?_ ?_ ?_ ?_ (by rfl) (by rfl)
   ·simp only [go_sem]
    try exact at0
   ·simp only [go_sem]
    try exact at0
   ·simp only [go_sem]
    exact cT
   ·simp only [go_sem,CvH]
    first|exact ⟨zQ,zQ,zQ,zQ⟩|trivial
  have hk26:(bEq r1.2 0)=true:=by simpa using hc
  replace H:=zK hc H
  refine rg zA ?_
  simp only [go_sem]
  refine zC ?_
  refine zC ?_
  obtain ⟨r27,e28,H⟩:=bsi H
  refine rg ct13t1_ok ?_
  simp only [go_sem,Nat.reduceLT,Nat.reduceAdd,ct13t1_29,kR,e28]
  repeat ((with_reducible refine aI ?_ ?_);exact an0)
  refine zX rfl trivial (fun hc=>?_) (fun hc=>?_)
  ·have hk29:(r27)=false:=by simpa using hc
   replace H:=zL hc H
   refine sq zA ?_
   simp only [go_sem,Nat.reduceLT,Nat.reduceAdd]
   repeat ((with_reducible refine aI ?_ ?_);exact an4)
   refine rg zA ?_
   simp only [go_sem,Nat.reduceLT,Nat.reduceAdd]
   obtain rfl:=Option.some.inj H
   refine yE [] [none,none,none,none] ?_ ?_ ?_ ?_ (by rfl) (by rfl)
   ·simp only [go_sem]
    try exact at0
   ·simp only [go_sem]
    try exact at0
   ·simp only [go_sem]
    exact cT
   ·simp only [go_sem,CvH]
    first|exact ⟨zQ,zQ,zQ,zQ⟩|trivial
  have hk29:(r27)=true:=by simpa using hc
  replace H:=zK hc H
  refine rg zA ?_
  simp only [go_sem]
  refine zC ?_
  refine wG (c:=bEq p1.Kind 1) (fun hg30=>?_) (fun hg30=>?_)
  ·replace H:=zL hg30 H
   refine xC zU gC 1 (by kernel_rfl) (by kernel_rfl) ?_
   intro an han
   simp only [vH,wI,tC,xrD,xoD,uY,vL,List.append_nil,xF,refs,vN,mask,wN,place,xU,wO,xV,hit,inL,xH,ren,rnN,nrH,nrB,nrL,nr,rZ,rS,Nat.sub_self,Nat.add_zero,Nat.zero_add,Nat.reduceSub,Nat.lt_add_one,go_sem,Nat.reduceLeDiff,Nat.reduceLT,Nat.reduceAdd,Nat.reduceSub,Nat.reduceBEq,gB,lk30,has30,hg30]
   repeat ((with_reducible refine aI ?_ ?_);exact an5)
   refine zC ?_
   refine zC ?_
   cases H
  replace H:=zK hg30 H
  refine wG (c:=bEq p1.Kind 2) (fun hg31=>?_) (fun hg31=>?_)
  ·replace H:=zL hg31 H
   refine xC zU gC 1 (by kernel_rfl) (by kernel_rfl) ?_
   intro an han
   simp only [vH,wI,tC,xrD,xoD,uY,vL,List.append_nil,xF,refs,vN,mask,wN,place,xU,wO,xV,hit,inL,xH,ren,rnN,nrH,nrB,nrL,nr,rZ,rS,Nat.sub_self,Nat.add_zero,Nat.zero_add,Nat.reduceSub,Nat.lt_add_one,go_sem,Nat.reduceLeDiff,Nat.reduceLT,Nat.reduceAdd,Nat.reduceSub,Nat.reduceBEq,gB,lk30,has30,hg30,hg31]
   repeat ((with_reducible refine aI ?_ ?_);exact an5)
   refine zC ?_
   refine zC ?_
   cases H
  replace H:=zK hg31 H
  refine wG (c:=bEq p1.Kind 3) (fun hg32=>?_) (fun hg32=>?_)
  ·replace H:=zL hg32 H
   refine xC zU gC 1 (by kernel_rfl) (by kernel_rfl) ?_
   intro an han
   simp only [vH,wI,tC,xrD,xoD,uY,vL,List.append_nil,xF,refs,vN,mask,wN,place,xU,wO,xV,hit,inL,xH,ren,rnN,nrH,nrB,nrL,nr,rZ,rS,Nat.sub_self,Nat.add_zero,Nat.zero_add,Nat.reduceSub,Nat.lt_add_one,go_sem,Nat.reduceLeDiff,Nat.reduceLT,Nat.reduceAdd,Nat.reduceSub,Nat.reduceBEq,gB,lk30,has30,hg30,hg31,hg32]
   repeat ((with_reducible refine aI ?_ ?_);exact an5)
   refine zC ?_
   refine zC ?_
   cases H
  replace H:=zK hg32 H
  cases H
 ·cases hb
def ct10t0:Ct:=tab [(22,edC qE)]
theorem ct10t0_ok:yP Tryz.prog ct10t0:=zE ok22 <| zO
theorem ct10t0_22 (l:List AV) (h:List ABlk):ct10t0 22 l h=edC qE l h:=rfl
def ct10t1:Ct:=tab [(24,pureC uH)]
theorem ct10t1_ok:yP Tryz.prog ct10t1:=zE ok24_0 <| zO
theorem ct10t1_24 (l:List AV) (h:List ABlk):ct10t1 24 l h=pureC uH l h:=rfl
def ct10t2:Ct:=tab [(25,pureC qS)]
theorem ct10t2_ok:yP Tryz.prog ct10t2:=zE ok25_0 <| zO
theorem ct10t2_25 (l:List AV) (h:List ABlk):ct10t2 25 l h=pureC qS l h:=rfl
def F10 (p0:TRegulate) (p1:Int) (p2:Int):Option (Bool × Int) :=
 (F22 p0 p2 0).bind fun r1=>bif r1.1.isSome then (bif (!bEq r1.2 0) then (some (false,r1.2)) else (need (bif (!((gt r1.1).Stopped)) then ((jB ((gt r1.1).Table) ((gt r1.1).Channel)).isSome) else true) <| bif (((gt r1.1).Stopped || (bLt ((gt (jB ((gt r1.1).Table) ((gt r1.1).Channel))).Max) p1)) || ((!((gt r1.1).Lead)) && (bLt 500000 (wr .i64 (p2 - ((gt r1.1).Heard)))))) then (some (false,0)) else ((cN ((gt r1.1).Table) ((gt r1.1).Blocked) ((gt r1.1).Clear) ((gt r1.1).Channel) p2).bind fun r7=>some (r7,0)))) else (bif (!bEq r1.2 0) then (some (false,r1.2)) else (none))
def gJ:List AV->AR
 | [v0,v1,v2]=>.pure (aK 10 xA v0/\iK .i64 v1/\iK .i64 v2/\(F10 (yJ (aL v0)) (iA v1) (iA v2)).isSome=true) (.tup [.bool ((gt (F10 (yJ (aL v0)) (iA v1) (iA v2))).1),.int .i64 ((gt (F10 (yJ (aL v0)) (iA v1) (iA v2))).2)])
 | _=>.fail
theorem ok10:FnOk Tryz.prog 10 (pureC gJ):=by
 refine yM gJ (rs:=[.tmp 6,.tmp 7]) Tryz.func10 (by kernel_rfl) rfl rfl ?_
 intro l ob v hb hob
 unfold gJ at hb
 split at hb
 ·rename_i v0 v1 v2
  injection hb with q1 q2;subst q1 q2
  obtain ⟨hk0_0,hk1_0,hk2_0,hob⟩:=hob
  obtain ⟨r,H⟩:=oE.1 hob
  rw [H,zN]
  have hw0:=tT hk0_0
  have hw1:=iK_wk hk1_0
  have hw2:=iK_wk hk2_0
  generalize yJ (aL v0)=p0 at H hw0
  generalize iA v1=p1 at H hw1
  generalize iA v2=p2 at H hw2
  refine ⟨[.agg [.ro 3 p0.Table.length false (enR c_TRegulateChannel p0.Table),.int .i64 p0.Channel,.bool p0.Lead,.int .i64 p0.Heard,.bool p0.Stopped,.bool p0.Moving,.int .i64 p0.To,.int .i64 p0.At,.ro 2 p0.Blocked.length false (enR zB p0.Blocked),.ro 1 p0.Clear.length false (enR yG p0.Clear)],.int .i64 p1,.int .i64 p2],_,(fun E vs F=>yC hw0.1 F (fun vs F=>yC hw1.1 F (fun vs F=>yC hw2.1 F (fun vs F=>F)))),rfl,rfl,?_⟩
  rw [Tryz.ntmps10]
  simp only [lC,lN,Nat.reduceAdd,Nat.reduceSub,rS,rZ,aC,aN]
  unfold F10 at H
  try dsimp only at H
  refine sq zA ?_
  simp only [go_sem]
  refine zC ?_
  obtain ⟨r1,e2,H⟩:=bsi H
  refine rg ct10t0_ok ?_
  simp only [go_sem,Nat.reduceLT,Nat.reduceAdd,ct10t0_22,qE,e2]
  repeat ((with_reducible refine aI ?_ ?_);exact an0)
  refine wG (c:=r1.1.isSome) (fun hq3=>?_) (fun hq3=>?_)
  ·replace H:=zL hq3 H
   simp only [go_sem,Nat.reduceAdd,hq3,cond_true,rnm,dH,rnmC_en,fC]
   refine zC ?_
   refine sq zA ?_
   simp only [go_sem]
   refine zX rfl trivial (fun hc=>?_) (fun hc=>?_)
   ·have hk4:(bEq r1.2 0)=false:=by simpa using hc
    replace H:=zL hc H
    refine sq zA ?_
    simp only [go_sem]
    refine rg zA ?_
    simp only [go_sem]
    obtain rfl:=Option.some.inj H
    exact fB
   have hk4:(bEq r1.2 0)=true:=by simpa using hc
   replace H:=zK hc H
   refine rg zA ?_
   simp only [go_sem]
   refine zC ?_
   refine zC ?_
   obtain ⟨f5,H⟩:=zP.1 H
   replace f5:=xR.1 f5
   refine rg ct10t1_ok ?_
   simp only [go_sem,Nat.reduceLeDiff,Nat.reduceLT,Nat.reduceAdd,ct10t1_24,uH]
   repeat ((with_reducible refine And.intro ?_ ?_);focus exact bn2 f5)
   refine zX rfl trivial (fun hc=>?_) (fun hc=>?_)
   ·have hk6:(((gt r1.1).Stopped || (bLt ((gt (jB ((gt r1.1).Table) ((gt r1.1).Channel))).Max) p1)) || ((!((gt r1.1).Lead)) && (bLt 500000 (wr .i64 (p2 - ((gt r1.1).Heard))))))=true:=by first|simpa using hc|simpa only [Bool.not_eq_true',Bool.not_eq_false'] using hc
    replace H:=zL hc H
    refine sq zA ?_
    simp only [go_sem]
    refine rg zA ?_
    simp only [go_sem]
    obtain rfl:=Option.some.inj H
    exact fB
   have hk6:(((gt r1.1).Stopped || (bLt ((gt (jB ((gt r1.1).Table) ((gt r1.1).Channel))).Max) p1)) || ((!((gt r1.1).Lead)) && (bLt 500000 (wr .i64 (p2 - ((gt r1.1).Heard))))))=false:=by first|simpa using hc|simpa only [Bool.not_eq_true',Bool.not_eq_false'] using hc
   replace H:=zK hc H
   refine rg zA ?_
   simp only [go_sem]
   refine zC ?_
   obtain ⟨r7,e8,H⟩:=bsi H
   refine rg ct10t2_ok ?_
   simp only [go_sem,Nat.reduceLeDiff,Nat.reduceLT,Nat.reduceAdd,ct10t2_25,qS,e8]
   repeat ((with_reducible refine aI ?_ ?_);exact an0)
   refine rg zA ?_
   simp only [go_sem]
   obtain rfl:=Option.some.inj H
   exact fB
  replace H:=zK hq3 H
  simp only [go_sem,hq3,cond_false]
  refine zC ?_
  refine sq zA ?_
  simp only [go_sem]
  refine condM' rfl trivial (fun hc=>?_) (fun hc=>?_)
  ·have hk9:(bEq r1.2 0)=true:=by simpa using hc
   replace H:=zK hc H
   refine rg zA ?_
   simp only [go_sem]
   refine zC ?_
   refine zC ?_
   cases H
  have hk9:(bEq r1.2 0)=false:=by simpa using hc
  replace H:=zL hc H
  refine sq zA ?_
  simp only [go_sem]
  refine rg zA ?_
  simp only [go_sem]
  obtain rfl:=Option.some.inj H
  exact fB
 ·cases hb
def ct4t0:Ct:=tab [(6,edC eJ)]
theorem ct4t0_ok:yP Tryz.prog ct4t0:=zE ok6 <| zO
theorem ct4t0_6 (l:List AV) (h:List ABlk):ct4t0 6 l h=edC eJ l h:=rfl
def ct4t1:Ct:=tab [(9,edC body9)]
theorem ct4t1_ok:yP Tryz.prog ct4t1:=zE ok9 <| zO
theorem ct4t1_9 (l:List AV) (h:List ABlk):ct4t1 9 l h=edC body9 l h:=rfl
def ct4t2:Ct:=tab [(11,pureC jL),(8,edC fD)]
theorem ct4t2_ok:yP Tryz.prog ct4t2:=zE ok11 <| zE ok8 <| zO
theorem ct4t2_11 (l:List AV) (h:List ABlk):ct4t2 11 l h=pureC jL l h:=rfl
theorem ct4t2_8 (l:List AV) (h:List ABlk):ct4t2 8 l h=edC fD l h:=rfl
def ct4t3:Ct:=tab [(12,pureC fW)]
theorem ct4t3_ok:yP Tryz.prog ct4t3:=zE ok12 <| zO
theorem ct4t3_12 (l:List AV) (h:List ABlk):ct4t3 12 l h=pureC fW l h:=rfl
def ct4t4:Ct:=tab [(13,edC dM)]
theorem ct4t4_ok:yP Tryz.prog ct4t4:=zE ok13 <| zO
theorem ct4t4_13 (l:List AV) (h:List ABlk):ct4t4 13 l h=edC dM l h:=rfl
def ct4t5:Ct:=tab [(10,pureC gJ)]
theorem ct4t5_ok:yP Tryz.prog ct4t5:=zE ok10 <| zO
theorem ct4t5_10 (l:List AV) (h:List ABlk):ct4t5 10 l h=pureC gJ l h:=rfl
def F4:Option (Bool) :=
 (some [(TRegulateChannel.mk 1 9 false),(TRegulateChannel.mk 6 9 false)]).bind fun w1=>(F6 w1 1 true 0).bind fun r3=>(F6 w1 1 false 0).bind fun r5=>(F9 (TRegulate.mk r3.1.Table r3.1.Channel r3.1.Lead r3.1.Heard r3.1.Stopped r3.1.Moving r3.1.To r3.1.At r3.1.Blocked r3.1.Clear) 0 10).bind fun r7=>bif (((((!bEq r3.2 0) || (!bEq r5.2 0)) || (!bEq r7.2.2 0)) || (!bEq (r7.2.1.length:Nat) 1)) || (!r7.1.Stopped)) then (some false) else (need (inb 0 r7.2.1.length) <| (F11).bind fun r11=>(F8 (gd r7.2.1 0) r11).bind fun r13=>(F12 r13.1).bind fun r15=>(F13 (TRegulate.mk r5.1.Table r5.1.Channel r5.1.Lead r5.1.Heard r5.1.Stopped r5.1.Moving r5.1.To r5.1.At r5.1.Blocked r5.1.Clear) r15.1 0 20).bind fun r17=>(F10 (TRegulate.mk r5.1.Table r5.1.Channel r5.1.Lead r5.1.Heard r5.1.Stopped r5.1.Moving r5.1.To r5.1.At r5.1.Blocked r5.1.Clear) 9 20).bind fun r19=>(F10 (TRegulate.mk r17.1.Table r17.1.Channel r17.1.Lead r17.1.Heard r17.1.Stopped r17.1.Moving r17.1.To r17.1.At r17.1.Blocked r17.1.Clear) 9 20).bind fun r21=>some (((((((((r13.2 && r15.2) && (bEq r17.2.2 0)) && r17.1.Moving) && (bEq r17.1.To 6)) && (bEq r17.1.At 150010)) && (bEq r19.2 0)) && r19.1) && (bEq r21.2 0)) && (!r21.1)))
def body4:List AV->AR
 | []=>.pure ((F4).isSome=true) (.bool (gt F4))
 | _=>.fail
theorem ok4:FnOk Tryz.prog 4 (pureC body4):=by
 refine yM body4 (rs:=[.tmp 0]) Tryz.func4 (by kernel_rfl) rfl rfl ?_
 intro l ob v hb hob
 unfold body4 at hb
 split at hb
 ·injection hb with q1 q2;subst q1 q2
  obtain ⟨r,H⟩:=oE.1 hob
  rw [H,zN]
  refine ⟨[],_,(fun E vs F=>F),rfl,rfl,?_⟩
  rw [Tryz.ntmps4]
  simp only [lN,Nat.reduceSub,rS,rZ,aN]
  unfold F4 at H
  try dsimp only at H
  refine sq zA ?_
  simp only [go_sem]
  refine sq zA ?_
  simp only [go_sem,Nat.reduceLeDiff,Nat.reduceAdd,Nat.reduceMul]
  refine zC ?_
  obtain ⟨w1,hw2,H⟩:=bsj H
  have lhw2:w1.length=2:=by rw [← hw2];exact cl
  refine tR (t2:=(.top::.sl 0 3 0 w1.length false::tp 124 [])) (h2:=[.row 35 3 w1.length (enR c_TRegulateChannel w1)]) ?_ ?_
  ·refine Sq [(0,1)] ?_ ?_
   ·simp [CvL,Cv,yB,tp,lhw2]
   ·exact ⟨zJ zI lhw2 (hw2 ▸ (wS (f:=c_TRegulateChannel) [(TRegulateChannel.mk 1 9 false),(TRegulateChannel.mk 6 9 false)] (fun _ _=>rfl) rfl)),trivial⟩
  simp only [tp]
  obtain ⟨r3,e4,H⟩:=bsi H
  refine rg ct4t0_ok ?_
  simp only [go_sem,Nat.reduceLT,Nat.reduceAdd,ct4t0_6,eJ,e4]
  repeat ((with_reducible refine aI ?_ ?_);exact an0)
  refine zC ?_
  obtain ⟨r5,e6,H⟩:=bsi H
  refine rg ct4t0_ok ?_
  simp only [go_sem,Nat.reduceLT,Nat.reduceAdd,ct4t0_6,eJ,e6]
  repeat ((with_reducible refine aI ?_ ?_);exact an0)
  refine zC ?_
  obtain ⟨r7,e8,H⟩:=bsi H
  refine rg ct4t1_ok ?_
  simp only [go_sem,Nat.reduceLT,Nat.reduceAdd,ct4t1_9,body9,e8]
  repeat ((with_reducible refine aI ?_ ?_);exact an0)
  refine zC ?_
  refine sq zA ?_
  simp only [go_sem,Nat.reduceLeDiff,Nat.reduceLT,Nat.reduceAdd]
  repeat ((with_reducible refine aI ?_ ?_);exact an3)
  refine zX rfl trivial (fun hc=>?_) (fun hc=>?_)
  ·have hk9:(((((!bEq r3.2 0) || (!bEq r5.2 0)) || (!bEq r7.2.2 0)) || (!bEq (r7.2.1.length:Nat) 1)) || (!r7.1.Stopped))=true:=by simpa using hc
   replace H:=zL hc H
   refine sq zA ?_
   simp only [go_sem]
   refine rg zA ?_
   simp only [go_sem]
   obtain rfl:=Option.some.inj H
   exact fB
  have hk9:(((((!bEq r3.2 0) || (!bEq r5.2 0)) || (!bEq r7.2.2 0)) || (!bEq (r7.2.1.length:Nat) 1)) || (!r7.1.Stopped))=false:=by simpa using hc
  replace H:=zK hc H
  refine rg zA ?_
  simp only [go_sem]
  refine zC ?_
  obtain ⟨f10,H⟩:=nI H
  obtain ⟨r11,e12,H⟩:=bsi H
  obtain ⟨r13,e14,H⟩:=bsi H
  refine xC zU ct4t2_ok 1 (by kernel_rfl) (by kernel_rfl) ?_
  intro an han
  simp only [vH,wI,tC,xrD,xoD,uY,vL,List.append_nil,xF,refs,vN,mask,wN,place,xU,wO,xV,hit,inL,xH,ren,qB,rnN,nrH,nrB,rZ,rS,Nat.sub_self,Nat.add_zero,Nat.zero_add,Nat.reduceSub,Nat.lt_add_one,go_sem,Nat.reduceLeDiff,Nat.reduceLT,Nat.reduceAdd,Nat.reduceSub,Nat.reduceBEq,ct4t2_11,jL,ct4t2_8,fD,f10,e12,e14]
  repeat ((with_reducible refine aI ?_ ?_);exact an5)
  refine zC ?_
  obtain ⟨r15,e16,H⟩:=bsi H
  refine rg ct4t3_ok ?_
  simp only [go_sem,Nat.reduceLT,Nat.reduceAdd,ct4t3_12,fW,e16]
  repeat ((with_reducible refine aI ?_ ?_);exact an0)
  refine zC ?_
  obtain ⟨r17,e18,H⟩:=bsi H
  refine rg ct4t4_ok ?_
  simp only [go_sem,Nat.reduceLT,Nat.reduceAdd,ct4t4_13,dM,e18]
  repeat ((with_reducible refine aI ?_ ?_);exact an0)
  refine zC ?_
  obtain ⟨r19,e20,H⟩:=bsi H
  refine rg ct4t5_ok ?_
  simp only [go_sem,Nat.reduceLT,Nat.reduceAdd,ct4t5_10,gJ,e20]
  repeat ((with_reducible refine aI ?_ ?_);exact an0)
  refine zC ?_
  obtain ⟨r21,e22,H⟩:=bsi H
  refine rg ct4t5_ok ?_
  simp only [go_sem,Nat.reduceLT,Nat.reduceAdd,ct4t5_10,gJ,e22]
  repeat ((with_reducible refine aI ?_ ?_);exact an0)
  refine sq zA ?_
  simp only [go_sem,Nat.reduceLeDiff,Nat.reduceLT,Nat.reduceAdd]
  repeat ((with_reducible refine aI ?_ ?_);exact an4)
  refine rg zA ?_
  simp only [go_sem]
  obtain rfl:=Option.some.inj H
  exact fB
 ·cases hb
def F5_L1 (p0:List TMove) (p1:Int) (v1_1:Int):Option (Lp (Int) ((Unit) ⊕ (Bool))) :=
 bif ((bLt v1_1 (p0.length:Nat)) && (bLe (p0.length:Nat) p1)) then (need (inb v1_1 p0.length) <| need (bif (!(bLt ((gd p0 v1_1.toNat).Wait) 0)) then inb v1_1 p0.length else true) <| need (bif (!((bLt ((gd p0 v1_1.toNat).Wait) 0) || (bLt 1000000 ((gd p0 v1_1.toNat).Wait)))) then inb v1_1 p0.length else true) <| bif (((bLt ((gd p0 v1_1.toNat).Wait) 0) || (bLt 1000000 ((gd p0 v1_1.toNat).Wait))) || (bLt ((gd p0 v1_1.toNat).N) 0)) then (some (.done (.inr false))) else (some (.next (wr .i64 (v1_1+1))))) else (some (.done (.inl ())))
def F5 (p0:List TMove) (p1:Int):Option (Bool) :=
 lp (yF (fun s=>F5_L1 p0 p1 s) 0) (fun _=>some (bLe (p0.length:Nat) p1)) some
def body5:List AV->AR
 | [v0,v1]=>.pure (lK fL 3 v0/\iK .i64 v1/\(F5 (lA g_TMove v0) (iA v1)).isSome=true) (.bool (gt (F5 (lA g_TMove v0) (iA v1))))
 | _=>.fail
theorem ok5:FnOk Tryz.prog 5 (pureC body5):=by
 refine yM body5 (rs:=[.tmp 4]) Tryz.func5 (by kernel_rfl) rfl rfl ?_
 intro l ob v hb hob
 unfold body5 at hb
 split at hb
 ·rename_i v0 v1
  injection hb with q1 q2;subst q1 q2
  obtain ⟨hk0_0,hk1_0,hob⟩:=hob
  obtain ⟨r,H⟩:=oE.1 hob
  rw [H,zN]
  have hw0:=lK_wk (fun r h=>w_TMove h) hk0_0
  have hw1:=iK_wk hk1_0
  generalize lA g_TMove v0=p0 at H hw0
  generalize iA v1=p1 at H hw1
  refine ⟨[.ro 3 p0.length false (enR c_TMove p0),.int .i64 p1],_,(fun E vs F=>yC hw0.1 F (fun vs F=>yC hw1.1 F (fun vs F=>F))),rfl,rfl,?_⟩
  rw [Tryz.ntmps5]
  simp only [lC,lN,Nat.reduceAdd,Nat.reduceSub,rS,rZ,aC,aN]
  unfold F5 at H
  try dsimp only at H
  refine sq zA ?_
  simp only [go_sem]
  refine zC ?_
  refine sq zA ?_
  simp only [go_sem]
  refine xN ?_
  refine xP (fun s:Int=>(.ro 3 p0.length false (enR c_TMove p0)::.int .i64 p1::.top::.top::.top::.int .i64 s::tp 38 [])) (fun s=>[]) (fun e:Unit=>(.ro 3 p0.length false (enR c_TMove p0)::.int .i64 p1::tp 42 [])) (fun e=>[]) H ?_ (fun v1_1 o H hn1_1 hn2_1=>?_) (fun e H=>?_)
  ·refine xI ⟨[],?_,?_,by rfl,by rfl⟩
   ·simp [CvL,Cv,tp]
   ·trivial
  ·unfold F5_L1 at H
   try dsimp only at H ⊢
   try simp only [tp]
   refine zC ?_
   refine sq zA ?_
   simp only [go_sem]
   repeat ((with_reducible refine aI ?_ ?_);exact an3)
   refine condM' rfl trivial (fun hc=>?_) (fun hc=>?_)
   ·have hk1:((bLt v1_1 (p0.length:Nat)) && (bLe (p0.length:Nat) p1))=false:=by first|simpa using hc|simpa only [Bool.not_eq_true',Bool.not_eq_false'] using hc
    replace H:=zK hc H
    refine rg zA ?_
    simp only [go_sem]
    refine ⟨_,(Option.some.inj H).symm,?_⟩
    refine xI ⟨[],?_,?_,by rfl,by rfl⟩
    ·simp [CvL,Cv]
    ·trivial
   have hk1:((bLt v1_1 (p0.length:Nat)) && (bLe (p0.length:Nat) p1))=true:=by first|simpa using hc|simpa only [Bool.not_eq_true',Bool.not_eq_false'] using hc
   replace H:=zL hc H
   refine rg zA ?_
   simp only [go_sem]
   refine zC ?_
   refine xN ?_
   refine zC ?_
   obtain ⟨f2,H⟩:=nI H
   obtain ⟨f3,H⟩:=zP.1 H
   replace f3:=xR.1 f3
   replace f3:=fun g=>uF.1 (f3 g)
   obtain ⟨f4,H⟩:=zP.1 H
   replace f4:=xR.1 f4
   replace f4:=fun g=>uF.1 (f4 g)
   refine rg zA ?_
   simp only [go_sem,Nat.reduceLeDiff,Nat.reduceLT,Nat.reduceAdd,f2]
   repeat ((with_reducible refine And.intro ?_ ?_);focus exact bn7 f3 f4)
   refine zX rfl trivial (fun hc=>?_) (fun hc=>?_)
   ·have hk5:(((bLt ((gd p0 v1_1.toNat).Wait) 0) || (bLt 1000000 ((gd p0 v1_1.toNat).Wait))) || (bLt ((gd p0 v1_1.toNat).N) 0))=true:=by simpa using hc
    replace H:=zL hc H
    refine sq zA ?_
    simp only [go_sem]
    refine rg zA ?_
    simp only [go_sem]
    have H:=hn2_1 _ (Option.some.inj H).symm
    obtain rfl:=Option.some.inj H
    exact fB
   have hk5:(((bLt ((gd p0 v1_1.toNat).Wait) 0) || (bLt 1000000 ((gd p0 v1_1.toNat).Wait))) || (bLt ((gd p0 v1_1.toNat).N) 0))=false:=by simpa using hc
   replace H:=zK hc H
   refine rg zA ?_
   simp only [go_sem]
   refine rg zA ?_
   simp only [go_sem]
   refine ⟨_,(Option.some.inj H).symm,?_⟩
   refine xI ⟨[],?_,?_,by rfl,by rfl⟩
   ·simp [CvL,Cv]
   ·trivial
  ·try dsimp only at H ⊢
   try simp only [tp]
   try simp only [yS]
   refine sq zA ?_
   simp only [go_sem]
   repeat ((with_reducible refine aI ?_ ?_);exact an0)
   refine rg zA ?_
   simp only [go_sem]
   obtain rfl:=Option.some.inj H
   exact fB
 ·cases hb
def F32_0 (p0:TRegulateBlock) (p1:Int):Option (Bool) :=
 some (bLe p0.Until p1)
def qT:List AV->AR
 | [v0,v1]=>.pure (aK 2 yN v0/\rK 1 kE v1/\(F32_0 (zF (aL v0)) (xQ (rG v1))).isSome=true) (.bool (gt (F32_0 (zF (aL v0)) (xQ (rG v1)))))
 | _=>.fail
theorem ok32_0:FnOk Tryz.prog 32 (pureC qT):=by
 refine yM qT (rs:=[.tmp 3]) Tryz.func32 (by kernel_rfl) rfl rfl ?_
 intro l ob v hb hob
 unfold qT at hb
 split at hb
 ·rename_i v0 v1
  injection hb with q1 q2;subst q1 q2
  obtain ⟨hk0_0,hk1_0,hob⟩:=hob
  obtain ⟨r,H⟩:=oE.1 hob
  rw [H,zN]
  have hw0:=kI hk0_0
  have hw1:=rK_wk (f:=yG) (g:=xQ) (fun r h=>jJ h) hk1_0
  generalize zF (aL v0)=p0 at H hw0
  generalize xQ (rG v1)=p1 at H hw1
  refine ⟨[.agg [.int .i64 p0.Channel,.int .i64 p0.Until],.rptr 1 1 0 0 (enR yG [p1])],_,(fun E vs F=>yC hw0.1 F (fun vs F=>yC hw1.1 F (fun vs F=>F))),rfl,rfl,?_⟩
  rw [Tryz.ntmps32]
  simp only [lC,lN,Nat.reduceAdd,Nat.reduceSub,rS,rZ,aC,aN]
  unfold F32_0 at H
  try dsimp only at H
  refine sq zA ?_
  simp only [go_sem]
  refine sq zA ?_
  simp only [go_sem,Nat.reduceLT,Nat.reduceAdd]
  repeat ((with_reducible refine aI ?_ ?_);exact an4)
  refine rg zA ?_
  simp only [go_sem]
  obtain rfl:=Option.some.inj H
  exact fB
 ·cases hb
def ct70_0t0:Ct:=tab [(32,pureC qT)]
theorem ct70_0t0_ok:yP Tryz.prog ct70_0t0:=zE ok32_0 <| zO
theorem ct70_0t0_32 (l:List AV) (h:List ABlk):ct70_0t0 32 l h=pureC qT l h:=rfl
def F70_0_L1 (p0:List TRegulateBlock) (p1:Int) (v1_1:Int):Option (Lp (Int) ((Unit) ⊕ (Int))) :=
 bif (bLt v1_1 (p0.length:Nat)) then (need (inb v1_1 p0.length) <| (F32_0 (gd p0 v1_1.toNat) p1).bind fun r3=>bif r3 then (some (.done (.inr v1_1))) else (some (.next (wr .i64 (v1_1+1))))) else (some (.done (.inl ())))
def F70_0 (p0:List TRegulateBlock) (p1:Int):Option (Int) :=
 lp (yF (fun s=>F70_0_L1 p0 p1 s) 0) (fun _=>some (-1)) some
def eQ:List AV->AR
 | [v0,.fn 32 [v1]]=>.pure (lK yN 2 v0/\rK 1 kE v1/\(F70_0 (lA zF v0) (xQ (rG v1))).isSome=true) (.int .i64 (gt (F70_0 (lA zF v0) (xQ (rG v1)))))
 | _=>.fail
theorem ok70_0:FnOk Tryz.prog 70 (pureC eQ):=by
 refine yM eQ (rs:=[.tmp 4]) Tryz.func70 (by kernel_rfl) rfl rfl ?_
 intro l ob v hb hob
 unfold eQ at hb
 split at hb
 ·rename_i v0 v1
  injection hb with q1 q2;subst q1 q2
  obtain ⟨hk0_0,hk1_0,hob⟩:=hob
  obtain ⟨r,H⟩:=oE.1 hob
  rw [H,zN]
  have hw0:=lK_wk (fun r h=>xD h) hk0_0
  have hw1:=rK_wk (f:=yG) (g:=xQ) (fun r h=>jJ h) hk1_0
  generalize lA zF v0=p0 at H hw0
  generalize xQ (rG v1)=p1 at H hw1
  refine ⟨[.ro 2 p0.length false (enR zB p0),.fn 32 [.rptr 1 1 0 0 (enR yG [p1])]],_,(fun E vs F=>yC hw0.1 F (fun vs F=>yC (fn_wk (LW_cons hw1.1 fU)) F (fun vs F=>F))),rfl,rfl,?_⟩
  rw [Tryz.ntmps70]
  simp only [lC,lN,Nat.reduceAdd,Nat.reduceSub,rS,rZ,aC,aN]
  unfold F70_0 at H
  try dsimp only at H
  refine sq zA ?_
  simp only [go_sem]
  refine zC ?_
  refine sq zA ?_
  simp only [go_sem]
  repeat ((with_reducible refine aI ?_ ?_);exact an0)
  refine xN ?_
  refine xP (fun s:Int=>(.ro 2 p0.length false (enR zB p0)::.fn 32 [.rptr 1 1 0 0 (enR yG [p1])]::tp 5 (.int .i64 (p0.length:Nat)::.int .i64 s::tp 10 []))) (fun s=>[]) (fun e:Unit=>(tp 19 [])) (fun e=>[]) H ?_ (fun v1_1 o H hn1_1 hn2_1=>?_) (fun e H=>?_)
  ·refine xI ⟨[],?_,?_,by rfl,by rfl⟩
   ·simp [CvL,Cv,tp]
   ·trivial
  ·unfold F70_0_L1 at H
   try dsimp only at H ⊢
   try simp only [tp]
   refine sq zA ?_
   simp only [go_sem]
   refine zC ?_
   refine condM' rfl trivial (fun hc=>?_) (fun hc=>?_)
   ·have hk1:(bLt v1_1 (p0.length:Nat))=false:=by simpa using hc
    replace H:=zK hc H
    refine rg zA ?_
    simp only [go_sem]
    refine ⟨_,(Option.some.inj H).symm,?_⟩
    refine xI ⟨[],?_,?_,by rfl,by rfl⟩
    ·simp [CvL,Cv]
    ·trivial
   have hk1:(bLt v1_1 (p0.length:Nat))=true:=by simpa using hc
   replace H:=zL hc H
   refine rg zA ?_
   simp only [go_sem]
   refine zC ?_
   refine xN ?_
   refine sq zA ?_
   simp only [go_sem]
   refine zC ?_
   obtain ⟨f2,H⟩:=nI H
   obtain ⟨r3,e4,H⟩:=bsi H
   refine rg ct70_0t0_ok ?_
   simp only [go_sem,Nat.reduceLT,Nat.reduceAdd,ct70_0t0_32,qT,f2,e4]
   repeat ((with_reducible refine aI ?_ ?_);exact an0)
   refine zX rfl trivial (fun hc=>?_) (fun hc=>?_)
   ·have hk5:(r3)=true:=by simpa using hc
    replace H:=zL hc H
    refine sq zA ?_
    simp only [go_sem]
    refine rg zA ?_
    simp only [go_sem]
    have H:=hn2_1 _ (Option.some.inj H).symm
    obtain rfl:=Option.some.inj H
    exact fB
   have hk5:(r3)=false:=by simpa using hc
   replace H:=zK hc H
   refine rg zA ?_
   simp only [go_sem]
   refine rg zA ?_
   simp only [go_sem]
   refine ⟨_,(Option.some.inj H).symm,?_⟩
   refine xI ⟨[],?_,?_,by rfl,by rfl⟩
   ·simp [CvL,Cv]
   ·trivial
  ·try dsimp only at H ⊢
   try simp only [tp]
   try simp only [yS]
   refine sq zA ?_
   simp only [go_sem]
   refine rg zA ?_
   simp only [go_sem]
   obtain rfl:=Option.some.inj H
   exact fB
 ·cases hb
def ct31_0t0:Ct:=tab [(70,pureC eQ)]
theorem ct31_0t0_ok:yP Tryz.prog ct31_0t0:=zE ok70_0 <| zO
theorem ct31_0t0_70 (l:List AV) (h:List ABlk):ct31_0t0 70 l h=pureC eQ l h:=rfl
def ct31_0t1:Ct:=tab [(32,pureC qT)]
theorem ct31_0t1_ok:yP Tryz.prog ct31_0t1:=zE ok32_0 <| zO
theorem ct31_0t1_32 (l:List AV) (h:List ABlk):ct31_0t1 32 l h=pureC qT l h:=rfl
def F31_0_L1 (p1:Int) (v1_1:List TRegulateBlock) (v1_2:Int) (v1_3:Int):Option (Lp ((List TRegulateBlock) × Int × Int) (((List TRegulateBlock) × Int) ⊕ (List TRegulateBlock))) :=
 bif (bLt v1_3 (v1_1.length:Nat)) then (need (inb v1_3 v1_1.length) <| (F32_0 (gd v1_1 v1_3.toNat) p1).bind fun r6=>bif (!r6) then (need (inb v1_2 v1_1.length) <| some (.next ((v1_1.set v1_2.toNat (gd v1_1 v1_3.toNat)),wr .i64 (v1_2+1),wr .i64 (v1_3+1)))) else (some (.next (v1_1,v1_2,wr .i64 (v1_3+1))))) else (some (.done (.inl (v1_1,v1_2))))
def F31_0 (p0:List TRegulateBlock) (p1:Int):Option (List TRegulateBlock) :=
 (F70_0 p0 p1).bind fun r1=>bif (bEq r1 (-1)) then (some p0) else (lp (yF (fun s=>F31_0_L1 p1 s.1 s.2.1 s.2.2) (p0,r1,wr .i64 (r1+1))) (fun e1=>need (slb e1.2 (e1.1.length:Nat) e1.1.length) <| need (slb 0 e1.2 e1.1.length) <| some (List.take e1.2.toNat e1.1)) some)
def eF:List AV->List ABlk->ED
 | [v0,.fn 32 [v1]],h=>.ed [slN v0] (oS 97 2 h v0/\lK yN 2 (roW h v0)/\rK 1 kE (roD (zH h [slN v0]) v1)/\xJ (zH h [slN v0]) v1/\(F31_0 (lA zF (roW h v0)) (xQ (rG (roD (zH h [slN v0]) v1)))).isSome=true) (.sl 1 2 0 ((gt (F31_0 (lA zF (roW h v0)) (xQ (rG (roD (zH h [slN v0]) v1))))).length) false) [.dead,.row 97 2 ((gt (F31_0 (lA zF (roW h v0)) (xQ (rG (roD (zH h [slN v0]) v1))))).length) (enR zB (gt (F31_0 (lA zF (roW h v0)) (xQ (rG (roD (zH h [slN v0]) v1))))))]
 | _,_=>.fail
theorem ok31_0:FnOk Tryz.prog 31 (edC eF):=by
 refine xO eF (rs:=[.tmp 4]) Tryz.func31 (by kernel_rfl) rfl rfl ?_
 intro l h bs ob q0 g0 hb hob
 unfold eF at hb
 split at hb
 ·rename_i v0 v1
  injection hb with q1 q2 q3 q4;subst q1 q2 q3 q4
  obtain ⟨hk0_0,hk0_1,hk1_0,hk1_1,hob⟩:=hob
  obtain ⟨r,H⟩:=oE.1 hob
  rw [H,zN]
  obtain ⟨p0,hp0⟩:∃ p0,p0=lA zF (roW h v0):=⟨_,rfl⟩
  rw [← hp0] at H
  obtain ⟨ev0,eb0⟩:=wT (f:=zB) (g:=zF) (bs:=[slN v0]) (i:=0) (fun hr=>xD hr) hk0_0 hk0_1 (L:=p0) (by rw [hp0]) rfl
  have hw1:=rK_wk (f:=yG) (g:=xQ) (fun r h=>jJ h) hk1_0
  obtain ⟨p1,hp_p1⟩:∃ p1,p1=xQ (rG (roD (zH h [slN v0]) v1)):=⟨_,rfl⟩
  rw [← hp_p1] at H hw1
  refine ⟨[.sl 0 2 0 p0.length false,.fn 32 [.rptr 1 1 0 0 (enR yG [p1])]],[.row 97 2 p0.length (enR zB p0)],rfl,⟨(cM ev0 (by simp only [noro])),⟨(EW_fn ⟨(yR hk1_1 hw1),trivial⟩),trivial⟩⟩,⟨eb0,trivial⟩,⟨zW,trivial⟩,⟨trivial,⟨(yY zM),trivial⟩⟩,⟨trivial,⟨zW,trivial⟩⟩,(by first|(simp only [noro];done)|(simp only [noro,yK];and_intros<;>first|trivial|exact xX (by simp only [noro]) (by simp only [noro])|(simp only [noro,yK,and_self]))),?_⟩
  rw [Tryz.ntmps31]
  simp only [lC,lN,Nat.reduceAdd,Nat.reduceSub,rS,rZ,aC,aN]
  unfold F31_0 at H
  try dsimp only at H
  refine sq zA ?_
  simp only [go_sem]
  refine zC ?_
  obtain ⟨r1,e2,H⟩:=bsi H
  refine rg ct31_0t0_ok ?_
  simp only [go_sem,Nat.reduceLT,ct31_0t0_70,eQ,e2]
  repeat ((with_reducible refine aI ?_ ?_);exact an0)
  refine zC ?_
  refine sq zA ?_
  simp only [go_sem]
  refine zX rfl trivial (fun hc=>?_) (fun hc=>?_)
  ·have hk3:(bEq r1 (-1))=true:=by simpa using hc
   replace H:=zL hc H
   refine sq zA ?_
   simp only [go_sem]
   refine rg zA ?_
   simp only [go_sem]
   obtain rfl:=Option.some.inj H
   refine yE [] [some 0,some 0] ?_ ?_ ?_ ?_ (by rfl) (by rfl)
   ·simp only [go_sem]
    try exact at0
   ·simp only [go_sem]
    try exact at0
   ·simp only [go_sem]
    exact (by first|(simp [Cv,yB];done)|(simp [Cv,CvL,yB,zN];omega))
   ·simp only [go_sem,CvH]
    first|exact ⟨yI,zJ zM cl (fun _ _ _ _=>rfl)⟩|trivial
  have hk3:(bEq r1 (-1))=false:=by simpa using hc
  replace H:=zK hc H
  refine rg zA ?_
  simp only [go_sem]
  refine zC ?_
  refine sq zA ?_
  simp only [go_sem]
  refine xN ?_
  refine xP (fun s:(List TRegulateBlock) × Int × Int=>(.sl 1 2 0 s.1.length false::.fn 32 [.rptr 1 1 0 0 (enR yG [p1])]::.top::.top::.top::.int .i64 s.2.1::.int .i64 s.2.2::tp 35 [])) (fun s=>[.dead,.row 97 2 s.1.length (enR zB s.1)]) (fun e:(List TRegulateBlock) × Int=>(.sl 1 2 0 e.1.length false::tp 4 (.int .i64 e.2::tp 36 []))) (fun e=>[.dead,.row 97 2 e.1.length (enR zB e.1)]) H ?_ (fun s o H hn1_1 hn2_1=>?_) (fun e H=>?_)
  ·refine Sq [(0,1),(0,1)] ?_ ?_
   ·simp [CvL,Cv,yB,tp]
   ·exact dQ
  ·obtain ⟨v1_1,v1_2,v1_3⟩:=s
   unfold F31_0_L1 at H
   try dsimp only at H ⊢
   try simp only [tp]
   refine zC ?_
   refine sq zA ?_
   simp only [go_sem]
   repeat ((with_reducible refine aI ?_ ?_);exact an0)
   refine condM' rfl trivial (fun hc=>?_) (fun hc=>?_)
   ·have hk4:(bLt v1_3 (v1_1.length:Nat))=false:=by simpa using hc
    replace H:=zK hc H
    refine rg zA ?_
    simp only [go_sem]
    refine ⟨_,(Option.some.inj H).symm,?_⟩
    refine Sq [(0,2)] ?_ ?_
    ·simp [CvL,Cv,yB]
    ·exact dQ
   have hk4:(bLt v1_3 (v1_1.length:Nat))=true:=by simpa using hc
   replace H:=zL hc H
   refine rg zA ?_
   simp only [go_sem]
   refine zC ?_
   refine xN ?_
   refine zC ?_
   obtain ⟨f5,H⟩:=nI H
   refine rg zA ?_
   simp only [go_sem,Nat.reduceLT,Nat.reduceAdd,f5]
   repeat ((with_reducible refine aI ?_ ?_);exact an4)
   refine zC ?_
   obtain ⟨r6,e7,H⟩:=bsi H
   refine rg ct31_0t1_ok ?_
   simp only [go_sem,Nat.reduceLT,Nat.reduceAdd,ct31_0t1_32,qT,e7]
   repeat ((with_reducible refine aI ?_ ?_);exact an0)
   refine condM' rfl trivial (fun hc=>?_) (fun hc=>?_)
   ·have hk8:(r6)=true:=by simpa using hc
    replace H:=zK hc H
    refine rg zA ?_
    simp only [go_sem]
    refine rg zA ?_
    simp only [go_sem]
    refine ⟨_,(Option.some.inj H).symm,?_⟩
    refine Sq [(0,2)] ?_ ?_
    ·simp [CvL,Cv,yB]
    ·exact dQ
   have hk8:(r6)=false:=by simpa using hc
   replace H:=zL hc H
   refine zC ?_
   obtain ⟨f9,H⟩:=nI H
   refine rg zA ?_
   simp only [go_sem,Nat.reduceLT,Nat.reduceAdd,f9]
   repeat ((with_reducible refine aI ?_ ?_);exact an4)
   refine rg zA ?_
   simp only [go_sem]
   refine rg zA ?_
   simp only [go_sem]
   refine ⟨_,(Option.some.inj H).symm,?_⟩
   refine Sq [(0,2)] ?_ ?_
   ·simp [CvL,Cv,yB]
   ·exact ⟨yI,zJ zM cl (kH (f:=zB) v1_1 v1_2.toNat 0 (gd v1_1 v1_3.toNat) (fun _ _ _ _=>rfl) (fun y hy=>match y,hy with|0,_=>rfl|1,_=>rfl|(y+2),h=>absurd h nlt)),trivial⟩
  ·obtain ⟨w1_4,w1_5⟩:=e
   try dsimp only at H ⊢
   try simp only [tp]
   try simp only [yS]
   refine zC ?_
   obtain ⟨f10,H⟩:=nS H
   refine rg zA ?_
   simp only [go_sem,Nat.reduceLeDiff,Nat.reduceAdd,f10]
   repeat ((with_reducible refine aI ?_ ?_);exact an2)
   refine zC ?_
   obtain ⟨f11,H⟩:=nS H
   refine rg zA ?_
   simp only [go_sem,f11]
   repeat ((with_reducible refine aI ?_ ?_);exact an4)
   refine rg zA ?_
   simp only [go_sem]
   obtain rfl:=Option.some.inj H
   refine yE [] [some 0,some 1] ?_ ?_ ?_ ?_ (by rfl) (by rfl)
   ·simp only [go_sem]
    try exact at0
   ·simp only [go_sem]
    try exact at0
   ·simp only [go_sem]
    exact (by first|(simp [Cv,yB,(show (List.take w1_5.toNat w1_4).length=w1_5.toNat from dK (n:=w1_4.length) cl (by omega))];done)|(simp [Cv,CvL,yB,zN,(show (List.take w1_5.toNat w1_4).length=w1_5.toNat from dK (n:=w1_4.length) cl (by omega))];omega))
   ·simp only [go_sem,CvH]
    first|exact ⟨yI,(CvB_pre zM (by rw [show (List.take w1_5.toNat w1_4).length=w1_5.toNat from dK (n:=w1_4.length) cl (by omega)];omega) (clr_row (fun _ _ _ _=>rfl)))⟩|trivial
 ·cases hb
def ct14t0:Ct:=tab [(22,edC qE)]
theorem ct14t0_ok:yP Tryz.prog ct14t0:=zE ok22 <| zO
theorem ct14t0_22 (l:List AV) (h:List ABlk):ct14t0 22 l h=edC qE l h:=rfl
def ct14t1:Ct:=tab [(31,edC eF)]
theorem ct14t1_ok:yP Tryz.prog ct14t1:=zE ok31_0 <| zO
theorem ct14t1_31 (l:List AV) (h:List ABlk):ct14t1 31 l h=edC eF l h:=rfl
def ct14t2:Ct:=tab [(33,edC qU)]
theorem ct14t2_ok:yP Tryz.prog ct14t2:=zE ok33_0 <| zO
theorem ct14t2_33 (l:List AV) (h:List ABlk):ct14t2 33 l h=edC qU l h:=rfl
def F14 (p0:TRegulate) (p1:Int):Option (TRegulate × (List TRegulateWord) × Int) :=
 (F22 p0 p1 0).bind fun r1=>bif r1.1.isSome then (bif (!bEq r1.2 0) then (some ((TRegulate.mk [] 0 false 0 false false 0 0 [] []),[],r1.2)) else ((F31_0 ((gt r1.1).Blocked) p1).bind fun r5=>bif ((gt r1.1).Moving && (bLe ((gt r1.1).At) p1)) then (bif (!((gt r1.1).Lead)) then (some ((TRegulate.mk ((gt r1.1).Table) ((gt r1.1).To) ((gt r1.1).Lead) ((gt r1.1).At) false false 0 0 r5 ((gt r1.1).Clear)),[],0)) else (some ((TRegulate.mk ((gt r1.1).Table) ((gt r1.1).To) ((gt r1.1).Lead) ((gt r1.1).Heard) false false 0 0 r5 ((gt r1.1).Clear)),[],0))) else (bif ((gt r1.1).Moving && (gt r1.1).Lead) then ((F33_0 ((gt r1.1).Channel) ((gt r1.1).To) ((gt r1.1).At)).bind fun r10=>some ((TRegulate.mk ((gt r1.1).Table) ((gt r1.1).Channel) ((gt r1.1).Lead) ((gt r1.1).Heard) ((gt r1.1).Stopped) ((gt r1.1).Moving) ((gt r1.1).To) ((gt r1.1).At) r5 ((gt r1.1).Clear)),r10,0)) else (some ((TRegulate.mk ((gt r1.1).Table) ((gt r1.1).Channel) ((gt r1.1).Lead) ((gt r1.1).Heard) ((gt r1.1).Stopped) ((gt r1.1).Moving) ((gt r1.1).To) ((gt r1.1).At) r5 ((gt r1.1).Clear)),[],0))))) else (bif (!bEq r1.2 0) then (some ((TRegulate.mk [] 0 false 0 false false 0 0 [] []),[],r1.2)) else (none))
def body14:List AV->List ABlk->ED
 | [v0,v1],h=>(fun z0=>.ed [] (aK 10 xA (roD (zH h []) v0)/\xJ (zH h []) v0/\iK .i64 (roD (zH h []) v1)/\xJ (zH h []) v1/\(F14 (yJ (aL (roD (zH h []) v0))) (iA (roD (zH h []) v1))).isSome=true) (.tup [.agg [.sl 0 3 0 (((z0.1).Table).length) false,.int .i64 ((z0.1).Channel),.bool ((z0.1).Lead),.int .i64 ((z0.1).Heard),.bool ((z0.1).Stopped),.bool ((z0.1).Moving),.int .i64 ((z0.1).To),.int .i64 ((z0.1).At),.sl 1 2 0 (((z0.1).Blocked).length) false,.sl 2 1 0 (((z0.1).Clear).length) false],.sl 3 4 0 ((z0.2.1).length) false,.int .i64 (z0.2.2)]) [.row 35 3 (((z0.1).Table).length) (enR c_TRegulateChannel ((z0.1).Table)),.row 97 2 (((z0.1).Blocked).length) (enR zB ((z0.1).Blocked)),.row 3 1 (((z0.1).Clear).length) (enR yG ((z0.1).Clear)),.row 43 4 ((z0.2.1).length) (enR zR (z0.2.1))]) (gt (F14 (yJ (aL (roD (zH h []) v0))) (iA (roD (zH h []) v1))))
 | _,_=>.fail
theorem ok14:FnOk Tryz.prog 14 (edC body14):=by
 refine xO body14 (rs:=[.cell 4 30,.tmp 5,.tmp 6]) Tryz.func14 (by kernel_rfl) rfl rfl ?_
 intro l h bs ob q0 g0 hb hob
 unfold body14 at hb
 dsimp only at hb
 split at hb
 ·rename_i v0 v1
  injection hb with q1 q2 q3 q4;subst q1 q2 q3 q4
  obtain ⟨hk0_0,hk0_1,hk1_0,hk1_1,hob⟩:=hob
  obtain ⟨r,H⟩:=oE.1 hob
  rw [H,zN]
  have hw0:=tT hk0_0
  obtain ⟨p0,hp_p0⟩:∃ p0,p0=yJ (aL (roD (zH h []) v0)):=⟨_,rfl⟩
  rw [← hp_p0] at H hw0
  have hw1:=iK_wk hk1_0
  obtain ⟨p1,hp_p1⟩:∃ p1,p1=iA (roD (zH h []) v1):=⟨_,rfl⟩
  rw [← hp_p1] at H hw1
  refine ⟨[.agg [.ro 3 p0.Table.length false (enR c_TRegulateChannel p0.Table),.int .i64 p0.Channel,.bool p0.Lead,.int .i64 p0.Heard,.bool p0.Stopped,.bool p0.Moving,.int .i64 p0.To,.int .i64 p0.At,.ro 2 p0.Blocked.length false (enR zB p0.Blocked),.ro 1 p0.Clear.length false (enR yG p0.Clear)],.int .i64 p1],[],rfl,⟨(yR hk0_1 hw0),⟨(yR hk1_1 hw1),trivial⟩⟩,trivial,trivial,⟨(yY zI),⟨(yY zM),⟨(yY xL),⟨(yY yL),trivial⟩⟩⟩⟩,⟨zW,⟨zW,⟨zW,⟨zW,trivial⟩⟩⟩⟩,(by first|(simp only [noro,yK,and_self];done)|(simp only [noro,yK];and_intros<;>first|trivial|exact xX (by simp only [noro]) (by simp only [noro])|(simp only [noro,yK,and_self]))),?_⟩
  rw [Tryz.ntmps14]
  simp only [lC,lN,Nat.reduceAdd,Nat.reduceSub,rS,rZ,aC,aN]
  unfold F14 at H
  try dsimp only at H
  refine sq zA ?_
  simp only [go_sem,Nat.reduceAdd]
  refine zC ?_
  obtain ⟨r1,e2,H⟩:=bsi H
  refine rg ct14t0_ok ?_
  simp only [go_sem,Nat.reduceLT,Nat.reduceAdd,ct14t0_22,qE,e2]
  repeat ((with_reducible refine aI ?_ ?_);exact an0)
  refine wG (c:=r1.1.isSome) (fun hq3=>?_) (fun hq3=>?_)
  ·replace H:=zL hq3 H
   simp only [go_sem,Nat.reduceAdd,hq3,cond_true,rnm,dH,rnmC_en,fC]
   refine zC ?_
   refine sq zA ?_
   simp only [go_sem]
   refine zX rfl trivial (fun hc=>?_) (fun hc=>?_)
   ·have hk4:(bEq r1.2 0)=false:=by simpa using hc
    replace H:=zL hc H
    refine sq zA ?_
    simp only [go_sem,Nat.reduceLT,Nat.reduceAdd]
    repeat ((with_reducible refine aI ?_ ?_);exact an4)
    refine rg zA ?_
    simp only [go_sem,Nat.reduceLT,Nat.reduceAdd]
    obtain rfl:=Option.some.inj H
    refine yE [] [none,none,none,none] ?_ ?_ ?_ ?_ (by rfl) (by rfl)
    ·simp only [go_sem]
     try exact at0
    ·simp only [go_sem]
     try exact at0
    ·simp only [go_sem]
     exact cT
    ·simp only [go_sem,CvH]
     first|exact ⟨zQ,zQ,zQ,zQ⟩|trivial
   have hk4:(bEq r1.2 0)=true:=by simpa using hc
   replace H:=zK hc H
   refine rg zA ?_
   simp only [go_sem]
   refine zC ?_
   obtain ⟨r5,e6,H⟩:=bsi H
   refine rg ct14t1_ok ?_
   simp only [go_sem,Nat.reduceLeDiff,Nat.reduceLT,Nat.reduceAdd,ct14t1_31,eF,e6]
   repeat ((with_reducible refine aI ?_ ?_);exact an0)
   refine zC ?_
   refine xN ?_
   refine zC ?_
   refine xZ zU zA (by kernel_rfl) (by kernel_rfl) ?_
   simp only [go_sem,Nat.reduceLeDiff,Nat.reduceLT,Nat.reduceAdd]
   repeat ((with_reducible refine aI ?_ ?_);exact an4)
   refine condM' rfl trivial (fun hc=>?_) (fun hc=>?_)
   ·have hk7:((gt r1.1).Moving && (bLe ((gt r1.1).At) p1))=false:=by first|simpa using hc|simpa only [Bool.not_eq_true',Bool.not_eq_false'] using hc
    replace H:=zK hc H
    refine sq zA ?_
    simp only [go_sem,Nat.reduceLeDiff,Nat.reduceLT,Nat.reduceAdd]
    repeat ((with_reducible refine aI ?_ ?_);exact an4)
    refine condM' rfl trivial (fun hc=>?_) (fun hc=>?_)
    ·have hk9:((gt r1.1).Moving && (gt r1.1).Lead)=false:=by first|simpa using hc|simpa only [Bool.not_eq_true',Bool.not_eq_false'] using hc
     replace H:=zK hc H
     refine rg zA ?_
     simp only [go_sem]
     refine sq zA ?_
     simp only [go_sem,Nat.reduceLT,Nat.reduceAdd]
     repeat ((with_reducible refine aI ?_ ?_);exact an4)
     refine rg zA ?_
     simp only [go_sem,Nat.reduceLT,Nat.reduceAdd]
     obtain rfl:=Option.some.inj H
     refine yE [] [some 4,some 7,some 6,none] ?_ ?_ ?_ ?_ (by rfl) (by rfl)
     ·simp only [go_sem]
      try exact at0
     ·simp only [go_sem]
      try exact at0
     ·simp only [go_sem]
      exact cT
     ·simp only [go_sem,CvH]
      first|exact ⟨zJ zI cl (fun _ _ _ _=>rfl),zJ zM cl (fun _ _ _ _=>rfl),zJ xL cl (fun _ _ _ _=>rfl),zQ⟩|trivial
    have hk9:((gt r1.1).Moving && (gt r1.1).Lead)=true:=by first|simpa using hc|simpa only [Bool.not_eq_true',Bool.not_eq_false'] using hc
    replace H:=zL hc H
    obtain ⟨r10,e11,H⟩:=bsi H
    refine rg ct14t2_ok ?_
    simp only [go_sem,Nat.reduceLT,Nat.reduceAdd,ct14t2_33,qU,e11]
    repeat ((with_reducible refine aI ?_ ?_);exact an0)
    refine sq zA ?_
    simp only [go_sem,Nat.reduceLT,Nat.reduceAdd]
    repeat ((with_reducible refine aI ?_ ?_);exact an4)
    refine rg zA ?_
    simp only [go_sem,Nat.reduceLT,Nat.reduceAdd]
    obtain rfl:=Option.some.inj H
    refine yE [] [some 4,some 7,some 6,some 8] ?_ ?_ ?_ ?_ (by rfl) (by rfl)
    ·simp only [go_sem]
     try exact at0
    ·simp only [go_sem]
     try exact at0
    ·simp only [go_sem]
     exact cT
    ·simp only [go_sem,CvH]
     first|exact ⟨zJ zI cl (fun _ _ _ _=>rfl),zJ zM cl (fun _ _ _ _=>rfl),zJ xL cl (fun _ _ _ _=>rfl),zJ yL cl (fun _ _ _ _=>rfl)⟩|trivial
   have hk7:((gt r1.1).Moving && (bLe ((gt r1.1).At) p1))=true:=by first|simpa using hc|simpa only [Bool.not_eq_true',Bool.not_eq_false'] using hc
   replace H:=zL hc H
   refine sq zA ?_
   simp only [go_sem,Nat.reduceLeDiff,Nat.reduceLT,Nat.reduceAdd]
   repeat ((with_reducible refine aI ?_ ?_);exact an4)
   refine zC ?_
   refine sq zA ?_
   simp only [go_sem,Nat.reduceLeDiff,Nat.reduceLT,Nat.reduceAdd]
   repeat ((with_reducible refine aI ?_ ?_);exact an4)
   refine condM' rfl trivial (fun hc=>?_) (fun hc=>?_)
   ·have hk8:((gt r1.1).Lead)=true:=by simpa using hc
    replace H:=zK hc H
    refine rg zA ?_
    simp only [go_sem]
    refine rg zA ?_
    simp only [go_sem,Nat.reduceLeDiff,Nat.reduceAdd]
    repeat ((with_reducible refine aI ?_ ?_);exact an4)
    refine sq zA ?_
    simp only [go_sem,Nat.reduceLT,Nat.reduceAdd]
    repeat ((with_reducible refine aI ?_ ?_);exact an4)
    refine rg zA ?_
    simp only [go_sem,Nat.reduceLT,Nat.reduceAdd]
    obtain rfl:=Option.some.inj H
    refine yE [] [some 4,some 7,some 6,none] ?_ ?_ ?_ ?_ (by rfl) (by rfl)
    ·simp only [go_sem]
     try exact at0
    ·simp only [go_sem]
     try exact at0
    ·simp only [go_sem]
     exact cT
    ·simp only [go_sem,CvH]
     first|exact ⟨zJ zI cl (fun _ _ _ _=>rfl),zJ zM cl (fun _ _ _ _=>rfl),zJ xL cl (fun _ _ _ _=>rfl),zQ⟩|trivial
   have hk8:((gt r1.1).Lead)=false:=by simpa using hc
   replace H:=zL hc H
   refine rg zA ?_
   simp only [go_sem,Nat.reduceLeDiff,Nat.reduceLT,Nat.reduceAdd]
   repeat ((with_reducible refine aI ?_ ?_);exact an4)
   refine rg zA ?_
   simp only [go_sem,Nat.reduceLeDiff,Nat.reduceAdd]
   repeat ((with_reducible refine aI ?_ ?_);exact an4)
   refine sq zA ?_
   simp only [go_sem,Nat.reduceLT,Nat.reduceAdd]
   repeat ((with_reducible refine aI ?_ ?_);exact an4)
   refine rg zA ?_
   simp only [go_sem,Nat.reduceLT,Nat.reduceAdd]
   obtain rfl:=Option.some.inj H
   refine yE [] [some 4,some 7,some 6,none] ?_ ?_ ?_ ?_ (by rfl) (by rfl)
   ·simp only [go_sem]
    try exact at0
   ·simp only [go_sem]
    try exact at0
   ·simp only [go_sem]
    exact cT
   ·simp only [go_sem,CvH]
    first|exact ⟨zJ zI cl (fun _ _ _ _=>rfl),zJ zM cl (fun _ _ _ _=>rfl),zJ xL cl (fun _ _ _ _=>rfl),zQ⟩|trivial
  replace H:=zK hq3 H
  simp only [go_sem,hq3,cond_false]
  refine zC ?_
  refine sq zA ?_
  simp only [go_sem]
  refine condM' rfl trivial (fun hc=>?_) (fun hc=>?_)
  ·have hk12:(bEq r1.2 0)=true:=by simpa using hc
   replace H:=zK hc H
   refine rg zA ?_
   simp only [go_sem]
   refine zC ?_
   cases H
  have hk12:(bEq r1.2 0)=false:=by simpa using hc
  replace H:=zL hc H
  refine sq zA ?_
  simp only [go_sem,Nat.reduceLT,Nat.reduceAdd]
  repeat ((with_reducible refine aI ?_ ?_);exact an4)
  refine rg zA ?_
  simp only [go_sem,Nat.reduceLT,Nat.reduceAdd]
  obtain rfl:=Option.some.inj H
  refine yE [] [none,none,none,none] ?_ ?_ ?_ ?_ (by rfl) (by rfl)
  ·simp only [go_sem]
   try exact at0
  ·simp only [go_sem]
   try exact at0
  ·simp only [go_sem]
   exact cT
  ·simp only [go_sem,CvH]
   first|exact ⟨zQ,zQ,zQ,zQ⟩|trivial
 ·cases hb
end
end Go.Proofs.YtooepgpfaaddbaaGreat
