/-
  What BufferKeeps reaches.
-/
import Derived.Test.YtefiemaoacmdkaaY9p3
namespace Go.Proofs.Ytefiemaoacmdkaa
open Go.Am
set_option maxHeartbeats 4000000
set_option maxRecDepth 20000
set_option linter.unusedVariables false
set_option linter.unusedSimpArgs false
noncomputable def ct21t0:Ct:=tab [(18,yB wG)]
theorem ct21t0_ok:yY Try.prog ct21t0:=zP ok18 <| zW
theorem ct21t0_18 (l:List AV) (h:List ABlk):ct21t0 18 l h=yB wG l h:=rfl
noncomputable def ct21t1:Ct:=tab [(81,yB uF)]
theorem ct21t1_ok:yY Try.prog ct21t1:=zP ok81 <| zW
theorem ct21t1_81 (l:List AV) (h:List ABlk):ct21t1 81 l h=yB uF l h:=rfl
noncomputable def ct21t2:Ct:=tab [(65,xV vZ)]
theorem ct21t2_ok:yY Try.prog ct21t2:=zP ok65 <| zW
theorem ct21t2_65 (l:List AV) (h:List ABlk):ct21t2 65 l h=xV vZ l h:=rfl
noncomputable def ct21t3:Ct:=tab [(52,edC wZ),(53,xV uZ)]
theorem ct21t3_ok:yY Try.prog ct21t3:=zP ok52_0 <| zP ok53 <| zW
theorem ct21t3_52 (l:List AV) (h:List ABlk):ct21t3 52 l h=edC wZ l h:=rfl
theorem ct21t3_53 (l:List AV) (h:List ABlk):ct21t3 53 l h=xV uZ l h:=rfl
noncomputable def ct21t4:Ct:=tab [(47,yB tY)]
theorem ct21t4_ok:yY Try.prog ct21t4:=zP ok47 <| zW
theorem ct21t4_47 (l:List AV) (h:List ABlk):ct21t4 47 l h=yB tY l h:=rfl
noncomputable def ct21t5:Ct:=tab [(53,xV uZ)]
theorem ct21t5_ok:yY Try.prog ct21t5:=zP ok53 <| zW
theorem ct21t5_53 (l:List AV) (h:List ABlk):ct21t5 53 l h=xV uZ l h:=rfl
noncomputable def ct21t6:Ct:=tab [(52,edC wZ)]
theorem ct21t6_ok:yY Try.prog ct21t6:=zP ok52_0 <| zW
theorem ct21t6_52 (l:List AV) (h:List ABlk):ct21t6 52 l h=edC wZ l h:=rfl
noncomputable def ct21t7:Ct:=tab [(52,xV gB)]
theorem ct21t7_ok:yY Try.prog ct21t7:=zP ok52_1 <| zW
theorem ct21t7_52 (l:List AV) (h:List ABlk):ct21t7 52 l h=xV gB l h:=rfl
noncomputable def F21 (p0:TBuffer) (p1:Int):Option ((List TFrame) × TBuffer × Int) :=
 (F18 p0).bind fun r1=>bif (!bEq r1 0) then (some ([],(TBuffer.mk 0 0 [] []),r1)) else (bif ((bLt p1 1) || (bLt 255 p1)) then (some ([],(TBuffer.mk 0 0 [] []),2)) else ((F81 p0 p1).bind fun r5=>bif (!r5.2) then (some ([],(TBuffer.mk 0 0 [] []),6)) else ((F65 p0).bind fun r8=>need (inb r5.1 r8.List.length) <| (F53 ((gd r8.List r5.1.toNat).Held)).bind fun r11=>(fR r11).bind fun r13=>(some ((r8.List.set r5.1.toNat (TSleeper.mk ((gd r8.List r5.1.toNat).Aid) false ((gd r8.List r5.1.toNat).Held))).set r5.1.toNat (TSleeper.mk ((gd (r8.List.set r5.1.toNat (TSleeper.mk ((gd r8.List r5.1.toNat).Aid) false ((gd r8.List r5.1.toNat).Held))) r5.1.toNat).Aid) ((gd (r8.List.set r5.1.toNat (TSleeper.mk ((gd r8.List r5.1.toNat).Aid) false ((gd r8.List r5.1.toNat).Held))) r5.1.toNat).Asleep) []))).bind fun w15=>(F47 (TBuffer.mk r8.Limit r8.Stay w15 r8.Group)).bind fun r17=>bif (!r17) then ((F53 r8.Group).bind fun r20=>(fR r20).bind fun r22=>need (capb 104 (r13.length+r22.length)) <| some ((r13 ++ r22),(TBuffer.mk r8.Limit r8.Stay w15 []),0)) else ((F52_1).bind fun r25=>need (capb 104 (r13.length+r25.length)) <| some ((r13 ++ r25),(TBuffer.mk r8.Limit r8.Stay w15 r8.Group),0)))))
noncomputable def body21:List AV->Nat->AR
 | [v0,v1],_=>.pure (aK 4 xQ v0/\iK .i64 v1/\(F21 (g_TBuffer (aL v0)) (iA v1)).isSome=true) (.tup [.ro 41 (((gt (F21 (g_TBuffer (aL v0)) (iA v1))).1).length) false (enR zK ((gt (F21 (g_TBuffer (aL v0)) (iA v1))).1)),.agg [.int .i64 (((gt (F21 (g_TBuffer (aL v0)) (iA v1))).2.1).Limit),.int .i64 (((gt (F21 (g_TBuffer (aL v0)) (iA v1))).2.1).Stay),.ro 3 ((((gt (F21 (g_TBuffer (aL v0)) (iA v1))).2.1).List).length) false (enR zD (((gt (F21 (g_TBuffer (aL v0)) (iA v1))).2.1).List)),.ro 43 ((((gt (F21 (g_TBuffer (aL v0)) (iA v1))).2.1).Group).length) false (enR zE (((gt (F21 (g_TBuffer (aL v0)) (iA v1))).2.1).Group))],.int .i64 ((gt (F21 (g_TBuffer (aL v0)) (iA v1))).2.2)])
 | _,_=>.fail
theorem ok21:wJ Try.prog 21 (xV body21):=by
 refine uW body21 (rs:=[.tmp 4,.cell 5 25,.tmp 6]) Try.func21 (by kernel_rfl) rfl rfl ?_
 intro l s ob v ns hb hob
 rcases hb with ⟨hb,rfl⟩|hb
 ·unfold body21 at hb
  split at hb
  ·rename_i v0 v1
   injection hb with q1 q2;subst q1 q2
   obtain ⟨hk0_0,hk1_0,hob⟩:=hob
   obtain ⟨r,H⟩:=oE.1 hob
   rw [H,yN]
   have hw0:=wB hk0_0
   have hw1:=yK hk1_0
   generalize g_TBuffer (aL v0)=p0 at H hw0
   generalize iA v1=p1 at H hw1
   refine ⟨[.agg [.int .i64 p0.Limit,.int .i64 p0.Stay,.ro 3 p0.List.length false (enR zD p0.List),.ro 43 p0.Group.length false (enR zE p0.Group)],.int .i64 p1],.tup [.ro 41 r.1.length false (enR zK r.1),.agg [.int .i64 r.2.1.Limit,.int .i64 r.2.1.Stay,.ro 3 r.2.1.List.length false (enR zD r.2.1.List),.ro 43 r.2.1.Group.length false (enR zE r.2.1.Group)],.int .i64 r.2.2],[],(fun E vs F=>yM hw0.1 F (fun vs F=>yM hw1.1 F (fun vs F=>F))),by simp only [ren,uS],trivial,?_⟩
   rw [Try.ntmps21]
   simp only [lC,lN,Nat.reduceAdd,Nat.reduceSub,rS,rZ,aC,aN]
   unfold F21 at H
   try dsimp only at H
   refine sq zA ?_
   simp only [go_sem]
   refine zM ?_
   refine qT ?_
   refine xT zT zA 2 ?_
   simp only [zO,tS,tZ,dS,dZ,go_sem,Nat.reduceLT,Nat.reduceAdd]
   repeat ((with_reducible refine aI ?_ ?_);exact an0)
   refine gR (rs:=[.tmp 4,.tmp 5,.tmp 6]) Try.func51 (by kernel_rfl) rfl rfl Try.ntmps51 (caps:=[]) (tc:=[.agg [.int .i64 p0.Limit,.int .i64 p0.Stay,.ro 3 p0.List.length false (enR zD p0.List),.ro 43 p0.Group.length false (enR zE p0.Group)],.int .i64 p1]) rfl (by simp only [go_sem]) rfl ?_
   simp only [lC,lN,Nat.reduceAdd,Nat.reduceSub,rS,rZ,aC,aN]
   refine sq zA ?_
   simp only [go_sem,Nat.reduceAdd]
   refine zM ?_
   refine zM ?_
   obtain ⟨r1,e2,H⟩:=bsi H
   refine rg ct21t0_ok ?_
   simp only [go_sem,Nat.reduceLT,Nat.reduceAdd,ct21t0_18,wG,e2]
   repeat ((with_reducible refine aI ?_ ?_);exact an0)
   refine sq zA ?_
   simp only [go_sem]
   refine yO rfl trivial (fun hc=>?_) (fun hc=>?_)
   ·have hk3:(bEq r1 0)=false:=by simpa using hc
    replace H:=yA hc H
    refine sq zA ?_
    simp only [go_sem]
    refine rg zA ?_
    simp only [go_sem]
    refine xT zT zA 7 ?_
    simp only [zO,tS,tZ,dS,dZ,go_sem,Nat.reduceLT,Nat.reduceAdd]
    repeat ((with_reducible refine aI ?_ ?_);exact an0)
    refine wT ?_
    refine zM ?_
    refine sq zA ?_
    simp only [go_sem]
    refine yO rfl trivial (fun hc=>?_) (fun hc=>?_)
    rotate_left
    ·simp [hk3] at hc
    refine sq zA ?_
    simp only [go_sem,Nat.reduceAdd]
    repeat ((with_reducible refine aI ?_ ?_);exact an5)
    refine rg zA ?_
    simp only [go_sem,Nat.reduceLT,Nat.reduceAdd]
    obtain rfl:=Option.some.inj H
    refine ⟨[0,1,2],?_,?_,[],?_,?_,rfl⟩
    ·simp only [go_sem]
     try exact at0
    ·simp only [go_sem]
     try exact at0
    ·simp only [go_sem]
     exact yZ (zC (zL (α:=TFrame)) (zC (yV (zC zG (zC zG (zC (zL (α:=TSleeper)) (zC (zL (α:=TStored)) zQ))))) (zC zG zQ)))
    ·simp only [go_sem,CvH]
   have hk3:(bEq r1 0)=true:=by simpa using hc
   replace H:=zZ hc H
   refine rg zA ?_
   simp only [go_sem]
   refine zM ?_
   refine sq zA ?_
   simp only [go_sem]
   repeat ((with_reducible refine aI ?_ ?_);exact an5)
   refine yO rfl trivial (fun hc=>?_) (fun hc=>?_)
   ·have hk4:((bLt p1 1) || (bLt 255 p1))=true:=by simpa using hc
    replace H:=yA hc H
    refine sq zA ?_
    simp only [go_sem]
    refine rg zA ?_
    simp only [go_sem]
    refine xT zT zA 7 ?_
    simp only [zO,tS,tZ,dS,dZ,go_sem,Nat.reduceLT,Nat.reduceAdd]
    repeat ((with_reducible refine aI ?_ ?_);exact an0)
    refine wT ?_
    refine zM ?_
    refine sq zA ?_
    simp only [go_sem,(by decide:bEq (2) (0)=false)]
    refine yO rfl trivial (fun hc=>?_) (fun hc=>?_)
    rotate_left
    ·cases hc
    refine sq zA ?_
    simp only [go_sem,Nat.reduceAdd]
    repeat ((with_reducible refine aI ?_ ?_);exact an5)
    refine rg zA ?_
    simp only [go_sem,Nat.reduceLT,Nat.reduceAdd]
    obtain rfl:=Option.some.inj H
    refine ⟨[0,1,2],?_,?_,[],?_,?_,rfl⟩
    ·simp only [go_sem]
     try exact at0
    ·simp only [go_sem]
     try exact at0
    ·simp only [go_sem]
     exact yZ (zC (zL (α:=TFrame)) (zC (yV (zC zG (zC zG (zC (zL (α:=TSleeper)) (zC (zL (α:=TStored)) zQ))))) (zC zG zQ)))
    ·simp only [go_sem,CvH]
   have hk4:((bLt p1 1) || (bLt 255 p1))=false:=by simpa using hc
   replace H:=zZ hc H
   refine rg zA ?_
   simp only [go_sem]
   refine zM ?_
   obtain ⟨r5,e6,H⟩:=bsi H
   refine rg ct21t1_ok ?_
   simp only [go_sem,Nat.reduceLT,Nat.reduceAdd,ct21t1_81,uF,e6]
   repeat ((with_reducible refine aI ?_ ?_);exact an0)
   refine zM ?_
   refine sq zA ?_
   simp only [go_sem]
   refine yO rfl trivial (fun hc=>?_) (fun hc=>?_)
   ·have hk7:(r5.2)=false:=by simpa using hc
    replace H:=yA hc H
    refine sq zA ?_
    simp only [go_sem]
    refine rg zA ?_
    simp only [go_sem]
    refine xT zT zA 7 ?_
    simp only [zO,tS,tZ,dS,dZ,go_sem,Nat.reduceLT,Nat.reduceAdd]
    repeat ((with_reducible refine aI ?_ ?_);exact an0)
    refine wT ?_
    refine zM ?_
    refine sq zA ?_
    simp only [go_sem,(by decide:bEq (6) (0)=false)]
    refine yO rfl trivial (fun hc=>?_) (fun hc=>?_)
    rotate_left
    ·cases hc
    refine sq zA ?_
    simp only [go_sem,Nat.reduceAdd]
    repeat ((with_reducible refine aI ?_ ?_);exact an5)
    refine rg zA ?_
    simp only [go_sem,Nat.reduceLT,Nat.reduceAdd]
    obtain rfl:=Option.some.inj H
    refine ⟨[0,1,2],?_,?_,[],?_,?_,rfl⟩
    ·simp only [go_sem]
     try exact at0
    ·simp only [go_sem]
     try exact at0
    ·simp only [go_sem]
     exact yZ (zC (zL (α:=TFrame)) (zC (yV (zC zG (zC zG (zC (zL (α:=TSleeper)) (zC (zL (α:=TStored)) zQ))))) (zC zG zQ)))
    ·simp only [go_sem,CvH]
   have hk7:(r5.2)=true:=by simpa using hc
   replace H:=zZ hc H
   refine rg zA ?_
   simp only [go_sem]
   refine zM ?_
   obtain ⟨r8,e9,H⟩:=bsi H
   refine rg ct21t2_ok ?_
   simp only [go_sem,Nat.reduceLT,Nat.reduceAdd,ct21t2_65,vZ,e9]
   repeat ((with_reducible refine aI ?_ ?_);exact an0)
   refine zM ?_
   obtain ⟨f10,H⟩:=nI H
   refine wW zT zA (by kernel_rfl) (by kernel_rfl) ?_
   simp only [go_sem,Nat.reduceLeDiff,Nat.reduceLT,Nat.reduceAdd,f10]
   repeat ((with_reducible refine aI ?_ ?_);exact an5)
   refine rg zA ?_
   simp only [go_sem]
   refine xT zT zA 7 ?_
   simp only [zO,tS,tZ,dS,dZ,go_sem,Nat.reduceLT,Nat.reduceAdd]
   repeat ((with_reducible refine aI ?_ ?_);exact an0)
   refine wT ?_
   refine zM ?_
   refine sq zA ?_
   simp only [go_sem,(by decide:bEq (0) (0)=true)]
   refine yO rfl trivial (fun hc=>?_) (fun hc=>?_)
   ·cases hc
   refine rg zA ?_
   simp only [go_sem]
   refine zM ?_
   obtain ⟨r11,e12,H⟩:=bsi H
   obtain ⟨r13,e14,H⟩:=bsi H
   refine rg ct21t3_ok ?_
   simp only [go_sem,Nat.reduceLT,Nat.reduceAdd,ct21t3_52,wZ,ct21t3_53,uZ,e12,e14]
   repeat ((with_reducible refine aI ?_ ?_);exact an0)
   refine sq zA ?_
   simp only [go_sem,Nat.reduceLeDiff,Nat.reduceAdd]
   repeat ((with_reducible refine aI ?_ ?_);exact an5)
   refine zM ?_
   obtain ⟨w15,hw16,H⟩:=bsj H
   have lhw16:w15.length=r8.List.length:=by rw [← hw16];exact (by simp only [List.length_set])
   refine vP (t2:=(tp 4 (.sl 6 41 0 r13.length false::.ptr 1 0 0 0::.top::.ptr 2 0 0 0::tp 33 []))) (h2:=[.lit 25 [.int .i64 p0.Limit,.int .i64 p0.Stay,.ro 3 p0.List.length false (enR zD p0.List),.ro 43 p0.Group.length false (enR zE p0.Group)],.lit 25 [.int .i64 0,.int .i64 0,.ro 0 0 true (fun _ _=>.top),.ro 0 0 true (fun _ _=>.top)],.lit 25 [.int .i64 r8.Limit,.int .i64 r8.Stay,.sl 3 3 0 w15.length false,.sl 4 43 0 r8.Group.length false],.row 57 3 w15.length (enR zD w15),.row 61 43 r8.Group.length (enR zE r8.Group),.dead,.row 33 41 r13.length (enR zK r13)]) ?_ ?_
   ·refine zU ⟨[some 0,some 1,some 2,some 3,some 4,some 5,some 6],?_,?_,by rfl,by rfl⟩
    ·simp [CvL,Cv,zX,tp]
    ·exact ⟨(by simp [CvB,CvL,Cv,xG,geth]),(by simp [CvB,CvL,Cv,xG,geth]),(by simp [CvB,CvL,Cv,xG,geth,zX,lhw16]),CvB_rowW lhw16 (hw16 ▸ (upc_rowW (f:=zD) (r8.List.set r5.1.toNat (TSleeper.mk ((gd r8.List r5.1.toNat).Aid) false ((gd r8.List r5.1.toNat).Held))) r5.1.toNat 2 (TSleeper.mk ((gd (r8.List.set r5.1.toNat (TSleeper.mk ((gd r8.List r5.1.toNat).Aid) false ((gd r8.List r5.1.toNat).Held))) r5.1.toNat).Aid) ((gd (r8.List.set r5.1.toNat (TSleeper.mk ((gd r8.List r5.1.toNat).Aid) false ((gd r8.List r5.1.toNat).Held))) r5.1.toNat).Asleep) []) (wk_eq zH (fC (f:=zD) r8.List r5.1.toNat 1 (TSleeper.mk ((gd r8.List r5.1.toNat).Aid) false ((gd r8.List r5.1.toNat).Held)) (fun _ _ _ _=>rfl) (fun y hy=>match y,hy with|0,_=>rfl|1,_=>rfl|2,_=>rfl|(y+3),h=>absurd h (by omega)))) (fun y hy μ=>match y,hy with|0,_=>by simp [zD,zN]|1,_=>by simp [zD,zN]|2,_=>by simp [zD,zN,Cv]|(y+3),h=>absurd h (by omega)))),zY zV rfl (fun _ _ _ _=>rfl),zI,zY xE rfl (fun _ _ _ _=>rfl),trivial⟩
   simp only [tp]
   refine qT ?_
   refine xT zT zA 2 ?_
   simp only [zO,tS,tZ,dS,dZ,go_sem]
   repeat ((with_reducible refine aI ?_ ?_);exact an0)
   refine gR (rs:=[.tmp 2]) Try.func54 (by kernel_rfl) rfl rfl Try.ntmps54 (caps:=[]) (tc:=[.ptr 2 0 0 0]) rfl (by simp only [go_sem]) rfl ?_
   simp only [lC,lN,Nat.reduceAdd,Nat.reduceSub,rS,rZ,aC,aN]
   refine sq zA ?_
   simp only [go_sem]
   refine zM ?_
   refine zM ?_
   obtain ⟨r17,e18,H⟩:=bsi H
   refine rg ct21t4_ok ?_
   simp only [go_sem,Nat.reduceLT,Nat.reduceAdd,ct21t4_47,tY,e18]
   repeat ((with_reducible refine aI ?_ ?_);exact an0)
   refine condM' rfl trivial (fun hc=>?_) (fun hc=>?_)
   ·have hk19:(r17)=true:=by simpa using hc
    replace H:=zZ hc H
    refine rg zA ?_
    simp only [go_sem]
    refine sq zA ?_
    simp only [go_sem]
    refine rg zA ?_
    simp only [go_sem]
    obtain ⟨r25,e26,H⟩:=bsi H
    obtain ⟨f27,H⟩:=nC H
    refine xT zT ct21t7_ok 3 ?_
    simp only [zO,tS,tZ,dS,dZ,go_sem,Nat.reduceLeDiff,Nat.reduceAdd,ct21t7_52,gB,e26,f27]
    repeat ((with_reducible refine aI ?_ ?_);exact an1)
    refine wT ?_
    refine zM ?_
    refine yQ zT zA 0 (by kernel_rfl) (by kernel_rfl) ?_
    intro an han
    simp only [wO,xU,vM,xrD,xoD,vN,wY,List.append_nil,xC,refs,mask,wE,place,xI,wF,xN,hit,inL,xD,nrH,nrB,nrL,nr,rZ,Nat.sub_self,Nat.add_zero,Nat.zero_add,Nat.reduceSub,Nat.lt_add_one,go_sem,Nat.reduceLeDiff,Nat.reduceLT,Nat.reduceAdd,Nat.reduceSub,Nat.reduceBEq]
    repeat ((with_reducible refine aI ?_ ?_);exact an2)
    refine rg zA ?_
    simp only [go_sem,Nat.reduceLT,Nat.reduceAdd]
    obtain rfl:=Option.some.inj H
    refine ⟨[8,3,4,0,1,2],?_,?_,[],?_,?_,rfl⟩
    ·simp only [go_sem,Nat.reduceBEq]
     try exact at0
    ·simp only [go_sem,Nat.reduceBEq]
     try exact at0
    ·simp only [go_sem,Nat.reduceBEq]
     exact yZ (zC (xO (by first|rfl|simp) (vU (f:=zK) r13 r25 (fun _ _ _ _=>rfl) (fun _ _ _ _=>rfl))) (zC (yV (zC zG (zC zG (zC (xO (by first|rfl|simp) (fun _ _ _ _=>rfl)) (zC (xO (by first|rfl|simp) (fun _ _ _ _=>rfl)) zQ))))) (zC zG zQ)))
    ·simp only [go_sem,CvH]
   have hk19:(r17)=false:=by simpa using hc
   replace H:=yA hc H
   refine jJ [4] ?_ ?_
   ·simp only [go_sem,Nat.reduceBEq]
    try exact at0
   simp only [go_sem,Nat.reduceBEq,Nat.reduceAdd]
   obtain ⟨r20,e21,H⟩:=bsi H
   refine rg ct21t5_ok ?_
   simp only [go_sem,Nat.reduceLT,Nat.reduceAdd,ct21t5_53,uZ,e21]
   repeat ((with_reducible refine aI ?_ ?_);exact an0)
   refine sq zA ?_
   simp only [go_sem]
   refine rg zA ?_
   simp only [go_sem]
   obtain ⟨r22,e23,H⟩:=bsi H
   obtain ⟨f24,H⟩:=nC H
   refine xT zT ct21t6_ok 3 ?_
   simp only [zO,tS,tZ,dS,dZ,go_sem,Nat.reduceLeDiff,Nat.reduceAdd,ct21t6_52,wZ,e23,f24]
   repeat ((with_reducible refine aI ?_ ?_);exact an1)
   refine wT ?_
   refine zM ?_
   refine yQ zT zA 0 (by kernel_rfl) (by kernel_rfl) ?_
   intro an han
   simp only [wO,xU,vM,xrD,xoD,vN,wY,List.append_nil,xC,refs,mask,wE,place,xI,wF,xN,hit,inL,xD,nrH,nrB,nrL,nr,rZ,Nat.sub_self,Nat.add_zero,Nat.zero_add,Nat.reduceSub,Nat.lt_add_one,go_sem,Nat.reduceLeDiff,Nat.reduceLT,Nat.reduceAdd,Nat.reduceSub,Nat.reduceBEq]
   repeat ((with_reducible refine aI ?_ ?_);exact an2)
   refine rg zA ?_
   simp only [go_sem,Nat.reduceLT,Nat.reduceAdd]
   obtain rfl:=Option.some.inj H
   refine ⟨[9,3,0,1,2],?_,?_,[],?_,?_,rfl⟩
   ·simp only [go_sem,Nat.reduceBEq]
    try exact at0
   ·simp only [go_sem,Nat.reduceBEq]
    try exact at0
   ·simp only [go_sem,Nat.reduceBEq]
    exact yZ (zC (xO (by first|rfl|simp) (vU (f:=zK) r13 r22 (fun _ _ _ _=>rfl) (fun _ _ _ _=>rfl))) (zC (yV (zC zG (zC zG (zC (xO (by first|rfl|simp) (fun _ _ _ _=>rfl)) (zC (zL (α:=TStored)) zQ))))) (zC zG zQ)))
   ·simp only [go_sem,CvH]
  ·cases hb
 ·unfold body21 at hb
  split at hb<;>cases hb
noncomputable def ct41t0:Ct:=tab [(18,yB wG)]
theorem ct41t0_ok:yY Try.prog ct41t0:=zP ok18 <| zW
theorem ct41t0_18 (l:List AV) (h:List ABlk):ct41t0 18 l h=yB wG l h:=rfl
noncomputable def ct41t1:Ct:=tab [(61,yB qA)]
theorem ct41t1_ok:yY Try.prog ct41t1:=zP ok61 <| zW
theorem ct41t1_61 (l:List AV) (h:List ABlk):ct41t1 61 l h=yB qA l h:=rfl
noncomputable def ct41t2:Ct:=tab [(62,yB dB)]
theorem ct41t2_ok:yY Try.prog ct41t2:=zP ok62 <| zW
theorem ct41t2_62 (l:List AV) (h:List ABlk):ct41t2 62 l h=yB dB l h:=rfl
noncomputable def ct41t3:Ct:=tab [(63,edC qB),(65,xV vZ)]
theorem ct41t3_ok:yY Try.prog ct41t3:=zP ok63 <| zP ok65 <| zW
theorem ct41t3_63 (l:List AV) (h:List ABlk):ct41t3 63 l h=edC qB l h:=rfl
theorem ct41t3_65 (l:List AV) (h:List ABlk):ct41t3 65 l h=xV vZ l h:=rfl
noncomputable def ct41t4:Ct:=tab [(47,yB tY)]
theorem ct41t4_ok:yY Try.prog ct41t4:=zP ok47 <| zW
theorem ct41t4_47 (l:List AV) (h:List ABlk):ct41t4 47 l h=yB tY l h:=rfl
noncomputable def ct41t5:Ct:=tab [(90,yB dC)]
theorem ct41t5_ok:yY Try.prog ct41t5:=zP ok90 <| zW
theorem ct41t5_90 (l:List AV) (h:List ABlk):ct41t5 90 l h=yB dC l h:=rfl
noncomputable def ct41t6:Ct:=tab [(58,yB qK)]
theorem ct41t6_ok:yY Try.prog ct41t6:=zP ok58_0 <| zW
theorem ct41t6_58 (l:List AV) (h:List ABlk):ct41t6 58 l h=yB qK l h:=rfl
noncomputable def ct41t7:Ct:=tab [(60,delN 61 43)]
theorem ct41t7_ok:yY Try.prog ct41t7:=zP ok60 <| zW
theorem ct41t7_60 (l:List AV) (h:List ABlk):ct41t7 60 l h=delN 61 43 l h:=rfl
noncomputable def ct41t8:Ct:=tab [(52,edC wZ)]
theorem ct41t8_ok:yY Try.prog ct41t8:=zP ok52_0 <| zW
theorem ct41t8_52 (l:List AV) (h:List ABlk):ct41t8 52 l h=edC wZ l h:=rfl
noncomputable def F41_L1 (r10:TBuffer) (v1_1:Int) (v1_2:TStored):Option (Lp (Int × TStored) ((TStored) ⊕ ((List TFrame) × (List TFrame) × TBuffer × Int))) :=
 bif (bLt v1_1 (r10.Group.length:Nat)) then (need (inb v1_1 r10.Group.length) <| (F90 (TStored.mk ((gd r10.Group v1_1.toNat).Cat) ((gd r10.Group v1_1.toNat).At) (eF ((gd r10.Group v1_1.toNat).Frame))) v1_2).bind fun r22=>bif (bLt r22 0) then (need (inb v1_1 r10.Group.length) <| some (.next (wr .i64 (v1_1+1),(TStored.mk ((gd r10.Group v1_1.toNat).Cat) ((gd r10.Group v1_1.toNat).At) (eF ((gd r10.Group v1_1.toNat).Frame)))))) else (some (.next (wr .i64 (v1_1+1),v1_2)))) else (some (.done (.inl v1_2)))
noncomputable def F41 (p0:TBuffer) (p1:TFrame) (p2:Int):Option ((List TFrame) × (List TFrame) × TBuffer × Int) :=
 (F18 p0).bind fun r1=>bif (!bEq r1 0) then (some ([],[],(TBuffer.mk 0 0 [] []),r1)) else ((F61 p2).bind fun r4=>bif (!r4) then (some ([],[],(TBuffer.mk 0 0 [] []),2)) else ((F62 p0.Group p2).bind fun r7=>bif r7 then (some ([],[],(TBuffer.mk 0 0 [] []),20)) else ((F65 p0).bind fun r10=>(F63 p1).bind fun r12=>(F47 (TBuffer.mk r10.Limit r10.Stay r10.List r10.Group)).bind fun r14=>bif r14 then (bif (bEq (r10.Group.length:Nat) r10.Limit) then (bif (bLt (r10.Group.length:Nat) 1) then (none) else (need (inb 0 r10.Group.length) <| lp (xH (fun s=>F41_L1 r10 s.1 s.2) (1,(TStored.mk ((gd r10.Group 0).Cat) ((gd r10.Group 0).At) (eF ((gd r10.Group 0).Frame))))) (fun w1_6=>bif (bLt 0 w1_6.Cat) then (some ([],[r12],(TBuffer.mk r10.Limit r10.Stay r10.List r10.Group),0)) else ((F58_0 r10.Group w1_6.Cat).bind fun r27=>need (inb r27 r10.Group.length) <| need (delb r27 (wr .i64 (r27+1)) r10.Group.length) <| (some [(eF ((gd r10.Group r27.toNat).Frame))]).bind fun w31=>(some (eA r10.Group r27 (wr .i64 (r27+1)))).bind fun w33=>need (capb 120 (w33.length+1)) <| some ([],w31,(TBuffer.mk r10.Limit r10.Stay r10.List (w33 ++ [(TStored.mk 0 p2 (eF r12))])),0))) some)) else (need (capb 120 (r10.Group.length+1)) <| some ([],[],(TBuffer.mk r10.Limit r10.Stay r10.List (r10.Group ++ [(TStored.mk 0 p2 (eF r12))])),0))) else ((fR [r12]).bind fun r37=>some (r37,[],(TBuffer.mk r10.Limit r10.Stay r10.List r10.Group),0)))))
noncomputable def body41:List AV->Nat->AR
 | [v0,v1,v2],_=>.pure (aK 4 xQ v0/\aK 41 vE v1/\iK .i64 v2/\(F41 (g_TBuffer (aL v0)) (zS (aL v1)) (iA v2)).isSome=true) (.tup [.ro 41 (((gt (F41 (g_TBuffer (aL v0)) (zS (aL v1)) (iA v2))).1).length) false (enR zK ((gt (F41 (g_TBuffer (aL v0)) (zS (aL v1)) (iA v2))).1)),.ro 41 (((gt (F41 (g_TBuffer (aL v0)) (zS (aL v1)) (iA v2))).2.1).length) false (enR zK ((gt (F41 (g_TBuffer (aL v0)) (zS (aL v1)) (iA v2))).2.1)),.agg [.int .i64 (((gt (F41 (g_TBuffer (aL v0)) (zS (aL v1)) (iA v2))).2.2.1).Limit),.int .i64 (((gt (F41 (g_TBuffer (aL v0)) (zS (aL v1)) (iA v2))).2.2.1).Stay),.ro 3 ((((gt (F41 (g_TBuffer (aL v0)) (zS (aL v1)) (iA v2))).2.2.1).List).length) false (enR zD (((gt (F41 (g_TBuffer (aL v0)) (zS (aL v1)) (iA v2))).2.2.1).List)),.ro 43 ((((gt (F41 (g_TBuffer (aL v0)) (zS (aL v1)) (iA v2))).2.2.1).Group).length) false (enR zE (((gt (F41 (g_TBuffer (aL v0)) (zS (aL v1)) (iA v2))).2.2.1).Group))],.int .i64 ((gt (F41 (g_TBuffer (aL v0)) (zS (aL v1)) (iA v2))).2.2.2)])
 | _,_=>.fail
theorem ok41:wJ Try.prog 41 (xV body41):=by
 refine uW body41 (rs:=[.tmp 6,.tmp 7,.cell 8 25,.tmp 9]) Try.func41 (by kernel_rfl) rfl rfl ?_
 intro l s ob v ns hb hob
 rcases hb with ⟨hb,rfl⟩|hb
 ·unfold body41 at hb
  split at hb
  ·rename_i v0 v1 v2
   injection hb with q1 q2;subst q1 q2
   obtain ⟨hk0_0,hk1_0,hk2_0,hob⟩:=hob
   obtain ⟨r,H⟩:=oE.1 hob
   rw [H,yN]
   have hw0:=wB hk0_0
   have hw1:=qI hk1_0
   have hw2:=yK hk2_0
   generalize g_TBuffer (aL v0)=p0 at H hw0
   generalize zS (aL v1)=p1 at H hw1
   generalize iA v2=p2 at H hw2
   refine ⟨[.agg [.int .i64 p0.Limit,.int .i64 p0.Stay,.ro 3 p0.List.length false (enR zD p0.List),.ro 43 p0.Group.length false (enR zE p0.Group)],.agg (.int .u8 p1.Head.Kind::.int .u8 p1.Head.Sub::.bool p1.Head.ToDs::.bool p1.Head.FromDs::.bool p1.Head.More::.bool p1.Head.Retry::.bool p1.Head.Sleep::.bool p1.Head.MoreData::.bool p1.Head.Protected::.int .i64 p1.Head.Duration::.int .u8 p1.Head.A1.x0::.int .u8 p1.Head.A1.x1::.int .u8 p1.Head.A1.x2::.int .u8 p1.Head.A1.x3::.int .u8 p1.Head.A1.x4::.int .u8 p1.Head.A1.x5::.int .u8 p1.Head.A2.x0::.int .u8 p1.Head.A2.x1::.int .u8 p1.Head.A2.x2::.int .u8 p1.Head.A2.x3::.int .u8 p1.Head.A2.x4::.int .u8 p1.Head.A2.x5::.int .u8 p1.Head.A3.x0::.int .u8 p1.Head.A3.x1::.int .u8 p1.Head.A3.x2::.int .u8 p1.Head.A3.x3::.int .u8 p1.Head.A3.x4::.int .u8 p1.Head.A3.x5::.int .u8 p1.Head.A4.x0::.int .u8 p1.Head.A4.x1::.int .u8 p1.Head.A4.x2::.int .u8 p1.Head.A4.x3::.int .u8 p1.Head.A4.x4::.int .u8 p1.Head.A4.x5::.int .i64 p1.Head.Seq::.int .i64 p1.Head.Frag::.int .i64 p1.Head.Tid::.int .u8 p1.Head.Ack::.bool p1.Head.Amsdu::.bool p1.Head.Eosp::.ro 1 p1.Body.length false (enR xJ p1.Body)::[]),.int .i64 p2],.tup [.ro 41 r.1.length false (enR zK r.1),.ro 41 r.2.1.length false (enR zK r.2.1),.agg [.int .i64 r.2.2.1.Limit,.int .i64 r.2.2.1.Stay,.ro 3 r.2.2.1.List.length false (enR zD r.2.2.1.List),.ro 43 r.2.2.1.Group.length false (enR zE r.2.2.1.Group)],.int .i64 r.2.2.2],[],(fun E vs F=>yM hw0.1 F (fun vs F=>yM hw1.1 F (fun vs F=>yM hw2.1 F (fun vs F=>F)))),by simp only [ren,uS],trivial,?_⟩
   rw [Try.ntmps41]
   simp only [lC,lN,Nat.reduceAdd,Nat.reduceSub,rS,rZ,aC,aN]
   unfold F41 at H
   delta eF at H
   try dsimp only at H
   refine sq zA ?_
   simp only [go_sem,Nat.reduceAdd]
   refine zM ?_
   refine zM ?_
   obtain ⟨r1,e2,H⟩:=bsi H
   refine rg ct41t0_ok ?_
   simp only [go_sem,Nat.reduceLT,Nat.reduceAdd,ct41t0_18,wG,e2]
   repeat ((with_reducible refine aI ?_ ?_);exact an0)
   refine wN ?_
   refine sq zA ?_
   simp only [go_sem]
   refine yO rfl trivial (fun hc=>?_) (fun hc=>?_)
   ·have hk3:(bEq r1 0)=false:=by simpa using hc
    replace H:=yA hc H
    refine sq zA ?_
    simp only [go_sem,Nat.reduceAdd]
    repeat ((with_reducible refine aI ?_ ?_);exact an5)
    refine rg zA ?_
    simp only [go_sem,Nat.reduceLT,Nat.reduceAdd]
    obtain rfl:=Option.some.inj H
    refine ⟨[0,1,2],?_,?_,[],?_,?_,rfl⟩
    ·simp only [go_sem]
     try exact at0
    ·simp only [go_sem]
     try exact at0
    ·simp only [go_sem]
     exact yZ (zC (zL (α:=TFrame)) (zC (zL (α:=TFrame)) (zC (yV (zC zG (zC zG (zC (zL (α:=TSleeper)) (zC (zL (α:=TStored)) zQ))))) (zC zG zQ))))
    ·simp only [go_sem,CvH]
   have hk3:(bEq r1 0)=true:=by simpa using hc
   replace H:=zZ hc H
   refine zM ?_
   obtain ⟨r4,e5,H⟩:=bsi H
   refine rg ct41t1_ok ?_
   simp only [go_sem,ct41t1_61,qA,e5]
   repeat ((with_reducible refine aI ?_ ?_);exact an0)
   refine yO rfl trivial (fun hc=>?_) (fun hc=>?_)
   ·have hk6:(r4)=false:=by simpa using hc
    replace H:=yA hc H
    refine sq zA ?_
    simp only [go_sem,Nat.reduceAdd]
    repeat ((with_reducible refine aI ?_ ?_);exact an5)
    refine rg zA ?_
    simp only [go_sem,Nat.reduceLT,Nat.reduceAdd]
    obtain rfl:=Option.some.inj H
    refine ⟨[0,1,2],?_,?_,[],?_,?_,rfl⟩
    ·simp only [go_sem]
     try exact at0
    ·simp only [go_sem]
     try exact at0
    ·simp only [go_sem]
     exact yZ (zC (zL (α:=TFrame)) (zC (zL (α:=TFrame)) (zC (yV (zC zG (zC zG (zC (zL (α:=TSleeper)) (zC (zL (α:=TStored)) zQ))))) (zC zG zQ))))
    ·simp only [go_sem,CvH]
   have hk6:(r4)=true:=by simpa using hc
   replace H:=zZ hc H
   refine zM ?_
   obtain ⟨r7,e8,H⟩:=bsi H
   refine rg ct41t2_ok ?_
   simp only [go_sem,Nat.reduceLT,Nat.reduceAdd,ct41t2_62,dB,e8]
   repeat ((with_reducible refine aI ?_ ?_);exact an0)
   refine yO rfl trivial (fun hc=>?_) (fun hc=>?_)
   ·have hk9:(r7)=true:=by simpa using hc
    replace H:=yA hc H
    refine sq zA ?_
    simp only [go_sem,Nat.reduceAdd]
    repeat ((with_reducible refine aI ?_ ?_);exact an5)
    refine rg zA ?_
    simp only [go_sem,Nat.reduceLT,Nat.reduceAdd]
    obtain rfl:=Option.some.inj H
    refine ⟨[0,1,2],?_,?_,[],?_,?_,rfl⟩
    ·simp only [go_sem]
     try exact at0
    ·simp only [go_sem]
     try exact at0
    ·simp only [go_sem]
     exact yZ (zC (zL (α:=TFrame)) (zC (zL (α:=TFrame)) (zC (yV (zC zG (zC zG (zC (zL (α:=TSleeper)) (zC (zL (α:=TStored)) zQ))))) (zC zG zQ))))
    ·simp only [go_sem,CvH]
   have hk9:(r7)=false:=by simpa using hc
   replace H:=zZ hc H
   refine rg zA ?_
   simp only [go_sem]
   refine zM ?_
   obtain ⟨r10,e11,H⟩:=bsi H
   obtain ⟨r12,e13,H⟩:=bsi H
   refine yQ zT ct41t3_ok 3 (by kernel_rfl) (by kernel_rfl) ?_
   intro an han
   simp only [wO,xU,vM,xrD,xoD,vN,wY,List.append_nil,xC,refs,vI,mask,wE,place,xI,wF,xN,hit,inL,xD,ren,uS,rnN,nrH,nrB,nrL,nr,rZ,rS,Nat.sub_self,Nat.add_zero,Nat.zero_add,Nat.reduceSub,Nat.lt_add_one,go_sem,Nat.reduceLeDiff,Nat.reduceLT,Nat.reduceAdd,Nat.reduceSub,Nat.reduceBEq,ct41t3_63,qB,ct41t3_65,vZ,e11,e13]
   repeat ((with_reducible refine aI ?_ ?_);exact an4)
   refine zM ?_
   refine zM ?_
   obtain ⟨r14,e15,H⟩:=bsi H
   refine rg ct41t4_ok ?_
   simp only [go_sem,Nat.reduceLT,Nat.reduceAdd,ct41t4_47,tY,e15]
   repeat ((with_reducible refine aI ?_ ?_);exact an0)
   refine condM' rfl trivial (fun hc=>?_) (fun hc=>?_)
   ·have hk16:(r14)=false:=by simpa using hc
    replace H:=zZ hc H
    refine qT ?_
    refine xT zT zA 1 ?_
    simp only [zO,tS,tZ,dS,dZ,go_sem,Nat.reduceLT,Nat.reduceAdd]
    repeat ((with_reducible refine aI ?_ ?_);exact an3)
    refine fzO [5] ?_ ?_
    ·simp only [go_sem,Nat.reduceBEq]
     try exact at0
    simp only [go_sem,Nat.reduceBEq,Nat.reduceAdd]
    obtain ⟨r37,e38,H⟩:=bsi H
    refine xT zT ct41t8_ok 3 ?_
    simp only [zO,tS,tZ,dS,dZ,go_sem,Nat.reduceLeDiff,Nat.reduceAdd,ct41t8_52,wZ,e38]
    repeat ((with_reducible refine aI ?_ ?_);exact an3)
    refine wT ?_
    refine zM ?_
    refine yQ zT zA 0 (by kernel_rfl) (by kernel_rfl) ?_
    intro an han
    simp only [wO,xU,vM,xrD,xoD,vN,wY,List.append_nil,xC,refs,mask,wE,place,xI,wF,xN,hit,inL,xD,nrH,nrB,nrL,nr,rZ,Nat.sub_self,Nat.add_zero,Nat.zero_add,Nat.reduceSub,Nat.lt_add_one,go_sem,Nat.reduceLeDiff,Nat.reduceLT,Nat.reduceAdd,Nat.reduceSub,Nat.reduceBEq]
    repeat ((with_reducible refine aI ?_ ?_);exact an4)
    refine rg zA ?_
    simp only [go_sem,Nat.reduceLT,Nat.reduceAdd]
    obtain rfl:=Option.some.inj H
    refine ⟨[7,3,4,0,1,2],?_,?_,[],?_,?_,rfl⟩
    ·simp only [go_sem,Nat.reduceBEq]
     try exact at0
    ·simp only [go_sem,Nat.reduceBEq]
     try exact at0
    ·simp only [go_sem,Nat.reduceBEq]
     exact yZ (zC (xO (by first|rfl|simp) (fun _ _ _ _=>rfl)) (zC (zL (α:=TFrame)) (zC (yV (zC zG (zC zG (zC (xO (by first|rfl|simp) (fun _ _ _ _=>rfl)) (zC (xO (by first|rfl|simp) (fun _ _ _ _=>rfl)) zQ))))) (zC zG zQ))))
    ·simp only [go_sem,CvH]
   have hk16:(r14)=true:=by simpa using hc
   replace H:=yA hc H
   refine qT ?_
   refine xT zT zA 6 ?_
   simp only [zO,tS,tZ,dS,dZ,go_sem,Nat.reduceLeDiff,Nat.reduceLT,Nat.reduceAdd]
   repeat ((with_reducible refine aI ?_ ?_);exact an0)
   refine gR (rs:=[.tmp 6]) Try.func64 (by kernel_rfl) rfl rfl Try.ntmps64 (caps:=[]) (tc:=[.ptr 0 0 0 3,.int .i64 r10.Limit,.agg (.int .u8 0::.int .i64 p2::.int .u8 r12.Head.Kind::.int .u8 r12.Head.Sub::.bool r12.Head.ToDs::.bool r12.Head.FromDs::.bool r12.Head.More::.bool r12.Head.Retry::.bool r12.Head.Sleep::.bool r12.Head.MoreData::.bool r12.Head.Protected::.int .i64 r12.Head.Duration::.int .u8 r12.Head.A1.x0::.int .u8 r12.Head.A1.x1::.int .u8 r12.Head.A1.x2::.int .u8 r12.Head.A1.x3::.int .u8 r12.Head.A1.x4::.int .u8 r12.Head.A1.x5::.int .u8 r12.Head.A2.x0::.int .u8 r12.Head.A2.x1::.int .u8 r12.Head.A2.x2::.int .u8 r12.Head.A2.x3::.int .u8 r12.Head.A2.x4::.int .u8 r12.Head.A2.x5::.int .u8 r12.Head.A3.x0::.int .u8 r12.Head.A3.x1::.int .u8 r12.Head.A3.x2::.int .u8 r12.Head.A3.x3::.int .u8 r12.Head.A3.x4::.int .u8 r12.Head.A3.x5::.int .u8 r12.Head.A4.x0::.int .u8 r12.Head.A4.x1::.int .u8 r12.Head.A4.x2::.int .u8 r12.Head.A4.x3::.int .u8 r12.Head.A4.x4::.int .u8 r12.Head.A4.x5::.int .i64 r12.Head.Seq::.int .i64 r12.Head.Frag::.int .i64 r12.Head.Tid::.int .u8 r12.Head.Ack::.bool r12.Head.Amsdu::.bool r12.Head.Eosp::.sl 5 1 0 r12.Body.length false::[])]) rfl (by simp only [go_sem]) rfl ?_
   simp only [lC,lN,Nat.reduceAdd,Nat.reduceSub,rS,rZ,aC,aN]
   refine sq zA ?_
   simp only [go_sem,Nat.reduceAdd]
   refine zM ?_
   refine sq zA ?_
   simp only [go_sem,Nat.reduceLT,Nat.reduceAdd]
   repeat ((with_reducible refine aI ?_ ?_);exact an0)
   refine condM' rfl trivial (fun hc=>?_) (fun hc=>?_)
   ·have hk17:(bEq (r10.Group.length:Nat) r10.Limit)=false:=by simpa using hc
    replace H:=zZ hc H
    refine rg zA ?_
    simp only [go_sem]
    refine zM ?_
    refine jJ [5] ?_ ?_
    ·simp only [go_sem,Nat.reduceBEq]
     try exact at0
    simp only [go_sem,Nat.reduceBEq,Nat.reduceAdd]
    obtain ⟨f36,H⟩:=nC H
    refine yQ zT zA 2 (by kernel_rfl) (by kernel_rfl) ?_
    intro an han
    simp only [wO,xU,vM,xrD,xoD,vN,wY,List.append_nil,xC,refs,vI,mask,wE,place,xI,wF,xN,hit,inL,xD,ren,rnN,nrH,nrB,nrL,nr,rZ,rS,Nat.sub_self,Nat.add_zero,Nat.zero_add,Nat.reduceSub,Nat.lt_add_one,go_sem,Nat.reduceLeDiff,Nat.reduceLT,Nat.reduceAdd,Nat.reduceSub,Nat.reduceBEq,f36]
    repeat ((with_reducible refine aI ?_ ?_);exact an2)
    refine sq zA ?_
    simp only [go_sem]
    refine rg zA ?_
    simp only [go_sem]
    refine xT zT zA 1 ?_
    simp only [zO,tS,tZ,dS,dZ,go_sem]
    repeat ((with_reducible refine aI ?_ ?_);exact an1)
    refine wT ?_
    refine zM ?_
    refine yQ zT zA 0 (by kernel_rfl) (by kernel_rfl) ?_
    intro an han
    simp only [wO,xU,vM,xrD,xoD,vN,wY,List.append_nil,xC,refs,mask,wE,place,xI,wF,xN,hit,inL,xD,nrH,nrB,nrL,nr,rZ,Nat.sub_self,Nat.add_zero,Nat.zero_add,Nat.reduceSub,Nat.lt_add_one,go_sem,Nat.reduceLeDiff,Nat.reduceLT,Nat.reduceAdd,Nat.reduceSub,Nat.reduceBEq]
    repeat ((with_reducible refine aI ?_ ?_);exact an2)
    refine rg zA ?_
    simp only [go_sem,Nat.reduceLT,Nat.reduceAdd]
    obtain rfl:=Option.some.inj H
    refine ⟨[3,8,0,1,2,6],?_,?_,[],?_,?_,rfl⟩
    ·simp only [go_sem,Nat.reduceBEq]
     try exact at0
    ·simp only [go_sem,Nat.reduceBEq]
     try exact at0
    ·simp only [go_sem,Nat.reduceBEq]
     exact yZ (zC (zL (α:=TFrame)) (zC (zL (α:=TFrame)) (zC (yV (zC zG (zC zG (zC (xO (by first|rfl|simp) (fun _ _ _ _=>rfl)) (zC (xO (by first|rfl|simp) (vU (f:=zE) r10.Group [(TStored.mk 0 p2 (eF r12))] (fun _ _ _ _=>rfl) (wV (f:=zE) [(TStored.mk 0 p2 (eF r12))] (fun _ _=>rfl) rfl))) zQ))))) (zC zG zQ))))
    ·simp only [go_sem,CvH]
   have hk17:(bEq (r10.Group.length:Nat) r10.Limit)=true:=by simpa using hc
   replace H:=yA hc H
   refine zM ?_
   refine qT ?_
   refine xT zT zA 3 ?_
   simp only [zO,tS,tZ,dS,dZ,go_sem,Nat.reduceLT,Nat.reduceAdd]
   repeat ((with_reducible refine aI ?_ ?_);exact an0)
   refine gR (rs:=[.cell 4 61]) Try.func89 (by kernel_rfl) rfl rfl Try.ntmps89 (caps:=[]) (tc:=[.sl 4 43 0 r10.Group.length false,.fn 90 []]) rfl (by simp only [go_sem]) rfl ?_
   simp only [lC,lN,Nat.reduceAdd,Nat.reduceSub,rS,rZ,aC,aN]
   refine sq zA ?_
   simp only [go_sem,Nat.reduceAdd]
   refine zM ?_
   refine sq zA ?_
   simp only [go_sem]
   repeat ((with_reducible refine aI ?_ ?_);exact an0)
   refine yO rfl trivial (fun hc=>?_) (fun hc=>?_)
   ·have hk18:(bLt (r10.Group.length:Nat) 1)=true:=by simpa using hc
    replace H:=yA hc H
    cases H
   have hk18:(bLt (r10.Group.length:Nat) 1)=false:=by simpa using hc
   replace H:=zZ hc H
   refine rg zA ?_
   simp only [go_sem]
   refine zM ?_
   obtain ⟨f19,H⟩:=nI H
   refine rg zA ?_
   simp only [go_sem,Nat.reduceLT,Nat.reduceAdd,f19]
   repeat ((with_reducible refine aI ?_ ?_);exact an5)
   refine zM ?_
   refine sq zA ?_
   simp only [go_sem]
   refine wN ?_
   refine xZ (fun s:Int × TStored=>(.sl 4 43 0 r10.Group.length false::.fn 90 []::.top::.top::.ptr 7 0 0 0::.ptr 8 0 0 0::.int .i64 s.1::tp 26 [])) (fun s=>[.lit 25 [.int .i64 r10.Limit,.int .i64 r10.Stay,.sl 3 3 0 r10.List.length false,.sl 4 43 0 r10.Group.length false],.dead,.lit 25 [.int .i64 0,.int .i64 0,.ro 0 0 true (fun _ _=>.top),.ro 0 0 true (fun _ _=>.top)],.row 57 3 r10.List.length (enR zD r10.List),.row 61 43 r10.Group.length (enR zE r10.Group),.row 5 1 r12.Body.length (enR xJ r12.Body),.lit 61 (.int .u8 0::.int .i64 p2::.int .u8 r12.Head.Kind::.int .u8 r12.Head.Sub::.bool r12.Head.ToDs::.bool r12.Head.FromDs::.bool r12.Head.More::.bool r12.Head.Retry::.bool r12.Head.Sleep::.bool r12.Head.MoreData::.bool r12.Head.Protected::.int .i64 r12.Head.Duration::.int .u8 r12.Head.A1.x0::.int .u8 r12.Head.A1.x1::.int .u8 r12.Head.A1.x2::.int .u8 r12.Head.A1.x3::.int .u8 r12.Head.A1.x4::.int .u8 r12.Head.A1.x5::.int .u8 r12.Head.A2.x0::.int .u8 r12.Head.A2.x1::.int .u8 r12.Head.A2.x2::.int .u8 r12.Head.A2.x3::.int .u8 r12.Head.A2.x4::.int .u8 r12.Head.A2.x5::.int .u8 r12.Head.A3.x0::.int .u8 r12.Head.A3.x1::.int .u8 r12.Head.A3.x2::.int .u8 r12.Head.A3.x3::.int .u8 r12.Head.A3.x4::.int .u8 r12.Head.A3.x5::.int .u8 r12.Head.A4.x0::.int .u8 r12.Head.A4.x1::.int .u8 r12.Head.A4.x2::.int .u8 r12.Head.A4.x3::.int .u8 r12.Head.A4.x4::.int .u8 r12.Head.A4.x5::.int .i64 r12.Head.Seq::.int .i64 r12.Head.Frag::.int .i64 r12.Head.Tid::.int .u8 r12.Head.Ack::.bool r12.Head.Amsdu::.bool r12.Head.Eosp::.sl 5 1 0 r12.Body.length false::[]),.lit 61 (.int .u8 0::.int .i64 0::.int .u8 0::.int .u8 0::.bool false::.bool false::.bool false::.bool false::.bool false::.bool false::.bool false::.int .i64 0::.int .u8 0::.int .u8 0::.int .u8 0::.int .u8 0::.int .u8 0::.int .u8 0::.int .u8 0::.int .u8 0::.int .u8 0::.int .u8 0::.int .u8 0::.int .u8 0::.int .u8 0::.int .u8 0::.int .u8 0::.int .u8 0::.int .u8 0::.int .u8 0::.int .u8 0::.int .u8 0::.int .u8 0::.int .u8 0::.int .u8 0::.int .u8 0::.int .i64 0::.int .i64 0::.int .i64 0::.int .u8 0::.bool false::.bool false::.ro 0 0 true (fun _ _=>.top)::[]),.lit 61 (.int .u8 s.2.Cat::.int .i64 s.2.At::.int .u8 s.2.Frame.Head.Kind::.int .u8 s.2.Frame.Head.Sub::.bool s.2.Frame.Head.ToDs::.bool s.2.Frame.Head.FromDs::.bool s.2.Frame.Head.More::.bool s.2.Frame.Head.Retry::.bool s.2.Frame.Head.Sleep::.bool s.2.Frame.Head.MoreData::.bool s.2.Frame.Head.Protected::.int .i64 s.2.Frame.Head.Duration::.int .u8 s.2.Frame.Head.A1.x0::.int .u8 s.2.Frame.Head.A1.x1::.int .u8 s.2.Frame.Head.A1.x2::.int .u8 s.2.Frame.Head.A1.x3::.int .u8 s.2.Frame.Head.A1.x4::.int .u8 s.2.Frame.Head.A1.x5::.int .u8 s.2.Frame.Head.A2.x0::.int .u8 s.2.Frame.Head.A2.x1::.int .u8 s.2.Frame.Head.A2.x2::.int .u8 s.2.Frame.Head.A2.x3::.int .u8 s.2.Frame.Head.A2.x4::.int .u8 s.2.Frame.Head.A2.x5::.int .u8 s.2.Frame.Head.A3.x0::.int .u8 s.2.Frame.Head.A3.x1::.int .u8 s.2.Frame.Head.A3.x2::.int .u8 s.2.Frame.Head.A3.x3::.int .u8 s.2.Frame.Head.A3.x4::.int .u8 s.2.Frame.Head.A3.x5::.int .u8 s.2.Frame.Head.A4.x0::.int .u8 s.2.Frame.Head.A4.x1::.int .u8 s.2.Frame.Head.A4.x2::.int .u8 s.2.Frame.Head.A4.x3::.int .u8 s.2.Frame.Head.A4.x4::.int .u8 s.2.Frame.Head.A4.x5::.int .i64 s.2.Frame.Head.Seq::.int .i64 s.2.Frame.Head.Frag::.int .i64 s.2.Frame.Head.Tid::.int .u8 s.2.Frame.Head.Ack::.bool s.2.Frame.Head.Amsdu::.bool s.2.Frame.Head.Eosp::.ro 1 s.2.Frame.Body.length false (enR xJ s.2.Frame.Body)::[])]) (fun e:TStored=>(tp 4 (.ptr 7 0 0 0::.ptr 8 0 0 0::tp 27 []))) (fun e=>[.lit 25 [.int .i64 r10.Limit,.int .i64 r10.Stay,.sl 3 3 0 r10.List.length false,.sl 4 43 0 r10.Group.length false],.dead,.lit 25 [.int .i64 0,.int .i64 0,.ro 0 0 true (fun _ _=>.top),.ro 0 0 true (fun _ _=>.top)],.row 57 3 r10.List.length (enR zD r10.List),.row 61 43 r10.Group.length (enR zE r10.Group),.row 5 1 r12.Body.length (enR xJ r12.Body),.lit 61 (.int .u8 0::.int .i64 p2::.int .u8 r12.Head.Kind::.int .u8 r12.Head.Sub::.bool r12.Head.ToDs::.bool r12.Head.FromDs::.bool r12.Head.More::.bool r12.Head.Retry::.bool r12.Head.Sleep::.bool r12.Head.MoreData::.bool r12.Head.Protected::.int .i64 r12.Head.Duration::.int .u8 r12.Head.A1.x0::.int .u8 r12.Head.A1.x1::.int .u8 r12.Head.A1.x2::.int .u8 r12.Head.A1.x3::.int .u8 r12.Head.A1.x4::.int .u8 r12.Head.A1.x5::.int .u8 r12.Head.A2.x0::.int .u8 r12.Head.A2.x1::.int .u8 r12.Head.A2.x2::.int .u8 r12.Head.A2.x3::.int .u8 r12.Head.A2.x4::.int .u8 r12.Head.A2.x5::.int .u8 r12.Head.A3.x0::.int .u8 r12.Head.A3.x1::.int .u8 r12.Head.A3.x2::.int .u8 r12.Head.A3.x3::.int .u8 r12.Head.A3.x4::.int .u8 r12.Head.A3.x5::.int .u8 r12.Head.A4.x0::.int .u8 r12.Head.A4.x1::.int .u8 r12.Head.A4.x2::.int .u8 r12.Head.A4.x3::.int .u8 r12.Head.A4.x4::.int .u8 r12.Head.A4.x5::.int .i64 r12.Head.Seq::.int .i64 r12.Head.Frag::.int .i64 r12.Head.Tid::.int .u8 r12.Head.Ack::.bool r12.Head.Amsdu::.bool r12.Head.Eosp::.sl 5 1 0 r12.Body.length false::[]),.lit 61 (.int .u8 0::.int .i64 0::.int .u8 0::.int .u8 0::.bool false::.bool false::.bool false::.bool false::.bool false::.bool false::.bool false::.int .i64 0::.int .u8 0::.int .u8 0::.int .u8 0::.int .u8 0::.int .u8 0::.int .u8 0::.int .u8 0::.int .u8 0::.int .u8 0::.int .u8 0::.int .u8 0::.int .u8 0::.int .u8 0::.int .u8 0::.int .u8 0::.int .u8 0::.int .u8 0::.int .u8 0::.int .u8 0::.int .u8 0::.int .u8 0::.int .u8 0::.int .u8 0::.int .u8 0::.int .i64 0::.int .i64 0::.int .i64 0::.int .u8 0::.bool false::.bool false::.ro 0 0 true (fun _ _=>.top)::[]),.lit 61 (.int .u8 e.Cat::.int .i64 e.At::.int .u8 e.Frame.Head.Kind::.int .u8 e.Frame.Head.Sub::.bool e.Frame.Head.ToDs::.bool e.Frame.Head.FromDs::.bool e.Frame.Head.More::.bool e.Frame.Head.Retry::.bool e.Frame.Head.Sleep::.bool e.Frame.Head.MoreData::.bool e.Frame.Head.Protected::.int .i64 e.Frame.Head.Duration::.int .u8 e.Frame.Head.A1.x0::.int .u8 e.Frame.Head.A1.x1::.int .u8 e.Frame.Head.A1.x2::.int .u8 e.Frame.Head.A1.x3::.int .u8 e.Frame.Head.A1.x4::.int .u8 e.Frame.Head.A1.x5::.int .u8 e.Frame.Head.A2.x0::.int .u8 e.Frame.Head.A2.x1::.int .u8 e.Frame.Head.A2.x2::.int .u8 e.Frame.Head.A2.x3::.int .u8 e.Frame.Head.A2.x4::.int .u8 e.Frame.Head.A2.x5::.int .u8 e.Frame.Head.A3.x0::.int .u8 e.Frame.Head.A3.x1::.int .u8 e.Frame.Head.A3.x2::.int .u8 e.Frame.Head.A3.x3::.int .u8 e.Frame.Head.A3.x4::.int .u8 e.Frame.Head.A3.x5::.int .u8 e.Frame.Head.A4.x0::.int .u8 e.Frame.Head.A4.x1::.int .u8 e.Frame.Head.A4.x2::.int .u8 e.Frame.Head.A4.x3::.int .u8 e.Frame.Head.A4.x4::.int .u8 e.Frame.Head.A4.x5::.int .i64 e.Frame.Head.Seq::.int .i64 e.Frame.Head.Frag::.int .i64 e.Frame.Head.Tid::.int .u8 e.Frame.Head.Ack::.bool e.Frame.Head.Amsdu::.bool e.Frame.Head.Eosp::.ro 1 e.Frame.Body.length false (enR xJ e.Frame.Body)::[])]) H ?_ (fun s o H hn1_1 hn2_1=>?_) (fun w1_6 H=>?_)
   ·refine zU ⟨[some 0,some 1,some 2,some 3,some 4,some 5,some 6,some 7,some 8],?_,?_,by rfl,by rfl⟩
    ·simp [CvL,Cv,zX,tp]
    ·exact ⟨cv,zI,cv,(yJ nfA),(yJ nfA),(yJ nfA),cv,cv,cv,trivial⟩
   ·obtain ⟨v1_1,v1_2⟩:=s
    unfold F41_L1 at H
    delta eF at H
    try dsimp only at H ⊢
    try simp only [tp]
    refine zM ?_
    refine sq zA ?_
    simp only [go_sem,Nat.reduceAdd]
    repeat ((with_reducible refine aI ?_ ?_);exact an0)
    refine condM' rfl trivial (fun hc=>?_) (fun hc=>?_)
    ·have hk20:(bLt v1_1 (r10.Group.length:Nat))=false:=by simpa using hc
     replace H:=zZ hc H
     refine rg zA ?_
     simp only [go_sem]
     refine ⟨_,(Option.some.inj H).symm,?_⟩
     refine zU ⟨[some 0,some 1,some 2,some 3,some 4,some 5,some 6,some 7,some 8],?_,?_,by rfl,by rfl⟩
     ·simp [CvL,Cv,zX]
     ·exact ⟨cv,zI,cv,(yJ nfA),(yJ nfA),(yJ nfA),cv,cv,cv,trivial⟩
    have hk20:(bLt v1_1 (r10.Group.length:Nat))=true:=by simpa using hc
    replace H:=yA hc H
    refine rg zA ?_
    simp only [go_sem]
    refine zM ?_
    refine wN ?_
    refine zM ?_
    obtain ⟨f21,H⟩:=nI H
    obtain ⟨r22,e23,H⟩:=bsi H
    refine wW zT ct41t5_ok (by kernel_rfl) (by kernel_rfl) ?_
    simp only [go_sem,Nat.reduceLT,Nat.reduceAdd,ct41t5_90,dC,f21,e23]
    repeat ((with_reducible refine aI ?_ ?_);exact an0)
    refine condM' rfl trivial (fun hc=>?_) (fun hc=>?_)
    ·have hk24:(bLt r22 0)=false:=by simpa using hc
     replace H:=zZ hc H
     refine rg zA ?_
     simp only [go_sem]
     refine rg zA ?_
     simp only [go_sem]
     refine ⟨_,(Option.some.inj H).symm,?_⟩
     refine zU ⟨[some 0,some 1,some 2,some 3,some 4,some 5,some 6,some 7,some 8],?_,?_,by rfl,by rfl⟩
     ·simp [CvL,Cv,zX]
     ·exact ⟨cv,zI,cv,(yJ nfA),(yJ nfA),(yJ nfA),cv,cv,cv,trivial⟩
    have hk24:(bLt r22 0)=true:=by simpa using hc
    replace H:=yA hc H
    obtain ⟨f25,H⟩:=nI H
    refine rg zA ?_
    simp only [go_sem,Nat.reduceLT,Nat.reduceAdd,f25]
    repeat ((with_reducible refine aI ?_ ?_);exact an5)
    refine rg zA ?_
    simp only [go_sem]
    refine ⟨_,(Option.some.inj H).symm,?_⟩
    refine zU ⟨[some 0,some 1,some 2,some 3,some 4,some 5,some 6,some 7,some 8],?_,?_,by rfl,by rfl⟩
    ·simp [CvL,Cv,zX]
    ·exact ⟨cv,zI,cv,(yJ nfA),(yJ nfA),(yJ nfA),cv,cv,cv,trivial⟩
   ·try dsimp only at H ⊢
    try simp only [tp]
    try simp only [xW]
    refine sq zA ?_
    simp only [go_sem,Nat.reduceLT,Nat.reduceAdd]
    repeat ((with_reducible refine aI ?_ ?_);exact an5)
    refine rg zA ?_
    simp only [go_sem,Nat.reduceLT,Nat.reduceAdd]
    refine xT zT zA 3 ?_
    simp only [zO,tS,tZ,dS,dZ,go_sem,Nat.reduceLeDiff,Nat.reduceLT,Nat.reduceAdd]
    repeat ((with_reducible refine aI ?_ ?_);exact an0)
    refine wT ?_
    refine zM ?_
    refine sq zA ?_
    simp only [go_sem,Nat.reduceLeDiff,Nat.reduceLT,Nat.reduceAdd]
    repeat ((with_reducible refine aI ?_ ?_);exact an5)
    refine yO rfl trivial (fun hc=>?_) (fun hc=>?_)
    ·have hk26:(bLt 0 w1_6.Cat)=true:=by simpa using hc
     replace H:=yA hc H
     refine zM ?_
     refine qT ?_
     refine xT zT zA 2 ?_
     simp only [zO,tS,tZ,dS,dZ,go_sem,Nat.reduceLT,Nat.reduceAdd,reduceCtorEq]
     repeat ((with_reducible refine aI ?_ ?_);exact an5)
     refine fzO [5] ?_ ?_
     ·simp only [go_sem,Nat.reduceBEq]
      try exact at0
     simp only [go_sem,Nat.reduceBEq,Nat.reduceAdd]
     refine xT zT zA 2 ?_
     simp only [zO,tS,tZ,dS,dZ,go_sem,Nat.reduceLeDiff,Nat.reduceAdd]
     repeat ((with_reducible refine aI ?_ ?_);exact an5)
     refine wT ?_
     refine rg zA ?_
     simp only [go_sem]
     refine xT zT zA 1 ?_
     simp only [zO,tS,tZ,dS,dZ,go_sem]
     repeat ((with_reducible refine aI ?_ ?_);exact an3)
     refine wT ?_
     refine zM ?_
     refine yQ zT zA 0 (by kernel_rfl) (by kernel_rfl) ?_
     intro an han
     simp only [wO,xU,vM,xrD,xoD,vN,wY,List.append_nil,xC,refs,mask,wE,place,xI,wF,xN,hit,inL,xD,nrH,nrB,nrL,nr,rZ,Nat.sub_self,Nat.add_zero,Nat.zero_add,Nat.reduceSub,Nat.lt_add_one,go_sem,Nat.reduceLeDiff,Nat.reduceLT,Nat.reduceAdd,Nat.reduceSub,Nat.reduceBEq]
     repeat ((with_reducible refine aI ?_ ?_);exact an6)
     refine rg zA ?_
     simp only [go_sem,Nat.reduceLT,Nat.reduceAdd]
     obtain rfl:=Option.some.inj H
     refine ⟨[10,3,4,0,2,6,7,8,9],?_,?_,[],?_,?_,rfl⟩
     ·simp only [go_sem,Nat.reduceBEq]
      try exact at0
     ·simp only [go_sem,Nat.reduceBEq]
      try exact at0
     ·simp only [go_sem,Nat.reduceBEq]
      exact yZ (zC (zL (α:=TFrame)) (zC (xO (by first|rfl|simp) (wV (f:=zK) [r12] (fun _ _=>rfl) rfl)) (zC (yV (zC zG (zC zG (zC (xO (by first|rfl|simp) (fun _ _ _ _=>rfl)) (zC (xO (by first|rfl|simp) (fun _ _ _ _=>rfl)) zQ))))) (zC zG zQ))))
     ·simp only [go_sem,CvH]
    have hk26:(bLt 0 w1_6.Cat)=false:=by simpa using hc
    replace H:=zZ hc H
    refine rg zA ?_
    simp only [go_sem]
    refine zM ?_
    obtain ⟨r27,e28,H⟩:=bsi H
    refine rg ct41t6_ok ?_
    simp only [go_sem,Nat.reduceLT,Nat.reduceAdd,ct41t6_58,qK,e28]
    repeat ((with_reducible refine aI ?_ ?_);exact an0)
    refine zM ?_
    obtain ⟨f29,H⟩:=nI H
    refine rg zA ?_
    simp only [go_sem,Nat.reduceLeDiff,Nat.reduceLT,Nat.reduceAdd,reduceCtorEq,f29]
    repeat ((with_reducible refine aI ?_ ?_);exact an5)
    obtain ⟨f30,H⟩:=yP.1 H
    replace f30:=delb_iff.1 f30
    refine rg ct41t7_ok ?_
    simp only [go_sem,Nat.reduceLT,Nat.reduceAdd,ct41t7_60,delN,f30]
    repeat ((with_reducible refine aI ?_ ?_);exact an3)
    refine zM ?_
    obtain ⟨w31,hw32,H⟩:=bsj H
    have lhw32:w31.length=1:=by rw [← hw32];exact cl
    obtain ⟨w33,hw34,H⟩:=bsj H
    have lhw34:w33.length=r10.Group.length - ((wr .i64 (r27+1)).toNat - r27.toNat):=by rw [← hw34];exact (del_len f30 cl)
    refine vP (t2:=(.ptr 0 0 0 3::tp 4 (.ptr 6 0 0 0::.sl 10 41 0 w31.length false::tp 51 []))) (h2:=[.lit 25 [.int .i64 r10.Limit,.int .i64 r10.Stay,.sl 3 3 0 r10.List.length false,.sl 11 43 0 w33.length false],.dead,.lit 25 [.int .i64 0,.int .i64 0,.ro 0 0 true (fun _ _=>.top),.ro 0 0 true (fun _ _=>.top)],.row 57 3 r10.List.length (enR zD r10.List),.dead,.row 5 1 r12.Body.length (enR xJ r12.Body),.lit 61 (.int .u8 0::.int .i64 p2::.int .u8 r12.Head.Kind::.int .u8 r12.Head.Sub::.bool r12.Head.ToDs::.bool r12.Head.FromDs::.bool r12.Head.More::.bool r12.Head.Retry::.bool r12.Head.Sleep::.bool r12.Head.MoreData::.bool r12.Head.Protected::.int .i64 r12.Head.Duration::.int .u8 r12.Head.A1.x0::.int .u8 r12.Head.A1.x1::.int .u8 r12.Head.A1.x2::.int .u8 r12.Head.A1.x3::.int .u8 r12.Head.A1.x4::.int .u8 r12.Head.A1.x5::.int .u8 r12.Head.A2.x0::.int .u8 r12.Head.A2.x1::.int .u8 r12.Head.A2.x2::.int .u8 r12.Head.A2.x3::.int .u8 r12.Head.A2.x4::.int .u8 r12.Head.A2.x5::.int .u8 r12.Head.A3.x0::.int .u8 r12.Head.A3.x1::.int .u8 r12.Head.A3.x2::.int .u8 r12.Head.A3.x3::.int .u8 r12.Head.A3.x4::.int .u8 r12.Head.A3.x5::.int .u8 r12.Head.A4.x0::.int .u8 r12.Head.A4.x1::.int .u8 r12.Head.A4.x2::.int .u8 r12.Head.A4.x3::.int .u8 r12.Head.A4.x4::.int .u8 r12.Head.A4.x5::.int .i64 r12.Head.Seq::.int .i64 r12.Head.Frag::.int .i64 r12.Head.Tid::.int .u8 r12.Head.Ack::.bool r12.Head.Amsdu::.bool r12.Head.Eosp::.sl 5 1 0 r12.Body.length false::[]),.lit 61 (.int .u8 w1_6.Cat::.int .i64 w1_6.At::.int .u8 w1_6.Frame.Head.Kind::.int .u8 w1_6.Frame.Head.Sub::.bool w1_6.Frame.Head.ToDs::.bool w1_6.Frame.Head.FromDs::.bool w1_6.Frame.Head.More::.bool w1_6.Frame.Head.Retry::.bool w1_6.Frame.Head.Sleep::.bool w1_6.Frame.Head.MoreData::.bool w1_6.Frame.Head.Protected::.int .i64 w1_6.Frame.Head.Duration::.int .u8 w1_6.Frame.Head.A1.x0::.int .u8 w1_6.Frame.Head.A1.x1::.int .u8 w1_6.Frame.Head.A1.x2::.int .u8 w1_6.Frame.Head.A1.x3::.int .u8 w1_6.Frame.Head.A1.x4::.int .u8 w1_6.Frame.Head.A1.x5::.int .u8 w1_6.Frame.Head.A2.x0::.int .u8 w1_6.Frame.Head.A2.x1::.int .u8 w1_6.Frame.Head.A2.x2::.int .u8 w1_6.Frame.Head.A2.x3::.int .u8 w1_6.Frame.Head.A2.x4::.int .u8 w1_6.Frame.Head.A2.x5::.int .u8 w1_6.Frame.Head.A3.x0::.int .u8 w1_6.Frame.Head.A3.x1::.int .u8 w1_6.Frame.Head.A3.x2::.int .u8 w1_6.Frame.Head.A3.x3::.int .u8 w1_6.Frame.Head.A3.x4::.int .u8 w1_6.Frame.Head.A3.x5::.int .u8 w1_6.Frame.Head.A4.x0::.int .u8 w1_6.Frame.Head.A4.x1::.int .u8 w1_6.Frame.Head.A4.x2::.int .u8 w1_6.Frame.Head.A4.x3::.int .u8 w1_6.Frame.Head.A4.x4::.int .u8 w1_6.Frame.Head.A4.x5::.int .i64 w1_6.Frame.Head.Seq::.int .i64 w1_6.Frame.Head.Frag::.int .i64 w1_6.Frame.Head.Tid::.int .u8 w1_6.Frame.Head.Ack::.bool w1_6.Frame.Head.Amsdu::.bool w1_6.Frame.Head.Eosp::.ro 1 w1_6.Frame.Body.length false (enR xJ w1_6.Frame.Body)::[]),.lit 61 (.int .u8 w1_6.Cat::.int .i64 w1_6.At::.int .u8 w1_6.Frame.Head.Kind::.int .u8 w1_6.Frame.Head.Sub::.bool w1_6.Frame.Head.ToDs::.bool w1_6.Frame.Head.FromDs::.bool w1_6.Frame.Head.More::.bool w1_6.Frame.Head.Retry::.bool w1_6.Frame.Head.Sleep::.bool w1_6.Frame.Head.MoreData::.bool w1_6.Frame.Head.Protected::.int .i64 w1_6.Frame.Head.Duration::.int .u8 w1_6.Frame.Head.A1.x0::.int .u8 w1_6.Frame.Head.A1.x1::.int .u8 w1_6.Frame.Head.A1.x2::.int .u8 w1_6.Frame.Head.A1.x3::.int .u8 w1_6.Frame.Head.A1.x4::.int .u8 w1_6.Frame.Head.A1.x5::.int .u8 w1_6.Frame.Head.A2.x0::.int .u8 w1_6.Frame.Head.A2.x1::.int .u8 w1_6.Frame.Head.A2.x2::.int .u8 w1_6.Frame.Head.A2.x3::.int .u8 w1_6.Frame.Head.A2.x4::.int .u8 w1_6.Frame.Head.A2.x5::.int .u8 w1_6.Frame.Head.A3.x0::.int .u8 w1_6.Frame.Head.A3.x1::.int .u8 w1_6.Frame.Head.A3.x2::.int .u8 w1_6.Frame.Head.A3.x3::.int .u8 w1_6.Frame.Head.A3.x4::.int .u8 w1_6.Frame.Head.A3.x5::.int .u8 w1_6.Frame.Head.A4.x0::.int .u8 w1_6.Frame.Head.A4.x1::.int .u8 w1_6.Frame.Head.A4.x2::.int .u8 w1_6.Frame.Head.A4.x3::.int .u8 w1_6.Frame.Head.A4.x4::.int .u8 w1_6.Frame.Head.A4.x5::.int .i64 w1_6.Frame.Head.Seq::.int .i64 w1_6.Frame.Head.Frag::.int .i64 w1_6.Frame.Head.Tid::.int .u8 w1_6.Frame.Head.Ack::.bool w1_6.Frame.Head.Amsdu::.bool w1_6.Frame.Head.Eosp::.ro 1 w1_6.Frame.Body.length false (enR xJ w1_6.Frame.Body)::[]),.lit 5 [.int .u8 w1_6.Cat],.row 33 41 w31.length (enR zK w31),.row 61 43 w33.length (enR zE w33)]) ?_ ?_
    ·refine zU ⟨[some 0,some 1,some 2,some 3,some 4,some 5,some 6,some 7,some 8,some 9,some 10,some 11],?_,?_,by rfl,by rfl⟩
     ·simp [CvL,Cv,zX,tp,lhw32]
     ·exact ⟨(by simp [CvB,CvL,Cv,xG,geth,zX,lhw34]),zI,(by simp [CvB,CvL,Cv,xG,geth]),zY zH rfl (fun _ _ _ _=>rfl),zI,zY nr_u8 rfl (fun _ _ _ _=>rfl),(by simp [CvB,CvL,Cv,xG,geth,zX]),(by simp [CvB,CvL,Cv,xG,geth]),(by simp [CvB,CvL,Cv,xG,geth]),(by simp [CvB,CvL,Cv,xG,geth]),zY xE lhw32 (hw32 ▸ (wV (f:=zK) [(eF ((gd r10.Group r27.toNat).Frame))] (fun _ _=>rfl) rfl)),zY zV lhw34 (hw34 ▸ (del_row f30 cl (fun _ _ _ _=>rfl))),trivial⟩
    simp only [tp]
    refine jJ [5] ?_ ?_
    ·simp only [go_sem,Nat.reduceBEq]
     try exact at0
    simp only [go_sem,Nat.reduceBEq,Nat.reduceAdd]
    obtain ⟨f35,H⟩:=nC H
    refine yQ zT zA 2 (by kernel_rfl) (by kernel_rfl) ?_
    intro an han
    simp only [wO,xU,vM,xrD,xoD,vN,wY,List.append_nil,xC,refs,vI,mask,wE,place,xI,wF,xN,hit,inL,xD,ren,rnN,nrH,nrB,nrL,nr,rZ,rS,Nat.sub_self,Nat.add_zero,Nat.zero_add,Nat.reduceSub,Nat.lt_add_one,go_sem,Nat.reduceLeDiff,Nat.reduceLT,Nat.reduceAdd,Nat.reduceSub,Nat.reduceBEq,f35]
    repeat ((with_reducible refine aI ?_ ?_);exact an2)
    refine sq zA ?_
    simp only [go_sem]
    refine rg zA ?_
    simp only [go_sem]
    refine xT zT zA 1 ?_
    simp only [zO,tS,tZ,dS,dZ,go_sem]
    repeat ((with_reducible refine aI ?_ ?_);exact an1)
    refine wT ?_
    refine zM ?_
    refine yQ zT zA 0 (by kernel_rfl) (by kernel_rfl) ?_
    intro an han
    simp only [wO,xU,vM,xrD,xoD,vN,wY,List.append_nil,xC,refs,mask,wE,place,xI,wF,xN,hit,inL,xD,nrH,nrB,nrL,nr,rZ,Nat.sub_self,Nat.add_zero,Nat.zero_add,Nat.reduceSub,Nat.lt_add_one,go_sem,Nat.reduceLeDiff,Nat.reduceLT,Nat.reduceAdd,Nat.reduceSub,Nat.reduceBEq]
    repeat ((with_reducible refine aI ?_ ?_);exact an2)
    refine rg zA ?_
    simp only [go_sem,Nat.reduceLT,Nat.reduceAdd]
    obtain rfl:=Option.some.inj H
    refine ⟨[10,3,13,0,2,6,7,8,9],?_,?_,[],?_,?_,rfl⟩
    ·simp only [go_sem,Nat.reduceBEq]
     try exact at0
    ·simp only [go_sem,Nat.reduceBEq]
     try exact at0
    ·simp only [go_sem,Nat.reduceBEq]
     exact yZ (zC (zL (α:=TFrame)) (zC (xO (by first|rfl|simp) (fun _ _ _ _=>rfl)) (zC (yV (zC zG (zC zG (zC (xO (by first|rfl|simp) (fun _ _ _ _=>rfl)) (zC (xO (by first|rfl|simp) (vU (f:=zE) w33 [(TStored.mk 0 p2 (eF r12))] (fun _ _ _ _=>rfl) (wV (f:=zE) [(TStored.mk 0 p2 (eF r12))] (fun _ _=>rfl) rfl))) zQ))))) (zC zG zQ))))
    ·simp only [go_sem,CvH]
  ·cases hb
 ·unfold body41 at hb
  split at hb<;>cases hb
noncomputable def ct26t0:Ct:=tab [(18,yB wG)]
theorem ct26t0_ok:yY Try.prog ct26t0:=zP ok18 <| zW
theorem ct26t0_18 (l:List AV) (h:List ABlk):ct26t0 18 l h=yB wG l h:=rfl
noncomputable def ct26t1:Ct:=tab [(65,xV vZ)]
theorem ct26t1_ok:yY Try.prog ct26t1:=zP ok65 <| zW
theorem ct26t1_65 (l:List AV) (h:List ABlk):ct26t1 65 l h=xV vZ l h:=rfl
noncomputable def ct26t2:Ct:=tab [(52,edC wZ),(53,xV uZ)]
theorem ct26t2_ok:yY Try.prog ct26t2:=zP ok52_0 <| zP ok53 <| zW
theorem ct26t2_52 (l:List AV) (h:List ABlk):ct26t2 52 l h=edC wZ l h:=rfl
theorem ct26t2_53 (l:List AV) (h:List ABlk):ct26t2 53 l h=xV uZ l h:=rfl
noncomputable def F26 (p0:TBuffer):Option ((List TFrame) × TBuffer × Int) :=
 (F18 p0).bind fun r1=>bif (!bEq r1 0) then (some ([],(TBuffer.mk 0 0 [] []),r1)) else ((F65 p0).bind fun r4=>(F53 r4.Group).bind fun r6=>(fR r6).bind fun r8=>some (r8,(TBuffer.mk r4.Limit r4.Stay r4.List []),0))
noncomputable def body26:List AV->Nat->AR
 | [v0],_=>.pure (aK 4 xQ v0/\(F26 (g_TBuffer (aL v0))).isSome=true) (.tup [.ro 41 (((gt (F26 (g_TBuffer (aL v0)))).1).length) false (enR zK ((gt (F26 (g_TBuffer (aL v0)))).1)),.agg [.int .i64 (((gt (F26 (g_TBuffer (aL v0)))).2.1).Limit),.int .i64 (((gt (F26 (g_TBuffer (aL v0)))).2.1).Stay),.ro 3 ((((gt (F26 (g_TBuffer (aL v0)))).2.1).List).length) false (enR zD (((gt (F26 (g_TBuffer (aL v0)))).2.1).List)),.ro 43 ((((gt (F26 (g_TBuffer (aL v0)))).2.1).Group).length) false (enR zE (((gt (F26 (g_TBuffer (aL v0)))).2.1).Group))],.int .i64 ((gt (F26 (g_TBuffer (aL v0)))).2.2)])
 | _,_=>.fail
theorem ok26:wJ Try.prog 26 (xV body26):=by
 refine uW body26 (rs:=[.tmp 2,.cell 3 25,.tmp 4]) Try.func26 (by kernel_rfl) rfl rfl ?_
 intro l s ob v ns hb hob
 rcases hb with ⟨hb,rfl⟩|hb
 ·unfold body26 at hb
  split at hb
  ·rename_i v0
   injection hb with q1 q2;subst q1 q2
   obtain ⟨hk0_0,hob⟩:=hob
   obtain ⟨r,H⟩:=oE.1 hob
   rw [H,yN]
   have hw0:=wB hk0_0
   generalize g_TBuffer (aL v0)=p0 at H hw0
   refine ⟨[.agg [.int .i64 p0.Limit,.int .i64 p0.Stay,.ro 3 p0.List.length false (enR zD p0.List),.ro 43 p0.Group.length false (enR zE p0.Group)]],.tup [.ro 41 r.1.length false (enR zK r.1),.agg [.int .i64 r.2.1.Limit,.int .i64 r.2.1.Stay,.ro 3 r.2.1.List.length false (enR zD r.2.1.List),.ro 43 r.2.1.Group.length false (enR zE r.2.1.Group)],.int .i64 r.2.2],[],(fun E vs F=>yM hw0.1 F (fun vs F=>F)),by simp only [ren,uS],trivial,?_⟩
   rw [Try.ntmps26]
   simp only [lC,lN,Nat.reduceAdd,Nat.reduceSub,rS,rZ,aC,aN]
   unfold F26 at H
   try dsimp only at H
   refine sq zA ?_
   simp only [go_sem]
   refine zM ?_
   refine zM ?_
   obtain ⟨r1,e2,H⟩:=bsi H
   refine rg ct26t0_ok ?_
   simp only [go_sem,Nat.reduceLT,Nat.reduceAdd,ct26t0_18,wG,e2]
   repeat ((with_reducible refine aI ?_ ?_);exact an0)
   refine sq zA ?_
   simp only [go_sem]
   refine yO rfl trivial (fun hc=>?_) (fun hc=>?_)
   ·have hk3:(bEq r1 0)=false:=by simpa using hc
    replace H:=yA hc H
    refine sq zA ?_
    simp only [go_sem,Nat.reduceAdd]
    repeat ((with_reducible refine aI ?_ ?_);exact an5)
    refine rg zA ?_
    simp only [go_sem,Nat.reduceLT,Nat.reduceAdd]
    obtain rfl:=Option.some.inj H
    refine ⟨[0,1],?_,?_,[],?_,?_,rfl⟩
    ·simp only [go_sem]
     try exact at0
    ·simp only [go_sem]
     try exact at0
    ·simp only [go_sem]
     exact yZ (zC (zL (α:=TFrame)) (zC (yV (zC zG (zC zG (zC (zL (α:=TSleeper)) (zC (zL (α:=TStored)) zQ))))) (zC zG zQ)))
    ·simp only [go_sem,CvH]
   have hk3:(bEq r1 0)=true:=by simpa using hc
   replace H:=zZ hc H
   refine rg zA ?_
   simp only [go_sem]
   refine zM ?_
   obtain ⟨r4,e5,H⟩:=bsi H
   refine rg ct26t1_ok ?_
   simp only [go_sem,Nat.reduceLT,Nat.reduceAdd,ct26t1_65,vZ,e5]
   repeat ((with_reducible refine aI ?_ ?_);exact an0)
   refine zM ?_
   refine jJ [3] ?_ ?_
   ·simp only [go_sem,Nat.reduceBEq]
    try exact at0
   simp only [go_sem,Nat.reduceBEq,Nat.reduceAdd]
   obtain ⟨r6,e7,H⟩:=bsi H
   obtain ⟨r8,e9,H⟩:=bsi H
   refine rg ct26t2_ok ?_
   simp only [go_sem,Nat.reduceLT,Nat.reduceAdd,ct26t2_52,wZ,ct26t2_53,uZ,e7,e9]
   repeat ((with_reducible refine aI ?_ ?_);exact an0)
   refine zM ?_
   refine yQ zT zA 0 (by kernel_rfl) (by kernel_rfl) ?_
   intro an han
   simp only [wO,xU,vM,xrD,xoD,vN,wY,List.append_nil,xC,refs,mask,wE,place,xI,wF,xN,hit,inL,xD,nrH,nrB,nrL,nr,rZ,Nat.sub_self,Nat.add_zero,Nat.zero_add,Nat.reduceSub,Nat.lt_add_one,go_sem,Nat.reduceLeDiff,Nat.reduceLT,Nat.reduceAdd,Nat.reduceSub,Nat.reduceBEq]
   repeat ((with_reducible refine aI ?_ ?_);exact an4)
   refine rg zA ?_
   simp only [go_sem,Nat.reduceLT,Nat.reduceAdd]
   obtain rfl:=Option.some.inj H
   refine ⟨[5,2,0,1],?_,?_,[],?_,?_,rfl⟩
   ·simp only [go_sem,Nat.reduceBEq]
    try exact at0
   ·simp only [go_sem,Nat.reduceBEq]
    try exact at0
   ·simp only [go_sem,Nat.reduceBEq]
    exact yZ (zC (xO (by first|rfl|simp) (fun _ _ _ _=>rfl)) (zC (yV (zC zG (zC zG (zC (xO (by first|rfl|simp) (fun _ _ _ _=>rfl)) (zC (zL (α:=TStored)) zQ))))) (zC zG zQ)))
   ·simp only [go_sem,CvH]
  ·cases hb
 ·unfold body26 at hb
  split at hb<;>cases hb
end Go.Proofs.Ytefiemaoacmdkaa
