/-
  What BufferKeeps reaches.
-/
import Derived.Test.YtefiemaoacmdkaaY9p5
namespace Go.Proofs.Ytefiemaoacmdkaa
open Go.Am
set_option maxHeartbeats 4000000
set_option maxRecDepth 20000
set_option linter.unusedVariables false
set_option linter.unusedSimpArgs false
noncomputable def ct31t0:Ct:=tab [(40,xV fH)]
theorem ct31t0_ok:yY Try.prog ct31t0:=zP ok40 <| zW
theorem ct31t0_40 (l:List AV) (h:List ABlk):ct31t0 40 l h=xV fH l h:=rfl
noncomputable def ct31t1:Ct:=tab [(42,xV body42)]
theorem ct31t1_ok:yY Try.prog ct31t1:=zP ok42 <| zW
theorem ct31t1_42 (l:List AV) (h:List ABlk):ct31t1 42 l h=xV body42 l h:=rfl
noncomputable def ct31t2:Ct:=tab [(50,xV fI)]
theorem ct31t2_ok:yY Try.prog ct31t2:=zP ok50 <| zW
theorem ct31t2_50 (l:List AV) (h:List ABlk):ct31t2 50 l h=xV fI l h:=rfl
noncomputable def ct31t3:Ct:=tab [(21,xV body21)]
theorem ct31t3_ok:yY Try.prog ct31t3:=zP ok21 <| zW
theorem ct31t3_21 (l:List AV) (h:List ABlk):ct31t3 21 l h=xV body21 l h:=rfl
noncomputable def ct31t4:Ct:=tab [(24,xV kY)]
theorem ct31t4_ok:yY Try.prog ct31t4:=zP ok24 <| zW
theorem ct31t4_24 (l:List AV) (h:List ABlk):ct31t4 24 l h=xV kY l h:=rfl
noncomputable def ct31t5:Ct:=tab [(41,xV body41)]
theorem ct31t5_ok:yY Try.prog ct31t5:=zP ok41 <| zW
theorem ct31t5_41 (l:List AV) (h:List ABlk):ct31t5 41 l h=xV body41 l h:=rfl
noncomputable def ct31t6:Ct:=tab [(23,xV fG)]
theorem ct31t6_ok:yY Try.prog ct31t6:=zP ok23 <| zW
theorem ct31t6_23 (l:List AV) (h:List ABlk):ct31t6 23 l h=xV fG l h:=rfl
noncomputable def ct31t7:Ct:=tab [(26,xV body26)]
theorem ct31t7_ok:yY Try.prog ct31t7:=zP ok26 <| zW
theorem ct31t7_26 (l:List AV) (h:List ABlk):ct31t7 26 l h=xV body26 l h:=rfl
noncomputable def ct31t8:Ct:=tab [(25,xV body25)]
theorem ct31t8_ok:yY Try.prog ct31t8:=zP ok25 <| zW
theorem ct31t8_25 (l:List AV) (h:List ABlk):ct31t8 25 l h=xV body25 l h:=rfl
noncomputable def F31 (p0:TBuffer) (p1:TStep):Option ((List TFrame) × (List TFrame) × TBuffer × Int) :=
 bif (bEq p1.Kind 0) then ((F40 p0 p1.Aid).bind fun r2=>some ([],[],r2.1,r2.2)) else (bif (bEq p1.Kind 1) then ((F42 p0 p1.Aid).bind fun r5=>some ([],r5.1,r5.2.1,r5.2.2)) else (bif (bEq p1.Kind 2) then ((F50 p0 p1.Aid).bind fun r8=>some ([],[],r8.1,r8.2)) else (bif (bEq p1.Kind 3) then ((F21 p0 p1.Aid).bind fun r11=>some (r11.1,[],r11.2.1,r11.2.2)) else (bif (bEq p1.Kind 4) then ((F24 p0 p1.Aid p1.Cat p1.Frame p1.Now).bind fun r14=>some (r14.1,r14.2.1,r14.2.2.1,r14.2.2.2)) else (bif (bEq p1.Kind 5) then ((F41 p0 p1.Frame p1.Now).bind fun r17=>some (r17.1,r17.2.1,r17.2.2.1,r17.2.2.2)) else (bif (bEq p1.Kind 6) then ((F23 p0 p1.Aid).bind fun r20=>bif (bEq r20.2.2 0) then (some ([r20.1],[],r20.2.1,r20.2.2)) else (some ([],[],r20.2.1,r20.2.2))) else (bif (bEq p1.Kind 7) then ((F26 p0).bind fun r24=>some (r24.1,[],r24.2.1,r24.2.2)) else (bif (bEq p1.Kind 8) then ((F25 p0 p1.Now).bind fun r27=>some ([],r27.1,r27.2.1,r27.2.2)) else (some ([],[],(TBuffer.mk 0 0 [] []),2))))))))))
noncomputable def body31:List AV->Nat->AR
 | [v0,v1],_=>.pure (aK 4 xQ v0/\aK 45 kK v1/\(F31 (g_TBuffer (aL v0)) (g_TStep (aL v1))).isSome=true) (.tup [.ro 41 (((gt (F31 (g_TBuffer (aL v0)) (g_TStep (aL v1)))).1).length) false (enR zK ((gt (F31 (g_TBuffer (aL v0)) (g_TStep (aL v1)))).1)),.ro 41 (((gt (F31 (g_TBuffer (aL v0)) (g_TStep (aL v1)))).2.1).length) false (enR zK ((gt (F31 (g_TBuffer (aL v0)) (g_TStep (aL v1)))).2.1)),.agg [.int .i64 (((gt (F31 (g_TBuffer (aL v0)) (g_TStep (aL v1)))).2.2.1).Limit),.int .i64 (((gt (F31 (g_TBuffer (aL v0)) (g_TStep (aL v1)))).2.2.1).Stay),.ro 3 ((((gt (F31 (g_TBuffer (aL v0)) (g_TStep (aL v1)))).2.2.1).List).length) false (enR zD (((gt (F31 (g_TBuffer (aL v0)) (g_TStep (aL v1)))).2.2.1).List)),.ro 43 ((((gt (F31 (g_TBuffer (aL v0)) (g_TStep (aL v1)))).2.2.1).Group).length) false (enR zE (((gt (F31 (g_TBuffer (aL v0)) (g_TStep (aL v1)))).2.2.1).Group))],.int .i64 ((gt (F31 (g_TBuffer (aL v0)) (g_TStep (aL v1)))).2.2.2)])
 | _,_=>.fail
theorem ok31:wJ Try.prog 31 (xV body31):=by
 refine uW body31 (rs:=[.tmp 4,.tmp 5,.cell 6 25,.tmp 7]) Try.func31 (by kernel_rfl) rfl rfl ?_
 intro l s ob v ns hb hob
 rcases hb with ⟨hb,rfl⟩|hb
 ·unfold body31 at hb
  split at hb
  ·rename_i v0 v1
   injection hb with q1 q2;subst q1 q2
   obtain ⟨hk0_0,hk1_0,hob⟩:=hob
   obtain ⟨r,H⟩:=oE.1 hob
   rw [H,yN]
   have hw0:=wB hk0_0
   have hw1:=wA_TStep hk1_0
   generalize g_TBuffer (aL v0)=p0 at H hw0
   generalize g_TStep (aL v1)=p1 at H hw1
   refine ⟨[.agg [.int .i64 p0.Limit,.int .i64 p0.Stay,.ro 3 p0.List.length false (enR zD p0.List),.ro 43 p0.Group.length false (enR zE p0.Group)],.agg (.int .i64 p1.Kind::.int .i64 p1.Aid::.int .u8 p1.Cat::.int .i64 p1.Now::.int .u8 p1.Frame.Head.Kind::.int .u8 p1.Frame.Head.Sub::.bool p1.Frame.Head.ToDs::.bool p1.Frame.Head.FromDs::.bool p1.Frame.Head.More::.bool p1.Frame.Head.Retry::.bool p1.Frame.Head.Sleep::.bool p1.Frame.Head.MoreData::.bool p1.Frame.Head.Protected::.int .i64 p1.Frame.Head.Duration::.int .u8 p1.Frame.Head.A1.x0::.int .u8 p1.Frame.Head.A1.x1::.int .u8 p1.Frame.Head.A1.x2::.int .u8 p1.Frame.Head.A1.x3::.int .u8 p1.Frame.Head.A1.x4::.int .u8 p1.Frame.Head.A1.x5::.int .u8 p1.Frame.Head.A2.x0::.int .u8 p1.Frame.Head.A2.x1::.int .u8 p1.Frame.Head.A2.x2::.int .u8 p1.Frame.Head.A2.x3::.int .u8 p1.Frame.Head.A2.x4::.int .u8 p1.Frame.Head.A2.x5::.int .u8 p1.Frame.Head.A3.x0::.int .u8 p1.Frame.Head.A3.x1::.int .u8 p1.Frame.Head.A3.x2::.int .u8 p1.Frame.Head.A3.x3::.int .u8 p1.Frame.Head.A3.x4::.int .u8 p1.Frame.Head.A3.x5::.int .u8 p1.Frame.Head.A4.x0::.int .u8 p1.Frame.Head.A4.x1::.int .u8 p1.Frame.Head.A4.x2::.int .u8 p1.Frame.Head.A4.x3::.int .u8 p1.Frame.Head.A4.x4::.int .u8 p1.Frame.Head.A4.x5::.int .i64 p1.Frame.Head.Seq::.int .i64 p1.Frame.Head.Frag::.int .i64 p1.Frame.Head.Tid::.int .u8 p1.Frame.Head.Ack::.bool p1.Frame.Head.Amsdu::.bool p1.Frame.Head.Eosp::.ro 1 p1.Frame.Body.length false (enR xJ p1.Frame.Body)::[])],.tup [.ro 41 r.1.length false (enR zK r.1),.ro 41 r.2.1.length false (enR zK r.2.1),.agg [.int .i64 r.2.2.1.Limit,.int .i64 r.2.2.1.Stay,.ro 3 r.2.2.1.List.length false (enR zD r.2.2.1.List),.ro 43 r.2.2.1.Group.length false (enR zE r.2.2.1.Group)],.int .i64 r.2.2.2],[],(fun E vs F=>yM hw0.1 F (fun vs F=>yM hw1.1 F (fun vs F=>F))),by simp only [ren,uS],trivial,?_⟩
   rw [Try.ntmps31]
   simp only [lC,lN,Nat.reduceAdd,Nat.reduceSub,rS,rZ,aC,aN]
   unfold F31 at H
   try dsimp only at H
   refine sq zA ?_
   simp only [go_sem,Nat.reduceAdd]
   refine sq zA ?_
   simp only [go_sem]
   refine zM ?_
   refine sq zA ?_
   simp only [go_sem,Nat.reduceLeDiff,Nat.reduceLT,Nat.reduceAdd]
   repeat ((with_reducible refine aI ?_ ?_);exact an5)
   refine wN ?_
   refine sq zA ?_
   simp only [go_sem]
   refine yO rfl trivial (fun hc=>?_) (fun hc=>?_)
   ·have hk1:(bEq p1.Kind 0)=true:=by simpa using hc
    replace H:=yA hc H
    obtain ⟨r2,e3,H⟩:=bsi H
    refine rg ct31t0_ok ?_
    simp only [go_sem,Nat.reduceLeDiff,Nat.reduceLT,Nat.reduceAdd,ct31t0_40,fH,e3]
    repeat ((with_reducible refine aI ?_ ?_);exact an0)
    refine zM ?_
    refine yQ zT zA 0 (by kernel_rfl) (by kernel_rfl) ?_
    intro an han
    simp only [wO,xU,vM,xrD,xoD,vN,wY,List.append_nil,xC,refs,mask,wE,place,xI,wF,xN,hit,inL,xD,nrH,nrB,nrL,nr,rZ,Nat.sub_self,Nat.add_zero,Nat.zero_add,Nat.reduceSub,Nat.lt_add_one,go_sem,Nat.reduceLeDiff,Nat.reduceLT,Nat.reduceAdd,Nat.reduceSub,Nat.reduceBEq]
    repeat ((with_reducible refine aI ?_ ?_);exact an4)
    refine rg zA ?_
    simp only [go_sem,Nat.reduceLT,Nat.reduceAdd]
    obtain rfl:=Option.some.inj H
    refine ⟨[0,1,2],?_,?_,[],?_,?_,rfl⟩
    ·simp only [go_sem]
     try exact at0
    ·simp only [go_sem]
     try exact at0
    ·simp only [go_sem]
     exact yZ (zC (zL (α:=TFrame)) (zC (zL (α:=TFrame)) (zC (yV (zC zG (zC zG (zC (uA (by simp only [nref])) (zC (uA (by simp only [nref])) zQ))))) (zC zG zQ))))
    ·simp only [go_sem,CvH]
   have hk1:(bEq p1.Kind 0)=false:=by simpa using hc
   replace H:=zZ hc H
   refine sq zA ?_
   simp only [go_sem]
   refine yO rfl trivial (fun hc=>?_) (fun hc=>?_)
   ·have hk4:(bEq p1.Kind 1)=true:=by simpa using hc
    replace H:=yA hc H
    obtain ⟨r5,e6,H⟩:=bsi H
    refine rg ct31t1_ok ?_
    simp only [go_sem,Nat.reduceLeDiff,Nat.reduceLT,Nat.reduceAdd,ct31t1_42,body42,e6]
    repeat ((with_reducible refine aI ?_ ?_);exact an0)
    refine zM ?_
    refine yQ zT zA 0 (by kernel_rfl) (by kernel_rfl) ?_
    intro an han
    simp only [wO,xU,vM,xrD,xoD,vN,wY,List.append_nil,xC,refs,mask,wE,place,xI,wF,xN,hit,inL,xD,nrH,nrB,nrL,nr,rZ,Nat.sub_self,Nat.add_zero,Nat.zero_add,Nat.reduceSub,Nat.lt_add_one,go_sem,Nat.reduceLeDiff,Nat.reduceLT,Nat.reduceAdd,Nat.reduceSub,Nat.reduceBEq]
    repeat ((with_reducible refine aI ?_ ?_);exact an4)
    refine rg zA ?_
    simp only [go_sem,Nat.reduceLT,Nat.reduceAdd]
    obtain rfl:=Option.some.inj H
    refine ⟨[0,1,2],?_,?_,[],?_,?_,rfl⟩
    ·simp only [go_sem]
     try exact at0
    ·simp only [go_sem]
     try exact at0
    ·simp only [go_sem]
     exact yZ (zC (zL (α:=TFrame)) (zC (uA (by simp only [nref])) (zC (yV (zC zG (zC zG (zC (uA (by simp only [nref])) (zC (uA (by simp only [nref])) zQ))))) (zC zG zQ))))
    ·simp only [go_sem,CvH]
   have hk4:(bEq p1.Kind 1)=false:=by simpa using hc
   replace H:=zZ hc H
   refine sq zA ?_
   simp only [go_sem]
   refine yO rfl trivial (fun hc=>?_) (fun hc=>?_)
   ·have hk7:(bEq p1.Kind 2)=true:=by simpa using hc
    replace H:=yA hc H
    obtain ⟨r8,e9,H⟩:=bsi H
    refine rg ct31t2_ok ?_
    simp only [go_sem,Nat.reduceLeDiff,Nat.reduceLT,Nat.reduceAdd,ct31t2_50,fI,e9]
    repeat ((with_reducible refine aI ?_ ?_);exact an0)
    refine zM ?_
    refine yQ zT zA 0 (by kernel_rfl) (by kernel_rfl) ?_
    intro an han
    simp only [wO,xU,vM,xrD,xoD,vN,wY,List.append_nil,xC,refs,mask,wE,place,xI,wF,xN,hit,inL,xD,nrH,nrB,nrL,nr,rZ,Nat.sub_self,Nat.add_zero,Nat.zero_add,Nat.reduceSub,Nat.lt_add_one,go_sem,Nat.reduceLeDiff,Nat.reduceLT,Nat.reduceAdd,Nat.reduceSub,Nat.reduceBEq]
    repeat ((with_reducible refine aI ?_ ?_);exact an4)
    refine rg zA ?_
    simp only [go_sem,Nat.reduceLT,Nat.reduceAdd]
    obtain rfl:=Option.some.inj H
    refine ⟨[0,1,2],?_,?_,[],?_,?_,rfl⟩
    ·simp only [go_sem]
     try exact at0
    ·simp only [go_sem]
     try exact at0
    ·simp only [go_sem]
     exact yZ (zC (zL (α:=TFrame)) (zC (zL (α:=TFrame)) (zC (yV (zC zG (zC zG (zC (uA (by simp only [nref])) (zC (uA (by simp only [nref])) zQ))))) (zC zG zQ))))
    ·simp only [go_sem,CvH]
   have hk7:(bEq p1.Kind 2)=false:=by simpa using hc
   replace H:=zZ hc H
   refine sq zA ?_
   simp only [go_sem]
   refine yO rfl trivial (fun hc=>?_) (fun hc=>?_)
   ·have hk10:(bEq p1.Kind 3)=true:=by simpa using hc
    replace H:=yA hc H
    obtain ⟨r11,e12,H⟩:=bsi H
    refine rg ct31t3_ok ?_
    simp only [go_sem,Nat.reduceLeDiff,Nat.reduceLT,Nat.reduceAdd,ct31t3_21,body21,e12]
    repeat ((with_reducible refine aI ?_ ?_);exact an0)
    refine zM ?_
    refine yQ zT zA 0 (by kernel_rfl) (by kernel_rfl) ?_
    intro an han
    simp only [wO,xU,vM,xrD,xoD,vN,wY,List.append_nil,xC,refs,mask,wE,place,xI,wF,xN,hit,inL,xD,nrH,nrB,nrL,nr,rZ,Nat.sub_self,Nat.add_zero,Nat.zero_add,Nat.reduceSub,Nat.lt_add_one,go_sem,Nat.reduceLeDiff,Nat.reduceLT,Nat.reduceAdd,Nat.reduceSub,Nat.reduceBEq]
    repeat ((with_reducible refine aI ?_ ?_);exact an4)
    refine rg zA ?_
    simp only [go_sem,Nat.reduceLT,Nat.reduceAdd]
    obtain rfl:=Option.some.inj H
    refine ⟨[0,1,2],?_,?_,[],?_,?_,rfl⟩
    ·simp only [go_sem]
     try exact at0
    ·simp only [go_sem]
     try exact at0
    ·simp only [go_sem]
     exact yZ (zC (uA (by simp only [nref])) (zC (zL (α:=TFrame)) (zC (yV (zC zG (zC zG (zC (uA (by simp only [nref])) (zC (uA (by simp only [nref])) zQ))))) (zC zG zQ))))
    ·simp only [go_sem,CvH]
   have hk10:(bEq p1.Kind 3)=false:=by simpa using hc
   replace H:=zZ hc H
   refine sq zA ?_
   simp only [go_sem]
   refine yO rfl trivial (fun hc=>?_) (fun hc=>?_)
   ·have hk13:(bEq p1.Kind 4)=true:=by simpa using hc
    replace H:=yA hc H
    obtain ⟨r14,e15,H⟩:=bsi H
    refine rg ct31t4_ok ?_
    simp only [go_sem,Nat.reduceLeDiff,Nat.reduceLT,Nat.reduceAdd,reduceCtorEq,ct31t4_24,kY,e15]
    repeat ((with_reducible refine aI ?_ ?_);exact an0)
    refine zM ?_
    refine yQ zT zA 0 (by kernel_rfl) (by kernel_rfl) ?_
    intro an han
    simp only [wO,xU,vM,xrD,xoD,vN,wY,List.append_nil,xC,refs,mask,wE,place,xI,wF,xN,hit,inL,xD,nrH,nrB,nrL,nr,rZ,Nat.sub_self,Nat.add_zero,Nat.zero_add,Nat.reduceSub,Nat.lt_add_one,go_sem,Nat.reduceLeDiff,Nat.reduceLT,Nat.reduceAdd,Nat.reduceSub,Nat.reduceBEq]
    repeat ((with_reducible refine aI ?_ ?_);exact an4)
    refine rg zA ?_
    simp only [go_sem,Nat.reduceLT,Nat.reduceAdd]
    obtain rfl:=Option.some.inj H
    refine ⟨[0,1,2],?_,?_,[],?_,?_,rfl⟩
    ·simp only [go_sem]
     try exact at0
    ·simp only [go_sem]
     try exact at0
    ·simp only [go_sem]
     exact yZ (zC (uA (by simp only [nref])) (zC (uA (by simp only [nref])) (zC (yV (zC zG (zC zG (zC (uA (by simp only [nref])) (zC (uA (by simp only [nref])) zQ))))) (zC zG zQ))))
    ·simp only [go_sem,CvH]
   have hk13:(bEq p1.Kind 4)=false:=by simpa using hc
   replace H:=zZ hc H
   refine sq zA ?_
   simp only [go_sem]
   refine yO rfl trivial (fun hc=>?_) (fun hc=>?_)
   ·have hk16:(bEq p1.Kind 5)=true:=by simpa using hc
    replace H:=yA hc H
    obtain ⟨r17,e18,H⟩:=bsi H
    refine rg ct31t5_ok ?_
    simp only [go_sem,Nat.reduceLeDiff,Nat.reduceLT,Nat.reduceAdd,reduceCtorEq,ct31t5_41,body41,e18]
    repeat ((with_reducible refine aI ?_ ?_);exact an0)
    refine zM ?_
    refine yQ zT zA 0 (by kernel_rfl) (by kernel_rfl) ?_
    intro an han
    simp only [wO,xU,vM,xrD,xoD,vN,wY,List.append_nil,xC,refs,mask,wE,place,xI,wF,xN,hit,inL,xD,nrH,nrB,nrL,nr,rZ,Nat.sub_self,Nat.add_zero,Nat.zero_add,Nat.reduceSub,Nat.lt_add_one,go_sem,Nat.reduceLeDiff,Nat.reduceLT,Nat.reduceAdd,Nat.reduceSub,Nat.reduceBEq]
    repeat ((with_reducible refine aI ?_ ?_);exact an4)
    refine rg zA ?_
    simp only [go_sem,Nat.reduceLT,Nat.reduceAdd]
    obtain rfl:=Option.some.inj H
    refine ⟨[0,1,2],?_,?_,[],?_,?_,rfl⟩
    ·simp only [go_sem]
     try exact at0
    ·simp only [go_sem]
     try exact at0
    ·simp only [go_sem]
     exact yZ (zC (uA (by simp only [nref])) (zC (uA (by simp only [nref])) (zC (yV (zC zG (zC zG (zC (uA (by simp only [nref])) (zC (uA (by simp only [nref])) zQ))))) (zC zG zQ))))
    ·simp only [go_sem,CvH]
   have hk16:(bEq p1.Kind 5)=false:=by simpa using hc
   replace H:=zZ hc H
   refine sq zA ?_
   simp only [go_sem]
   refine yO rfl trivial (fun hc=>?_) (fun hc=>?_)
   ·have hk19:(bEq p1.Kind 6)=true:=by simpa using hc
    replace H:=yA hc H
    refine zM ?_
    obtain ⟨r20,e21,H⟩:=bsi H
    refine rg ct31t6_ok ?_
    simp only [go_sem,Nat.reduceLeDiff,Nat.reduceLT,Nat.reduceAdd,ct31t6_23,fG,e21]
    repeat ((with_reducible refine aI ?_ ?_);exact an0)
    refine sq zA ?_
    simp only [go_sem,Nat.reduceLT,Nat.reduceAdd]
    repeat ((with_reducible refine aI ?_ ?_);exact an5)
    refine sq zA ?_
    simp only [go_sem]
    refine condM' rfl trivial (fun hc=>?_) (fun hc=>?_)
    ·have hk22:(bEq r20.2.2 0)=false:=by simpa using hc
     replace H:=zZ hc H
     refine rg zA ?_
     simp only [go_sem]
     refine zM ?_
     refine yQ zT zA 0 (by kernel_rfl) (by kernel_rfl) ?_
     intro an han
     simp only [wO,xU,vM,xrD,xoD,vN,wY,List.append_nil,xC,refs,mask,wE,place,xI,wF,xN,hit,inL,xD,nrH,nrB,nrL,nr,rZ,Nat.sub_self,Nat.add_zero,Nat.zero_add,Nat.reduceSub,Nat.lt_add_one,go_sem,Nat.reduceLeDiff,Nat.reduceLT,Nat.reduceAdd,Nat.reduceSub,Nat.reduceBEq]
     repeat ((with_reducible refine aI ?_ ?_);exact an4)
     refine rg zA ?_
     simp only [go_sem,Nat.reduceLT,Nat.reduceAdd]
     obtain rfl:=Option.some.inj H
     refine ⟨[0,1,2,3,4],?_,?_,[],?_,?_,rfl⟩
     ·simp only [go_sem]
      try exact at0
     ·simp only [go_sem]
      try exact at0
     ·simp only [go_sem]
      exact yZ (zC (zL (α:=TFrame)) (zC (zL (α:=TFrame)) (zC (yV (zC zG (zC zG (zC (uA (by simp only [nref])) (zC (uA (by simp only [nref])) zQ))))) (zC zG zQ))))
     ·simp only [go_sem,CvH]
    have hk22:(bEq r20.2.2 0)=true:=by simpa using hc
    replace H:=yA hc H
    refine rg zA ?_
    simp only [go_sem,Nat.reduceLeDiff,Nat.reduceLT,Nat.reduceAdd]
    repeat ((with_reducible refine aI ?_ ?_);exact an5)
    refine zM ?_
    refine yQ zT zA 0 (by kernel_rfl) (by kernel_rfl) ?_
    intro an han
    simp only [wO,xU,vM,xrD,xoD,vN,wY,List.append_nil,xC,refs,mask,wE,place,xI,wF,xN,hit,inL,xD,nrH,nrB,nrL,nr,rZ,Nat.sub_self,Nat.add_zero,Nat.zero_add,Nat.reduceSub,Nat.lt_add_one,go_sem,Nat.reduceLeDiff,Nat.reduceLT,Nat.reduceAdd,Nat.reduceSub,Nat.reduceBEq]
    repeat ((with_reducible refine aI ?_ ?_);exact an6)
    refine rg zA ?_
    simp only [go_sem,Nat.reduceLT,Nat.reduceAdd]
    obtain rfl:=Option.some.inj H
    refine ⟨[5,0,1,2,3,4],?_,?_,[],?_,?_,rfl⟩
    ·simp only [go_sem,Nat.reduceBEq]
     try exact at0
    ·simp only [go_sem]
     try exact at0
    ·simp only [go_sem,Nat.reduceBEq]
     exact yZ (zC (xO (by first|rfl|simp) (wV (f:=zK) [r20.1] (fun _ _=>rfl) rfl)) (zC (zL (α:=TFrame)) (zC (yV (zC zG (zC zG (zC (uA (by simp only [nref])) (zC (uA (by simp only [nref])) zQ))))) (zC zG zQ))))
    ·simp only [go_sem,CvH]
   have hk19:(bEq p1.Kind 6)=false:=by simpa using hc
   replace H:=zZ hc H
   refine sq zA ?_
   simp only [go_sem]
   refine yO rfl trivial (fun hc=>?_) (fun hc=>?_)
   ·have hk23:(bEq p1.Kind 7)=true:=by simpa using hc
    replace H:=yA hc H
    obtain ⟨r24,e25,H⟩:=bsi H
    refine rg ct31t7_ok ?_
    simp only [go_sem,Nat.reduceLT,Nat.reduceAdd,ct31t7_26,body26,e25]
    repeat ((with_reducible refine aI ?_ ?_);exact an0)
    refine zM ?_
    refine yQ zT zA 0 (by kernel_rfl) (by kernel_rfl) ?_
    intro an han
    simp only [wO,xU,vM,xrD,xoD,vN,wY,List.append_nil,xC,refs,mask,wE,place,xI,wF,xN,hit,inL,xD,nrH,nrB,nrL,nr,rZ,Nat.sub_self,Nat.add_zero,Nat.zero_add,Nat.reduceSub,Nat.lt_add_one,go_sem,Nat.reduceLeDiff,Nat.reduceLT,Nat.reduceAdd,Nat.reduceSub,Nat.reduceBEq]
    repeat ((with_reducible refine aI ?_ ?_);exact an4)
    refine rg zA ?_
    simp only [go_sem,Nat.reduceLT,Nat.reduceAdd]
    obtain rfl:=Option.some.inj H
    refine ⟨[0,1,2],?_,?_,[],?_,?_,rfl⟩
    ·simp only [go_sem]
     try exact at0
    ·simp only [go_sem]
     try exact at0
    ·simp only [go_sem]
     exact yZ (zC (uA (by simp only [nref])) (zC (zL (α:=TFrame)) (zC (yV (zC zG (zC zG (zC (uA (by simp only [nref])) (zC (uA (by simp only [nref])) zQ))))) (zC zG zQ))))
    ·simp only [go_sem,CvH]
   have hk23:(bEq p1.Kind 7)=false:=by simpa using hc
   replace H:=zZ hc H
   refine sq zA ?_
   simp only [go_sem]
   refine condM' rfl trivial (fun hc=>?_) (fun hc=>?_)
   ·have hk26:(bEq p1.Kind 8)=false:=by simpa using hc
    replace H:=zZ hc H
    refine rg zA ?_
    simp only [go_sem]
    refine zM ?_
    refine yQ zT zA 0 (by kernel_rfl) (by kernel_rfl) ?_
    intro an han
    simp only [wO,xU,vM,xrD,xoD,vN,wY,List.append_nil,xC,refs,mask,wE,place,xI,wF,xN,hit,inL,xD,nrH,nrB,nrL,nr,rZ,Nat.sub_self,Nat.add_zero,Nat.zero_add,Nat.reduceSub,Nat.lt_add_one,go_sem,Nat.reduceLeDiff,Nat.reduceLT,Nat.reduceAdd,Nat.reduceSub,Nat.reduceBEq]
    repeat ((with_reducible refine aI ?_ ?_);exact an4)
    refine rg zA ?_
    simp only [go_sem,Nat.reduceLT,Nat.reduceAdd]
    obtain rfl:=Option.some.inj H
    refine ⟨[0,1,2],?_,?_,[],?_,?_,rfl⟩
    ·simp only [go_sem]
     try exact at0
    ·simp only [go_sem]
     try exact at0
    ·simp only [go_sem]
     exact yZ (zC (zL (α:=TFrame)) (zC (zL (α:=TFrame)) (zC (yV (zC zG (zC zG (zC (zL (α:=TSleeper)) (zC (zL (α:=TStored)) zQ))))) (zC zG zQ))))
    ·simp only [go_sem,CvH]
   have hk26:(bEq p1.Kind 8)=true:=by simpa using hc
   replace H:=yA hc H
   obtain ⟨r27,e28,H⟩:=bsi H
   refine rg ct31t8_ok ?_
   simp only [go_sem,Nat.reduceLeDiff,Nat.reduceLT,Nat.reduceAdd,ct31t8_25,body25,e28]
   repeat ((with_reducible refine aI ?_ ?_);exact an0)
   refine zM ?_
   refine yQ zT zA 0 (by kernel_rfl) (by kernel_rfl) ?_
   intro an han
   simp only [wO,xU,vM,xrD,xoD,vN,wY,List.append_nil,xC,refs,mask,wE,place,xI,wF,xN,hit,inL,xD,nrH,nrB,nrL,nr,rZ,Nat.sub_self,Nat.add_zero,Nat.zero_add,Nat.reduceSub,Nat.lt_add_one,go_sem,Nat.reduceLeDiff,Nat.reduceLT,Nat.reduceAdd,Nat.reduceSub,Nat.reduceBEq]
   repeat ((with_reducible refine aI ?_ ?_);exact an4)
   refine rg zA ?_
   simp only [go_sem,Nat.reduceLT,Nat.reduceAdd]
   obtain rfl:=Option.some.inj H
   refine ⟨[0,1,2],?_,?_,[],?_,?_,rfl⟩
   ·simp only [go_sem]
    try exact at0
   ·simp only [go_sem]
    try exact at0
   ·simp only [go_sem]
    exact yZ (zC (zL (α:=TFrame)) (zC (uA (by simp only [nref])) (zC (yV (zC zG (zC zG (zC (uA (by simp only [nref])) (zC (uA (by simp only [nref])) zQ))))) (zC zG zQ))))
   ·simp only [go_sem,CvH]
  ·cases hb
 ·unfold body31 at hb
  split at hb<;>cases hb
noncomputable def F36 (p0:TFrame) (p1:TFrame):Option (Bool) :=
 need (bif (bEq p0.Head.Kind p1.Head.Kind && (bEq p0.Head.Sub p1.Head.Sub && (bB p0.Head.ToDs p1.Head.ToDs && (bB p0.Head.FromDs p1.Head.FromDs && (bB p0.Head.More p1.Head.More && (bB p0.Head.Retry p1.Head.Retry && (bB p0.Head.Sleep p1.Head.Sleep && (bB p0.Head.MoreData p1.Head.MoreData && (bB p0.Head.Protected p1.Head.Protected && (bEq p0.Head.Duration p1.Head.Duration && (bEq p0.Head.A1.x0 p1.Head.A1.x0 && (bEq p0.Head.A1.x1 p1.Head.A1.x1 && (bEq p0.Head.A1.x2 p1.Head.A1.x2 && (bEq p0.Head.A1.x3 p1.Head.A1.x3 && (bEq p0.Head.A1.x4 p1.Head.A1.x4 && (bEq p0.Head.A1.x5 p1.Head.A1.x5 && (bEq p0.Head.A2.x0 p1.Head.A2.x0 && (bEq p0.Head.A2.x1 p1.Head.A2.x1 && (bEq p0.Head.A2.x2 p1.Head.A2.x2 && (bEq p0.Head.A2.x3 p1.Head.A2.x3 && (bEq p0.Head.A2.x4 p1.Head.A2.x4 && (bEq p0.Head.A2.x5 p1.Head.A2.x5 && (bEq p0.Head.A3.x0 p1.Head.A3.x0 && (bEq p0.Head.A3.x1 p1.Head.A3.x1 && (bEq p0.Head.A3.x2 p1.Head.A3.x2 && (bEq p0.Head.A3.x3 p1.Head.A3.x3 && (bEq p0.Head.A3.x4 p1.Head.A3.x4 && (bEq p0.Head.A3.x5 p1.Head.A3.x5 && (bEq p0.Head.A4.x0 p1.Head.A4.x0 && (bEq p0.Head.A4.x1 p1.Head.A4.x1 && (bEq p0.Head.A4.x2 p1.Head.A4.x2 && (bEq p0.Head.A4.x3 p1.Head.A4.x3 && (bEq p0.Head.A4.x4 p1.Head.A4.x4 && (bEq p0.Head.A4.x5 p1.Head.A4.x5 && (bEq p0.Head.Seq p1.Head.Seq && (bEq p0.Head.Frag p1.Head.Frag && (bEq p0.Head.Tid p1.Head.Tid && (bEq p0.Head.Ack p1.Head.Ack && (bB p0.Head.Amsdu p1.Head.Amsdu && (bB p0.Head.Eosp p1.Head.Eosp)))))))))))))))))))))))))))))))))))))))) then u8b p0.Body.length (enR xJ p0.Body) else true) <| need (bif (bEq p0.Head.Kind p1.Head.Kind && (bEq p0.Head.Sub p1.Head.Sub && (bB p0.Head.ToDs p1.Head.ToDs && (bB p0.Head.FromDs p1.Head.FromDs && (bB p0.Head.More p1.Head.More && (bB p0.Head.Retry p1.Head.Retry && (bB p0.Head.Sleep p1.Head.Sleep && (bB p0.Head.MoreData p1.Head.MoreData && (bB p0.Head.Protected p1.Head.Protected && (bEq p0.Head.Duration p1.Head.Duration && (bEq p0.Head.A1.x0 p1.Head.A1.x0 && (bEq p0.Head.A1.x1 p1.Head.A1.x1 && (bEq p0.Head.A1.x2 p1.Head.A1.x2 && (bEq p0.Head.A1.x3 p1.Head.A1.x3 && (bEq p0.Head.A1.x4 p1.Head.A1.x4 && (bEq p0.Head.A1.x5 p1.Head.A1.x5 && (bEq p0.Head.A2.x0 p1.Head.A2.x0 && (bEq p0.Head.A2.x1 p1.Head.A2.x1 && (bEq p0.Head.A2.x2 p1.Head.A2.x2 && (bEq p0.Head.A2.x3 p1.Head.A2.x3 && (bEq p0.Head.A2.x4 p1.Head.A2.x4 && (bEq p0.Head.A2.x5 p1.Head.A2.x5 && (bEq p0.Head.A3.x0 p1.Head.A3.x0 && (bEq p0.Head.A3.x1 p1.Head.A3.x1 && (bEq p0.Head.A3.x2 p1.Head.A3.x2 && (bEq p0.Head.A3.x3 p1.Head.A3.x3 && (bEq p0.Head.A3.x4 p1.Head.A3.x4 && (bEq p0.Head.A3.x5 p1.Head.A3.x5 && (bEq p0.Head.A4.x0 p1.Head.A4.x0 && (bEq p0.Head.A4.x1 p1.Head.A4.x1 && (bEq p0.Head.A4.x2 p1.Head.A4.x2 && (bEq p0.Head.A4.x3 p1.Head.A4.x3 && (bEq p0.Head.A4.x4 p1.Head.A4.x4 && (bEq p0.Head.A4.x5 p1.Head.A4.x5 && (bEq p0.Head.Seq p1.Head.Seq && (bEq p0.Head.Frag p1.Head.Frag && (bEq p0.Head.Tid p1.Head.Tid && (bEq p0.Head.Ack p1.Head.Ack && (bB p0.Head.Amsdu p1.Head.Amsdu && (bB p0.Head.Eosp p1.Head.Eosp)))))))))))))))))))))))))))))))))))))))) then u8b p1.Body.length (enR xJ p1.Body) else true) <| some ((bEq p0.Head.Kind p1.Head.Kind && (bEq p0.Head.Sub p1.Head.Sub && (bB p0.Head.ToDs p1.Head.ToDs && (bB p0.Head.FromDs p1.Head.FromDs && (bB p0.Head.More p1.Head.More && (bB p0.Head.Retry p1.Head.Retry && (bB p0.Head.Sleep p1.Head.Sleep && (bB p0.Head.MoreData p1.Head.MoreData && (bB p0.Head.Protected p1.Head.Protected && (bEq p0.Head.Duration p1.Head.Duration && (bEq p0.Head.A1.x0 p1.Head.A1.x0 && (bEq p0.Head.A1.x1 p1.Head.A1.x1 && (bEq p0.Head.A1.x2 p1.Head.A1.x2 && (bEq p0.Head.A1.x3 p1.Head.A1.x3 && (bEq p0.Head.A1.x4 p1.Head.A1.x4 && (bEq p0.Head.A1.x5 p1.Head.A1.x5 && (bEq p0.Head.A2.x0 p1.Head.A2.x0 && (bEq p0.Head.A2.x1 p1.Head.A2.x1 && (bEq p0.Head.A2.x2 p1.Head.A2.x2 && (bEq p0.Head.A2.x3 p1.Head.A2.x3 && (bEq p0.Head.A2.x4 p1.Head.A2.x4 && (bEq p0.Head.A2.x5 p1.Head.A2.x5 && (bEq p0.Head.A3.x0 p1.Head.A3.x0 && (bEq p0.Head.A3.x1 p1.Head.A3.x1 && (bEq p0.Head.A3.x2 p1.Head.A3.x2 && (bEq p0.Head.A3.x3 p1.Head.A3.x3 && (bEq p0.Head.A3.x4 p1.Head.A3.x4 && (bEq p0.Head.A3.x5 p1.Head.A3.x5 && (bEq p0.Head.A4.x0 p1.Head.A4.x0 && (bEq p0.Head.A4.x1 p1.Head.A4.x1 && (bEq p0.Head.A4.x2 p1.Head.A4.x2 && (bEq p0.Head.A4.x3 p1.Head.A4.x3 && (bEq p0.Head.A4.x4 p1.Head.A4.x4 && (bEq p0.Head.A4.x5 p1.Head.A4.x5 && (bEq p0.Head.Seq p1.Head.Seq && (bEq p0.Head.Frag p1.Head.Frag && (bEq p0.Head.Tid p1.Head.Tid && (bEq p0.Head.Ack p1.Head.Ack && (bB p0.Head.Amsdu p1.Head.Amsdu && (bB p0.Head.Eosp p1.Head.Eosp)))))))))))))))))))))))))))))))))))))))) && (sEq (bytesC p0.Body.length (enR xJ p0.Body)) (bytesC p1.Body.length (enR xJ p1.Body))))
noncomputable def body36:List AV->AR
 | [v0,v1]=>.pure (aK 41 vE v0/\aK 41 vE v1/\(F36 (zS (aL v0)) (zS (aL v1))).isSome=true) (.bool (gt (F36 (zS (aL v0)) (zS (aL v1)))))
 | _=>.fail
theorem ok36:wJ Try.prog 36 (yB body36):=by
 refine xR body36 (rs:=[.tmp 4]) Try.func36 (by kernel_rfl) rfl rfl ?_
 intro l ob v hb hob
 unfold body36 at hb
 split at hb
 ·rename_i v0 v1
  injection hb with q1 q2;subst q1 q2
  obtain ⟨hk0_0,hk1_0,hob⟩:=hob
  obtain ⟨r,H⟩:=oE.1 hob
  rw [H,yN]
  have hw0:=qI hk0_0
  have hw1:=qI hk1_0
  generalize zS (aL v0)=p0 at H hw0
  generalize zS (aL v1)=p1 at H hw1
  refine ⟨[.agg (.int .u8 p0.Head.Kind::.int .u8 p0.Head.Sub::.bool p0.Head.ToDs::.bool p0.Head.FromDs::.bool p0.Head.More::.bool p0.Head.Retry::.bool p0.Head.Sleep::.bool p0.Head.MoreData::.bool p0.Head.Protected::.int .i64 p0.Head.Duration::.int .u8 p0.Head.A1.x0::.int .u8 p0.Head.A1.x1::.int .u8 p0.Head.A1.x2::.int .u8 p0.Head.A1.x3::.int .u8 p0.Head.A1.x4::.int .u8 p0.Head.A1.x5::.int .u8 p0.Head.A2.x0::.int .u8 p0.Head.A2.x1::.int .u8 p0.Head.A2.x2::.int .u8 p0.Head.A2.x3::.int .u8 p0.Head.A2.x4::.int .u8 p0.Head.A2.x5::.int .u8 p0.Head.A3.x0::.int .u8 p0.Head.A3.x1::.int .u8 p0.Head.A3.x2::.int .u8 p0.Head.A3.x3::.int .u8 p0.Head.A3.x4::.int .u8 p0.Head.A3.x5::.int .u8 p0.Head.A4.x0::.int .u8 p0.Head.A4.x1::.int .u8 p0.Head.A4.x2::.int .u8 p0.Head.A4.x3::.int .u8 p0.Head.A4.x4::.int .u8 p0.Head.A4.x5::.int .i64 p0.Head.Seq::.int .i64 p0.Head.Frag::.int .i64 p0.Head.Tid::.int .u8 p0.Head.Ack::.bool p0.Head.Amsdu::.bool p0.Head.Eosp::.ro 1 p0.Body.length false (enR xJ p0.Body)::[]),.agg (.int .u8 p1.Head.Kind::.int .u8 p1.Head.Sub::.bool p1.Head.ToDs::.bool p1.Head.FromDs::.bool p1.Head.More::.bool p1.Head.Retry::.bool p1.Head.Sleep::.bool p1.Head.MoreData::.bool p1.Head.Protected::.int .i64 p1.Head.Duration::.int .u8 p1.Head.A1.x0::.int .u8 p1.Head.A1.x1::.int .u8 p1.Head.A1.x2::.int .u8 p1.Head.A1.x3::.int .u8 p1.Head.A1.x4::.int .u8 p1.Head.A1.x5::.int .u8 p1.Head.A2.x0::.int .u8 p1.Head.A2.x1::.int .u8 p1.Head.A2.x2::.int .u8 p1.Head.A2.x3::.int .u8 p1.Head.A2.x4::.int .u8 p1.Head.A2.x5::.int .u8 p1.Head.A3.x0::.int .u8 p1.Head.A3.x1::.int .u8 p1.Head.A3.x2::.int .u8 p1.Head.A3.x3::.int .u8 p1.Head.A3.x4::.int .u8 p1.Head.A3.x5::.int .u8 p1.Head.A4.x0::.int .u8 p1.Head.A4.x1::.int .u8 p1.Head.A4.x2::.int .u8 p1.Head.A4.x3::.int .u8 p1.Head.A4.x4::.int .u8 p1.Head.A4.x5::.int .i64 p1.Head.Seq::.int .i64 p1.Head.Frag::.int .i64 p1.Head.Tid::.int .u8 p1.Head.Ack::.bool p1.Head.Amsdu::.bool p1.Head.Eosp::.ro 1 p1.Body.length false (enR xJ p1.Body)::[])],_,(fun E vs F=>yM hw0.1 F (fun vs F=>yM hw1.1 F (fun vs F=>F))),rfl,rfl,?_⟩
  rw [Try.ntmps36]
  simp only [lC,lN,Nat.reduceAdd,Nat.reduceSub,rS,rZ,aC,aN]
  unfold F36 at H
  try dsimp only at H
  refine sq zA ?_
  simp only [go_sem]
  refine zM ?_
  obtain ⟨f1,H⟩:=yP.1 H
  replace f1:=vW.1 f1
  replace f1:=fun g=>u8b_iff.1 (f1 g)
  obtain ⟨f2,H⟩:=yP.1 H
  replace f2:=vW.1 f2
  replace f2:=fun g=>u8b_iff.1 (f2 g)
  refine rg zA ?_
  simp only [go_sem,Nat.reduceLeDiff,Nat.reduceLT,Nat.reduceAdd,reduceCtorEq]
  repeat ((with_reducible refine And.intro ?_ ?_);focus (first|(with_reducible trivial)|omega|exact f1|exact f2|(intro g;have q:=f1 (by first|exact g|(rw [g];rfl)|simpa using g);first|exact q|exact ⟨q.1,q.2.1⟩|exact q.2.2|omega|exact ⟨g,q⟩|exact ⟨trivial,q⟩|exact ⟨g,q.1,q.2.1⟩|exact ⟨g,q.2.2⟩)|(intro g;have q:=f2 (by first|exact g|(rw [g];rfl)|simpa using g);first|exact q|exact ⟨q.1,q.2.1⟩|exact q.2.2|omega|exact ⟨g,q⟩|exact ⟨trivial,q⟩|exact ⟨g,q.1,q.2.1⟩|exact ⟨g,q.2.2⟩)|grind))
  refine rg zA ?_
  simp only [go_sem]
  obtain rfl:=Option.some.inj H
  first|rfl|simp only [Bool.and_false,Bool.false_and,Bool.and_true,Bool.true_and]
 ·cases hb
noncomputable def ct45t0:Ct:=tab [(36,yB body36)]
theorem ct45t0_ok:yY Try.prog ct45t0:=zP ok36 <| zW
theorem ct45t0_36 (l:List AV) (h:List ABlk):ct45t0 36 l h=yB body36 l h:=rfl
noncomputable def cE (p0:List TStored) (p1:List TStored) (v1_1:Int):Option (Lp (Int) ((Unit) ⊕ (Bool))) :=
 bif (bLt v1_1 (p0.length:Nat)) then (need (inb v1_1 p0.length) <| need (inb v1_1 p1.length) <| need (bif (!(!bEq ((gd p0 v1_1.toNat).Cat) ((gd p1 v1_1.toNat).Cat))) then inb v1_1 p0.length else true) <| need (bif (!(!bEq ((gd p0 v1_1.toNat).Cat) ((gd p1 v1_1.toNat).Cat))) then inb v1_1 p1.length else true) <| need (bif (!((!bEq ((gd p0 v1_1.toNat).Cat) ((gd p1 v1_1.toNat).Cat)) || (!bEq ((gd p0 v1_1.toNat).At) ((gd p1 v1_1.toNat).At)))) then inb v1_1 p0.length else true) <| need (bif (!((!bEq ((gd p0 v1_1.toNat).Cat) ((gd p1 v1_1.toNat).Cat)) || (!bEq ((gd p0 v1_1.toNat).At) ((gd p1 v1_1.toNat).At)))) then inb v1_1 p1.length else true) <| need (bif (!((!bEq ((gd p0 v1_1.toNat).Cat) ((gd p1 v1_1.toNat).Cat)) || (!bEq ((gd p0 v1_1.toNat).At) ((gd p1 v1_1.toNat).At)))) then ((F36 (eF ((gd p0 v1_1.toNat).Frame)) (eF ((gd p1 v1_1.toNat).Frame))).isSome) else true) <| bif (((!bEq ((gd p0 v1_1.toNat).Cat) ((gd p1 v1_1.toNat).Cat)) || (!bEq ((gd p0 v1_1.toNat).At) ((gd p1 v1_1.toNat).At))) || (!(gt (F36 (eF ((gd p0 v1_1.toNat).Frame)) (eF ((gd p1 v1_1.toNat).Frame)))))) then (some (.done (.inr false))) else (some (.next (wr .i64 (v1_1+1))))) else (some (.done (.inl ())))
noncomputable def F45 (p0:List TStored) (p1:List TStored):Option (Bool) :=
 bif (!bEq (p0.length:Nat) (p1.length:Nat)) then (some false) else (lp (xH (fun s=>cE p0 p1 s) 0) (fun _=>some true) some)
noncomputable def body45:List AV->AR
 | [v0,v1]=>.pure (lK xS 43 v0/\lK xS 43 v1/\(F45 (lA yD v0) (lA yD v1)).isSome=true) (.bool (gt (F45 (lA yD v0) (lA yD v1))))
 | _=>.fail
theorem ok45:wJ Try.prog 45 (yB body45):=by
 refine xR body45 (rs:=[.tmp 4]) Try.func45 (by kernel_rfl) rfl rfl ?_
 intro l ob v hb hob
 unfold body45 at hb
 split at hb
 ·rename_i v0 v1
  injection hb with q1 q2;subst q1 q2
  obtain ⟨hk0_0,hk1_0,hob⟩:=hob
  obtain ⟨r,H⟩:=oE.1 hob
  rw [H,yN]
  have hw0:=tU (fun r h=>vQ h) hk0_0
  have hw1:=tU (fun r h=>vQ h) hk1_0
  generalize lA yD v0=p0 at H hw0
  generalize lA yD v1=p1 at H hw1
  refine ⟨[.ro 43 p0.length false (enR zE p0),.ro 43 p1.length false (enR zE p1)],_,(fun E vs F=>yM hw0.1 F (fun vs F=>yM hw1.1 F (fun vs F=>F))),rfl,rfl,?_⟩
  rw [Try.ntmps45]
  simp only [lC,lN,Nat.reduceAdd,Nat.reduceSub,rS,rZ,aC,aN]
  unfold F45 at H
  try dsimp only at H
  refine sq zA ?_
  simp only [go_sem]
  refine zM ?_
  refine sq zA ?_
  simp only [go_sem]
  repeat ((with_reducible refine aI ?_ ?_);exact an0)
  refine yO rfl trivial (fun hc=>?_) (fun hc=>?_)
  ·have hk1:(bEq (p0.length:Nat) (p1.length:Nat))=false:=by simpa using hc
   replace H:=yA hc H
   refine sq zA ?_
   simp only [go_sem]
   refine rg zA ?_
   simp only [go_sem]
   obtain rfl:=Option.some.inj H
   first|rfl|simp only [Bool.and_false,Bool.false_and,Bool.and_true,Bool.true_and]
  have hk1:(bEq (p0.length:Nat) (p1.length:Nat))=true:=by simpa using hc
  replace H:=zZ hc H
  refine rg zA ?_
  simp only [go_sem]
  refine zM ?_
  refine sq zA ?_
  simp only [go_sem]
  refine wN ?_
  refine xZ (fun s:Int=>(.ro 43 p0.length false (enR zE p0)::.ro 43 p1.length false (enR zE p1)::.top::.top::.top::.int .i64 s::tp 49 [])) (fun s=>[]) (fun e:Unit=>(tp 55 [])) (fun e=>[]) H ?_ (fun v1_1 o H hn1_1 hn2_1=>?_) (fun e H=>?_)
  ·refine zU ⟨[],?_,?_,by rfl,by rfl⟩
   ·simp [CvL,Cv,tp]
   ·trivial
  ·unfold cE at H
   try dsimp only at H ⊢
   try simp only [tp]
   refine zM ?_
   refine sq zA ?_
   simp only [go_sem]
   repeat ((with_reducible refine aI ?_ ?_);exact an0)
   refine condM' rfl trivial (fun hc=>?_) (fun hc=>?_)
   ·have hk2:(bLt v1_1 (p0.length:Nat))=false:=by simpa using hc
    replace H:=zZ hc H
    refine rg zA ?_
    simp only [go_sem]
    refine ⟨_,(Option.some.inj H).symm,?_⟩
    refine zU ⟨[],?_,?_,by rfl,by rfl⟩
    ·simp [CvL,Cv]
    ·trivial
   have hk2:(bLt v1_1 (p0.length:Nat))=true:=by simpa using hc
   replace H:=yA hc H
   refine rg zA ?_
   simp only [go_sem]
   refine zM ?_
   refine wN ?_
   refine zM ?_
   obtain ⟨f3,H⟩:=nI H
   obtain ⟨f4,H⟩:=nI H
   obtain ⟨f5,H⟩:=yP.1 H
   replace f5:=vW.1 f5
   replace f5:=fun g=>uP.1 (f5 g)
   obtain ⟨f6,H⟩:=yP.1 H
   replace f6:=vW.1 f6
   replace f6:=fun g=>uP.1 (f6 g)
   obtain ⟨f7,H⟩:=yP.1 H
   replace f7:=vW.1 f7
   replace f7:=fun g=>uP.1 (f7 g)
   obtain ⟨f8,H⟩:=yP.1 H
   replace f8:=vW.1 f8
   replace f8:=fun g=>uP.1 (f8 g)
   obtain ⟨f9,H⟩:=yP.1 H
   replace f9:=vW.1 f9
   refine wW zT ct45t0_ok (by kernel_rfl) (by kernel_rfl) ?_
   simp only [go_sem,Nat.reduceLeDiff,Nat.reduceLT,Nat.reduceAdd,reduceCtorEq,ct45t0_36,body36,f3,f4]
   repeat ((with_reducible refine And.intro ?_ ?_);focus (first|(with_reducible trivial)|omega|exact f5|exact f6|exact f7|exact f8|exact f9|(intro g;have q:=f5 (by first|exact g|(rw [g];rfl)|simpa using g);first|exact q|exact ⟨q.1,q.2.1⟩|exact q.2.2|omega|exact ⟨g,q⟩|exact ⟨trivial,q⟩|exact ⟨g,q.1,q.2.1⟩|exact ⟨g,q.2.2⟩)|(intro g;have q:=f6 (by first|exact g|(rw [g];rfl)|simpa using g);first|exact q|exact ⟨q.1,q.2.1⟩|exact q.2.2|omega|exact ⟨g,q⟩|exact ⟨trivial,q⟩|exact ⟨g,q.1,q.2.1⟩|exact ⟨g,q.2.2⟩)|(intro g;have q:=f7 (by first|exact g|(rw [g];rfl)|simpa using g);first|exact q|exact ⟨q.1,q.2.1⟩|exact q.2.2|omega|exact ⟨g,q⟩|exact ⟨trivial,q⟩|exact ⟨g,q.1,q.2.1⟩|exact ⟨g,q.2.2⟩)|(intro g;have q:=f8 (by first|exact g|(rw [g];rfl)|simpa using g);first|exact q|exact ⟨q.1,q.2.1⟩|exact q.2.2|omega|exact ⟨g,q⟩|exact ⟨trivial,q⟩|exact ⟨g,q.1,q.2.1⟩|exact ⟨g,q.2.2⟩)|(intro g;have q:=f9 (by first|exact g|(rw [g];rfl)|simpa using g);first|exact q|exact ⟨q.1,q.2.1⟩|exact q.2.2|omega|exact ⟨g,q⟩|exact ⟨trivial,q⟩|exact ⟨g,q.1,q.2.1⟩|exact ⟨g,q.2.2⟩)|(intro g;(try have q0:=f5 (by first|exact g|(rw [g];rfl)|simpa using g));(try have q1:=f6 (by first|exact g|(rw [g];rfl)|simpa using g));(try have q2:=f7 (by first|exact g|(rw [g];rfl)|simpa using g));(try have q3:=f8 (by first|exact g|(rw [g];rfl)|simpa using g));(try have q4:=f9 (by first|exact g|(rw [g];rfl)|simpa using g));and_intros<;>first|(with_reducible trivial)|assumption|exact nfc|(intro g2;rw [g,g2];rfl)|(intro g2;assumption)|(simp only [g,Bool.true_and,Bool.and_true,Bool.not_false,Bool.not_true];assumption)|grind)|(and_intros<;>first|(with_reducible trivial)|omega|assumption|exact nfc|first|exact rfl|exact trivial|exact tR|exact .inr rfl|exact .inl rfl|exact fun x hx=>absurd hx (by omega))|grind))
   refine yO rfl trivial (fun hc=>?_) (fun hc=>?_)
   ·have hk10:(((!bEq ((gd p0 v1_1.toNat).Cat) ((gd p1 v1_1.toNat).Cat)) || (!bEq ((gd p0 v1_1.toNat).At) ((gd p1 v1_1.toNat).At))) || (!(gt (F36 (eF ((gd p0 v1_1.toNat).Frame)) (eF ((gd p1 v1_1.toNat).Frame))))))=true:=by simpa using hc
    replace H:=yA hc H
    refine sq zA ?_
    simp only [go_sem]
    refine rg zA ?_
    simp only [go_sem]
    have H:=hn2_1 _ (Option.some.inj H).symm
    obtain rfl:=Option.some.inj H
    first|rfl|simp only [Bool.and_false,Bool.false_and,Bool.and_true,Bool.true_and]
   have hk10:(((!bEq ((gd p0 v1_1.toNat).Cat) ((gd p1 v1_1.toNat).Cat)) || (!bEq ((gd p0 v1_1.toNat).At) ((gd p1 v1_1.toNat).At))) || (!(gt (F36 (eF ((gd p0 v1_1.toNat).Frame)) (eF ((gd p1 v1_1.toNat).Frame))))))=false:=by simpa using hc
   replace H:=zZ hc H
   refine rg zA ?_
   simp only [go_sem]
   refine rg zA ?_
   simp only [go_sem]
   refine ⟨_,(Option.some.inj H).symm,?_⟩
   refine zU ⟨[],?_,?_,by rfl,by rfl⟩
   ·simp [CvL,Cv]
   ·trivial
  ·try dsimp only at H ⊢
   try simp only [tp]
   try simp only [xW]
   refine sq zA ?_
   simp only [go_sem]
   refine rg zA ?_
   simp only [go_sem]
   obtain rfl:=Option.some.inj H
   first|rfl|simp only [Bool.and_false,Bool.false_and,Bool.and_true,Bool.true_and]
 ·cases hb
noncomputable def ct16t0:Ct:=tab [(45,yB body45)]
theorem ct16t0_ok:yY Try.prog ct16t0:=zP ok45 <| zW
theorem ct16t0_45 (l:List AV) (h:List ABlk):ct16t0 45 l h=yB body45 l h:=rfl
noncomputable def cB (p0:TBuffer) (p1:TBuffer) (v1_1:Int):Option (Lp (Int) ((Unit) ⊕ (Bool))) :=
 bif (bLt v1_1 (p0.List.length:Nat)) then (need (inb v1_1 p0.List.length) <| need (inb v1_1 p1.List.length) <| need (bif (!(!bEq ((gd p0.List v1_1.toNat).Aid) ((gd p1.List v1_1.toNat).Aid))) then inb v1_1 p0.List.length else true) <| need (bif (!(!bEq ((gd p0.List v1_1.toNat).Aid) ((gd p1.List v1_1.toNat).Aid))) then inb v1_1 p1.List.length else true) <| need (bif (!((!bEq ((gd p0.List v1_1.toNat).Aid) ((gd p1.List v1_1.toNat).Aid)) || (!bB ((gd p0.List v1_1.toNat).Asleep) ((gd p1.List v1_1.toNat).Asleep)))) then inb v1_1 p0.List.length else true) <| need (bif (!((!bEq ((gd p0.List v1_1.toNat).Aid) ((gd p1.List v1_1.toNat).Aid)) || (!bB ((gd p0.List v1_1.toNat).Asleep) ((gd p1.List v1_1.toNat).Asleep)))) then inb v1_1 p1.List.length else true) <| need (bif (!((!bEq ((gd p0.List v1_1.toNat).Aid) ((gd p1.List v1_1.toNat).Aid)) || (!bB ((gd p0.List v1_1.toNat).Asleep) ((gd p1.List v1_1.toNat).Asleep)))) then ((F45 ((gd p0.List v1_1.toNat).Held) ((gd p1.List v1_1.toNat).Held)).isSome) else true) <| bif (((!bEq ((gd p0.List v1_1.toNat).Aid) ((gd p1.List v1_1.toNat).Aid)) || (!bB ((gd p0.List v1_1.toNat).Asleep) ((gd p1.List v1_1.toNat).Asleep))) || (!(gt (F45 ((gd p0.List v1_1.toNat).Held) ((gd p1.List v1_1.toNat).Held))))) then (some (.done (.inr false))) else (some (.next (wr .i64 (v1_1+1))))) else (some (.done (.inl ())))
noncomputable def F16 (p0:TBuffer) (p1:TBuffer):Option (Bool) :=
 need (bif (!(((!bEq p0.Limit p1.Limit) || (!bEq p0.Stay p1.Stay)) || (!bEq (p0.List.length:Nat) (p1.List.length:Nat)))) then ((F45 p0.Group p1.Group).isSome) else true) <| bif ((((!bEq p0.Limit p1.Limit) || (!bEq p0.Stay p1.Stay)) || (!bEq (p0.List.length:Nat) (p1.List.length:Nat))) || (!(gt (F45 p0.Group p1.Group)))) then (some false) else (lp (xH (fun s=>cB p0 p1 s) 0) (fun _=>some true) some)
noncomputable def body16:List AV->AR
 | [v0,v1]=>.pure (aK 4 xQ v0/\aK 4 xQ v1/\(F16 (g_TBuffer (aL v0)) (g_TBuffer (aL v1))).isSome=true) (.bool (gt (F16 (g_TBuffer (aL v0)) (g_TBuffer (aL v1)))))
 | _=>.fail
theorem ok16:wJ Try.prog 16 (yB body16):=by
 refine xR body16 (rs:=[.tmp 4]) Try.func16 (by kernel_rfl) rfl rfl ?_
 intro l ob v hb hob
 unfold body16 at hb
 split at hb
 ·rename_i v0 v1
  injection hb with q1 q2;subst q1 q2
  obtain ⟨hk0_0,hk1_0,hob⟩:=hob
  obtain ⟨r,H⟩:=oE.1 hob
  rw [H,yN]
  have hw0:=wB hk0_0
  have hw1:=wB hk1_0
  generalize g_TBuffer (aL v0)=p0 at H hw0
  generalize g_TBuffer (aL v1)=p1 at H hw1
  refine ⟨[.agg [.int .i64 p0.Limit,.int .i64 p0.Stay,.ro 3 p0.List.length false (enR zD p0.List),.ro 43 p0.Group.length false (enR zE p0.Group)],.agg [.int .i64 p1.Limit,.int .i64 p1.Stay,.ro 3 p1.List.length false (enR zD p1.List),.ro 43 p1.Group.length false (enR zE p1.Group)]],_,(fun E vs F=>yM hw0.1 F (fun vs F=>yM hw1.1 F (fun vs F=>F))),rfl,rfl,?_⟩
  rw [Try.ntmps16]
  simp only [lC,lN,Nat.reduceAdd,Nat.reduceSub,rS,rZ,aC,aN]
  unfold F16 at H
  try dsimp only at H
  refine sq zA ?_
  simp only [go_sem]
  refine zM ?_
  refine zM ?_
  obtain ⟨f1,H⟩:=yP.1 H
  replace f1:=vW.1 f1
  refine rg ct16t0_ok ?_
  simp only [go_sem,Nat.reduceLeDiff,Nat.reduceLT,Nat.reduceAdd,ct16t0_45,body45]
  repeat ((with_reducible refine And.intro ?_ ?_);focus (first|(with_reducible trivial)|omega|exact f1|(intro g;have q:=f1 (by first|exact g|(rw [g];rfl)|simpa using g);first|exact q|exact ⟨q.1,q.2.1⟩|exact q.2.2|omega|exact ⟨g,q⟩|exact ⟨trivial,q⟩|exact ⟨g,q.1,q.2.1⟩|exact ⟨g,q.2.2⟩)|(intro g;(try have q0:=f1 (by first|exact g|(rw [g];rfl)|simpa using g));and_intros<;>first|(with_reducible trivial)|assumption|exact nfc|(intro g2;rw [g,g2];rfl)|(intro g2;assumption)|(simp only [g,Bool.true_and,Bool.and_true,Bool.not_false,Bool.not_true];assumption)|grind)|(and_intros<;>first|(with_reducible trivial)|omega|assumption|exact nfc|first|exact rfl|exact trivial|exact tR|exact .inr rfl|exact .inl rfl|exact fun x hx=>absurd hx (by omega))|grind))
  refine yO rfl trivial (fun hc=>?_) (fun hc=>?_)
  ·have hk2:((((!bEq p0.Limit p1.Limit) || (!bEq p0.Stay p1.Stay)) || (!bEq (p0.List.length:Nat) (p1.List.length:Nat))) || (!(gt (F45 p0.Group p1.Group))))=true:=by simpa using hc
   replace H:=yA hc H
   refine sq zA ?_
   simp only [go_sem]
   refine rg zA ?_
   simp only [go_sem]
   obtain rfl:=Option.some.inj H
   first|rfl|simp only [Bool.and_false,Bool.false_and,Bool.and_true,Bool.true_and]
  have hk2:((((!bEq p0.Limit p1.Limit) || (!bEq p0.Stay p1.Stay)) || (!bEq (p0.List.length:Nat) (p1.List.length:Nat))) || (!(gt (F45 p0.Group p1.Group))))=false:=by simpa using hc
  replace H:=zZ hc H
  refine rg zA ?_
  simp only [go_sem]
  refine zM ?_
  refine sq zA ?_
  simp only [go_sem]
  refine wN ?_
  refine xZ (fun s:Int=>(.top::.top::.ptr 0 0 0 0::.ptr 1 0 0 0::.top::.int .i64 s::tp 80 [])) (fun s=>[.lit 25 [.int .i64 p0.Limit,.int .i64 p0.Stay,.ro 3 p0.List.length false (enR zD p0.List),.ro 43 p0.Group.length false (enR zE p0.Group)],.lit 25 [.int .i64 p1.Limit,.int .i64 p1.Stay,.ro 3 p1.List.length false (enR zD p1.List),.ro 43 p1.Group.length false (enR zE p1.Group)]]) (fun e:Unit=>(tp 86 [])) (fun e=>[.dead,.dead]) H ?_ (fun v1_1 o H hn1_1 hn2_1=>?_) (fun e H=>?_)
  ·refine zU ⟨[some 0,some 1],?_,?_,by rfl,by rfl⟩
   ·simp [CvL,Cv,zX,tp]
   ·exact ⟨cv,cv,trivial⟩
  ·unfold cB at H
   try dsimp only at H ⊢
   try simp only [tp]
   refine zM ?_
   refine sq zA ?_
   simp only [go_sem,Nat.reduceLeDiff,Nat.reduceLT,Nat.reduceAdd]
   repeat ((with_reducible refine aI ?_ ?_);exact an0)
   refine condM' rfl trivial (fun hc=>?_) (fun hc=>?_)
   ·have hk3:(bLt v1_1 (p0.List.length:Nat))=false:=by simpa using hc
    replace H:=zZ hc H
    refine rg zA ?_
    simp only [go_sem]
    refine ⟨_,(Option.some.inj H).symm,?_⟩
    refine zU ⟨[some 0,some 1],?_,?_,by rfl,by rfl⟩
    ·simp [CvL,Cv]
    ·exact ⟨zI,zI,trivial⟩
   have hk3:(bLt v1_1 (p0.List.length:Nat))=true:=by simpa using hc
   replace H:=yA hc H
   refine rg zA ?_
   simp only [go_sem]
   refine zM ?_
   refine wN ?_
   refine zM ?_
   obtain ⟨f4,H⟩:=nI H
   obtain ⟨f5,H⟩:=nI H
   obtain ⟨f6,H⟩:=yP.1 H
   replace f6:=vW.1 f6
   replace f6:=fun g=>uP.1 (f6 g)
   obtain ⟨f7,H⟩:=yP.1 H
   replace f7:=vW.1 f7
   replace f7:=fun g=>uP.1 (f7 g)
   obtain ⟨f8,H⟩:=yP.1 H
   replace f8:=vW.1 f8
   replace f8:=fun g=>uP.1 (f8 g)
   obtain ⟨f9,H⟩:=yP.1 H
   replace f9:=vW.1 f9
   replace f9:=fun g=>uP.1 (f9 g)
   obtain ⟨f10,H⟩:=yP.1 H
   replace f10:=vW.1 f10
   refine wW zT ct16t0_ok (by kernel_rfl) (by kernel_rfl) ?_
   simp only [go_sem,Nat.reduceLeDiff,Nat.reduceLT,Nat.reduceAdd,ct16t0_45,body45,f4,f5]
   repeat ((with_reducible refine And.intro ?_ ?_);focus (first|(with_reducible trivial)|omega|exact f6|exact f7|exact f8|exact f9|exact f10|(intro g;have q:=f6 (by first|exact g|(rw [g];rfl)|simpa using g);first|exact q|exact ⟨q.1,q.2.1⟩|exact q.2.2|omega|exact ⟨g,q⟩|exact ⟨trivial,q⟩|exact ⟨g,q.1,q.2.1⟩|exact ⟨g,q.2.2⟩)|(intro g;have q:=f7 (by first|exact g|(rw [g];rfl)|simpa using g);first|exact q|exact ⟨q.1,q.2.1⟩|exact q.2.2|omega|exact ⟨g,q⟩|exact ⟨trivial,q⟩|exact ⟨g,q.1,q.2.1⟩|exact ⟨g,q.2.2⟩)|(intro g;have q:=f8 (by first|exact g|(rw [g];rfl)|simpa using g);first|exact q|exact ⟨q.1,q.2.1⟩|exact q.2.2|omega|exact ⟨g,q⟩|exact ⟨trivial,q⟩|exact ⟨g,q.1,q.2.1⟩|exact ⟨g,q.2.2⟩)|(intro g;have q:=f9 (by first|exact g|(rw [g];rfl)|simpa using g);first|exact q|exact ⟨q.1,q.2.1⟩|exact q.2.2|omega|exact ⟨g,q⟩|exact ⟨trivial,q⟩|exact ⟨g,q.1,q.2.1⟩|exact ⟨g,q.2.2⟩)|(intro g;have q:=f10 (by first|exact g|(rw [g];rfl)|simpa using g);first|exact q|exact ⟨q.1,q.2.1⟩|exact q.2.2|omega|exact ⟨g,q⟩|exact ⟨trivial,q⟩|exact ⟨g,q.1,q.2.1⟩|exact ⟨g,q.2.2⟩)|(intro g;(try have q0:=f6 (by first|exact g|(rw [g];rfl)|simpa using g));(try have q1:=f7 (by first|exact g|(rw [g];rfl)|simpa using g));(try have q2:=f8 (by first|exact g|(rw [g];rfl)|simpa using g));(try have q3:=f9 (by first|exact g|(rw [g];rfl)|simpa using g));(try have q4:=f10 (by first|exact g|(rw [g];rfl)|simpa using g));and_intros<;>first|(with_reducible trivial)|assumption|exact nfc|(intro g2;rw [g,g2];rfl)|(intro g2;assumption)|(simp only [g,Bool.true_and,Bool.and_true,Bool.not_false,Bool.not_true];assumption)|grind)|(and_intros<;>first|(with_reducible trivial)|omega|assumption|exact nfc|first|exact rfl|exact trivial|exact tR|exact .inr rfl|exact .inl rfl|exact fun x hx=>absurd hx (by omega))|grind))
   refine yO rfl trivial (fun hc=>?_) (fun hc=>?_)
   ·have hk11:(((!bEq ((gd p0.List v1_1.toNat).Aid) ((gd p1.List v1_1.toNat).Aid)) || (!bB ((gd p0.List v1_1.toNat).Asleep) ((gd p1.List v1_1.toNat).Asleep))) || (!(gt (F45 ((gd p0.List v1_1.toNat).Held) ((gd p1.List v1_1.toNat).Held)))))=true:=by simpa using hc
    replace H:=yA hc H
    refine sq zA ?_
    simp only [go_sem]
    refine rg zA ?_
    simp only [go_sem]
    have H:=hn2_1 _ (Option.some.inj H).symm
    obtain rfl:=Option.some.inj H
    first|rfl|simp only [Bool.and_false,Bool.false_and,Bool.and_true,Bool.true_and]
   have hk11:(((!bEq ((gd p0.List v1_1.toNat).Aid) ((gd p1.List v1_1.toNat).Aid)) || (!bB ((gd p0.List v1_1.toNat).Asleep) ((gd p1.List v1_1.toNat).Asleep))) || (!(gt (F45 ((gd p0.List v1_1.toNat).Held) ((gd p1.List v1_1.toNat).Held)))))=false:=by simpa using hc
   replace H:=zZ hc H
   refine rg zA ?_
   simp only [go_sem]
   refine rg zA ?_
   simp only [go_sem]
   refine ⟨_,(Option.some.inj H).symm,?_⟩
   refine zU ⟨[some 0,some 1],?_,?_,by rfl,by rfl⟩
   ·simp [CvL,Cv,zX]
   ·exact ⟨cv,cv,trivial⟩
  ·try dsimp only at H ⊢
   try simp only [tp]
   try simp only [xW]
   refine sq zA ?_
   simp only [go_sem]
   refine rg zA ?_
   simp only [go_sem]
   obtain rfl:=Option.some.inj H
   first|rfl|simp only [Bool.and_false,Bool.false_and,Bool.and_true,Bool.true_and]
 ·cases hb
noncomputable def F22_L1 (p0:TBuffer) (p1:Int) (v1_1:Int):Option (Lp (Int) ((Unit) ⊕ (Int))) :=
 bif (bLt v1_1 (p0.List.length:Nat)) then (need (inb v1_1 p0.List.length) <| bif (bEq ((gd p0.List v1_1.toNat).Aid) p1) then (some (.done (.inr v1_1))) else (some (.next (wr .i64 (v1_1+1))))) else (some (.done (.inl ())))
noncomputable def F22 (p0:TBuffer) (p1:Int):Option (Int) :=
 lp (xH (fun s=>F22_L1 p0 p1 s) 0) (fun _=>some (-1)) some
noncomputable def body22:List AV->AR
 | [v0,v1]=>.pure (aK 4 xQ v0/\iK .i64 v1/\(F22 (g_TBuffer (aL v0)) (iA v1)).isSome=true) (.int .i64 (gt (F22 (g_TBuffer (aL v0)) (iA v1))))
 | _=>.fail
theorem ok22:wJ Try.prog 22 (yB body22):=by
 refine xR body22 (rs:=[.tmp 4]) Try.func22 (by kernel_rfl) rfl rfl ?_
 intro l ob v hb hob
 unfold body22 at hb
 split at hb
 ·rename_i v0 v1
  injection hb with q1 q2;subst q1 q2
  obtain ⟨hk0_0,hk1_0,hob⟩:=hob
  obtain ⟨r,H⟩:=oE.1 hob
  rw [H,yN]
  have hw0:=wB hk0_0
  have hw1:=yK hk1_0
  generalize g_TBuffer (aL v0)=p0 at H hw0
  generalize iA v1=p1 at H hw1
  refine ⟨[.agg [.int .i64 p0.Limit,.int .i64 p0.Stay,.ro 3 p0.List.length false (enR zD p0.List),.ro 43 p0.Group.length false (enR zE p0.Group)],.int .i64 p1],_,(fun E vs F=>yM hw0.1 F (fun vs F=>yM hw1.1 F (fun vs F=>F))),rfl,rfl,?_⟩
  rw [Try.ntmps22]
  simp only [lC,lN,Nat.reduceAdd,Nat.reduceSub,rS,rZ,aC,aN]
  unfold F22 at H
  try dsimp only at H
  refine sq zA ?_
  simp only [go_sem]
  refine zM ?_
  refine sq zA ?_
  simp only [go_sem]
  refine wN ?_
  refine xZ (fun s:Int=>(.top::.int .i64 p1::.ptr 0 0 0 0::.top::.top::.int .i64 s::tp 16 [])) (fun s=>[.lit 25 [.int .i64 p0.Limit,.int .i64 p0.Stay,.ro 3 p0.List.length false (enR zD p0.List),.ro 43 p0.Group.length false (enR zE p0.Group)]]) (fun e:Unit=>(tp 22 [])) (fun e=>[.dead]) H ?_ (fun v1_1 o H hn1_1 hn2_1=>?_) (fun e H=>?_)
  ·refine zU ⟨[some 0],?_,?_,by rfl,by rfl⟩
   ·simp [CvL,Cv,zX,tp]
   ·exact ⟨cv,trivial⟩
  ·unfold F22_L1 at H
   try dsimp only at H ⊢
   try simp only [tp]
   refine zM ?_
   refine sq zA ?_
   simp only [go_sem,Nat.reduceLeDiff,Nat.reduceLT,Nat.reduceAdd]
   repeat ((with_reducible refine aI ?_ ?_);exact an0)
   refine condM' rfl trivial (fun hc=>?_) (fun hc=>?_)
   ·have hk1:(bLt v1_1 (p0.List.length:Nat))=false:=by simpa using hc
    replace H:=zZ hc H
    refine rg zA ?_
    simp only [go_sem]
    refine ⟨_,(Option.some.inj H).symm,?_⟩
    refine zU ⟨[some 0],?_,?_,by rfl,by rfl⟩
    ·simp [CvL,Cv]
    ·exact ⟨zI,trivial⟩
   have hk1:(bLt v1_1 (p0.List.length:Nat))=true:=by simpa using hc
   replace H:=yA hc H
   refine rg zA ?_
   simp only [go_sem]
   refine zM ?_
   refine wN ?_
   refine zM ?_
   obtain ⟨f2,H⟩:=nI H
   refine rg zA ?_
   simp only [go_sem,Nat.reduceLeDiff,Nat.reduceLT,Nat.reduceAdd,f2]
   repeat ((with_reducible refine aI ?_ ?_);exact an5)
   refine yO rfl trivial (fun hc=>?_) (fun hc=>?_)
   ·have hk3:(bEq ((gd p0.List v1_1.toNat).Aid) p1)=true:=by simpa using hc
    replace H:=yA hc H
    refine sq zA ?_
    simp only [go_sem]
    refine rg zA ?_
    simp only [go_sem]
    have H:=hn2_1 _ (Option.some.inj H).symm
    obtain rfl:=Option.some.inj H
    first|rfl|simp only [Bool.and_false,Bool.false_and,Bool.and_true,Bool.true_and]
   have hk3:(bEq ((gd p0.List v1_1.toNat).Aid) p1)=false:=by simpa using hc
   replace H:=zZ hc H
   refine rg zA ?_
   simp only [go_sem]
   refine rg zA ?_
   simp only [go_sem]
   refine ⟨_,(Option.some.inj H).symm,?_⟩
   refine zU ⟨[some 0],?_,?_,by rfl,by rfl⟩
   ·simp [CvL,Cv,zX]
   ·exact ⟨cv,trivial⟩
  ·try dsimp only at H ⊢
   try simp only [tp]
   try simp only [xW]
   refine sq zA ?_
   simp only [go_sem]
   refine rg zA ?_
   simp only [go_sem]
   obtain rfl:=Option.some.inj H
   first|rfl|simp only [Bool.and_false,Bool.false_and,Bool.and_true,Bool.true_and]
 ·cases hb
noncomputable def ct9t0:Ct:=tab [(20,yB body20)]
theorem ct9t0_ok:yY Try.prog ct9t0:=zP ok20 <| zW
theorem ct9t0_20 (l:List AV) (h:List ABlk):ct9t0 20 l h=yB body20 l h:=rfl
noncomputable def ct9t1:Ct:=tab [(11,yB body11),(18,yB wG)]
theorem ct9t1_ok:yY Try.prog ct9t1:=zP ok11 <| zP ok18 <| zW
theorem ct9t1_11 (l:List AV) (h:List ABlk):ct9t1 11 l h=yB body11 l h:=rfl
theorem ct9t1_18 (l:List AV) (h:List ABlk):ct9t1 18 l h=yB wG l h:=rfl
noncomputable def ct9t2:Ct:=tab [(31,xV body31)]
theorem ct9t2_ok:yY Try.prog ct9t2:=zP ok31 <| zW
theorem ct9t2_31 (l:List AV) (h:List ABlk):ct9t2 31 l h=xV body31 l h:=rfl
noncomputable def ct9t3:Ct:=tab [(16,yB body16)]
theorem ct9t3_ok:yY Try.prog ct9t3:=zP ok16 <| zW
theorem ct9t3_16 (l:List AV) (h:List ABlk):ct9t3 16 l h=yB body16 l h:=rfl
noncomputable def ct9t4:Ct:=tab [(18,yB wG)]
theorem ct9t4_ok:yY Try.prog ct9t4:=zP ok18 <| zW
theorem ct9t4_18 (l:List AV) (h:List ABlk):ct9t4 18 l h=yB wG l h:=rfl
noncomputable def ct9t5:Ct:=tab [(22,yB body22)]
theorem ct9t5_ok:yY Try.prog ct9t5:=zP ok22 <| zW
theorem ct9t5_22 (l:List AV) (h:List ABlk):ct9t5 22 l h=yB body22 l h:=rfl
noncomputable def F9_L1 (p0:TBuffer) (p1:TStep) (r7:(List TFrame) × (List TFrame) × TBuffer × Int) (v1_1:Int):Option (Lp (Int) ((Unit) ⊕ (Bool))) :=
 bif (bLt v1_1 (p0.List.length:Nat)) then (need (inb v1_1 p0.List.length) <| bif (bEq ((gd p0.List v1_1.toNat).Aid) p1.Aid) then (some (.next (wr .i64 (v1_1+1)))) else (need (inb v1_1 p0.List.length) <| (F22 r7.2.2.1 ((gd p0.List v1_1.toNat).Aid)).bind fun r19=>bif (bLt r19 0) then (some (.done (.inr false))) else (need (slb v1_1 (wr .i64 (v1_1+1)) p0.List.length) <| need (slb r19 (wr .i64 (r19+1)) r7.2.2.1.List.length) <| (F16 (TBuffer.mk 0 0 (deR yI (((wr .i64 (v1_1+1)).toNat) - v1_1.toNat) (enR zD (p0.List.drop v1_1.toNat))) []) (TBuffer.mk 0 0 (deR yI (((wr .i64 (r19+1)).toNat) - r19.toNat) (enR zD (r7.2.2.1.List.drop r19.toNat))) [])).bind fun r24=>bif (!r24) then (some (.done (.inr false))) else (some (.next (wr .i64 (v1_1+1))))))) else (some (.done (.inl ())))
noncomputable def F9 (p0:TBuffer) (p1:TStep):Option (Bool) :=
 (F20).bind fun r1=>(F11 p0 p1.Frame).bind fun r3=>need (bif (!r3) then ((F18 p0).isSome) else true) <| bif ((r3 || (!bEq (gt (F18 p0)) 0)) || (!r1)) then (some r1) else ((F31 p0 p1).bind fun r7=>bif (!bEq r7.2.2.2 0) then (need (bif ((r1 && (bEq (r7.1.length:Nat) 0)) && (bEq (r7.2.1.length:Nat) 0)) then ((F16 r7.2.2.1 (TBuffer.mk 0 0 [] [])).isSome) else true) <| some (((r1 && (bEq (r7.1.length:Nat) 0)) && (bEq (r7.2.1.length:Nat) 0)) && (gt (F16 r7.2.2.1 (TBuffer.mk 0 0 [] []))))) else ((F18 r7.2.2.1).bind fun r11=>bif (((!bEq r11 0) || (!bEq r7.2.2.1.Limit p0.Limit)) || (!bEq r7.2.2.1.Stay p0.Stay)) then (some false) else (bif (bEq p1.Kind 8) then (some r1) else (lp (xH (fun s=>F9_L1 p0 p1 r7 s) 0) (fun _=>some r1) some))))
noncomputable def body9:List AV->AR
 | [v0,v1]=>.pure (aK 4 xQ v0/\aK 45 kK v1/\(F9 (g_TBuffer (aL v0)) (g_TStep (aL v1))).isSome=true) (.bool (gt (F9 (g_TBuffer (aL v0)) (g_TStep (aL v1)))))
 | _=>.fail
theorem ok9:wJ Try.prog 9 (yB body9):=by
 refine xR body9 (rs:=[.tmp 4]) Try.func9 (by kernel_rfl) rfl rfl ?_
 intro l ob v hb hob
 unfold body9 at hb
 split at hb
 ·rename_i v0 v1
  injection hb with q1 q2;subst q1 q2
  obtain ⟨hk0_0,hk1_0,hob⟩:=hob
  obtain ⟨r,H⟩:=oE.1 hob
  rw [H,yN]
  have hw0:=wB hk0_0
  have hw1:=wA_TStep hk1_0
  generalize g_TBuffer (aL v0)=p0 at H hw0
  generalize g_TStep (aL v1)=p1 at H hw1
  refine ⟨[.agg [.int .i64 p0.Limit,.int .i64 p0.Stay,.ro 3 p0.List.length false (enR zD p0.List),.ro 43 p0.Group.length false (enR zE p0.Group)],.agg (.int .i64 p1.Kind::.int .i64 p1.Aid::.int .u8 p1.Cat::.int .i64 p1.Now::.int .u8 p1.Frame.Head.Kind::.int .u8 p1.Frame.Head.Sub::.bool p1.Frame.Head.ToDs::.bool p1.Frame.Head.FromDs::.bool p1.Frame.Head.More::.bool p1.Frame.Head.Retry::.bool p1.Frame.Head.Sleep::.bool p1.Frame.Head.MoreData::.bool p1.Frame.Head.Protected::.int .i64 p1.Frame.Head.Duration::.int .u8 p1.Frame.Head.A1.x0::.int .u8 p1.Frame.Head.A1.x1::.int .u8 p1.Frame.Head.A1.x2::.int .u8 p1.Frame.Head.A1.x3::.int .u8 p1.Frame.Head.A1.x4::.int .u8 p1.Frame.Head.A1.x5::.int .u8 p1.Frame.Head.A2.x0::.int .u8 p1.Frame.Head.A2.x1::.int .u8 p1.Frame.Head.A2.x2::.int .u8 p1.Frame.Head.A2.x3::.int .u8 p1.Frame.Head.A2.x4::.int .u8 p1.Frame.Head.A2.x5::.int .u8 p1.Frame.Head.A3.x0::.int .u8 p1.Frame.Head.A3.x1::.int .u8 p1.Frame.Head.A3.x2::.int .u8 p1.Frame.Head.A3.x3::.int .u8 p1.Frame.Head.A3.x4::.int .u8 p1.Frame.Head.A3.x5::.int .u8 p1.Frame.Head.A4.x0::.int .u8 p1.Frame.Head.A4.x1::.int .u8 p1.Frame.Head.A4.x2::.int .u8 p1.Frame.Head.A4.x3::.int .u8 p1.Frame.Head.A4.x4::.int .u8 p1.Frame.Head.A4.x5::.int .i64 p1.Frame.Head.Seq::.int .i64 p1.Frame.Head.Frag::.int .i64 p1.Frame.Head.Tid::.int .u8 p1.Frame.Head.Ack::.bool p1.Frame.Head.Amsdu::.bool p1.Frame.Head.Eosp::.ro 1 p1.Frame.Body.length false (enR xJ p1.Frame.Body)::[])],_,(fun E vs F=>yM hw0.1 F (fun vs F=>yM hw1.1 F (fun vs F=>F))),rfl,rfl,?_⟩
  rw [Try.ntmps9]
  simp only [lC,lN,Nat.reduceAdd,Nat.reduceSub,rS,rZ,aC,aN]
  unfold F9 at H
  try dsimp only at H
  refine sq zA ?_
  simp only [go_sem]
  refine zM ?_
  obtain ⟨r1,e2,H⟩:=bsi H
  refine rg ct9t0_ok ?_
  simp only [go_sem,ct9t0_20,body20,e2]
  repeat ((with_reducible refine aI ?_ ?_);exact an0)
  refine zM ?_
  refine zM ?_
  obtain ⟨r3,e4,H⟩:=bsi H
  obtain ⟨f5,H⟩:=yP.1 H
  replace f5:=vW.1 f5
  refine rg ct9t1_ok ?_
  simp only [go_sem,Nat.reduceLT,Nat.reduceAdd,reduceCtorEq,ct9t1_11,body11,ct9t1_18,wG,e4]
  repeat ((with_reducible refine And.intro ?_ ?_);focus (first|(with_reducible trivial)|omega|exact f5|(intro g;have q:=f5 (by first|exact g|(rw [g];rfl)|simpa using g);first|exact q|exact ⟨q.1,q.2.1⟩|exact q.2.2|omega|exact ⟨g,q⟩|exact ⟨trivial,q⟩|exact ⟨g,q.1,q.2.1⟩|exact ⟨g,q.2.2⟩)|(intro g;(try have q0:=f5 (by first|exact g|(rw [g];rfl)|simpa using g));and_intros<;>first|(with_reducible trivial)|assumption|exact nfc|(intro g2;rw [g,g2];rfl)|(intro g2;assumption)|(simp only [g,Bool.true_and,Bool.and_true,Bool.not_false,Bool.not_true];assumption)|grind)|(and_intros<;>first|(with_reducible trivial)|omega|assumption|exact nfc|first|exact rfl|exact trivial|exact tR|exact .inr rfl|exact .inl rfl|exact fun x hx=>absurd hx (by omega))|grind))
  refine yO rfl trivial (fun hc=>?_) (fun hc=>?_)
  ·have hk6:((r3 || (!bEq (gt (F18 p0)) 0)) || (!r1))=true:=by simpa using hc
   replace H:=yA hc H
   refine sq zA ?_
   simp only [go_sem]
   refine rg zA ?_
   simp only [go_sem]
   obtain rfl:=Option.some.inj H
   first|rfl|simp only [Bool.and_false,Bool.false_and,Bool.and_true,Bool.true_and]
  have hk6:((r3 || (!bEq (gt (F18 p0)) 0)) || (!r1))=false:=by simpa using hc
  replace H:=zZ hc H
  refine rg zA ?_
  simp only [go_sem]
  refine zM ?_
  obtain ⟨r7,e8,H⟩:=bsi H
  refine rg ct9t2_ok ?_
  simp only [go_sem,Nat.reduceLT,Nat.reduceAdd,ct9t2_31,body31,e8]
  repeat ((with_reducible refine aI ?_ ?_);exact an0)
  refine zM ?_
  refine sq zA ?_
  simp only [go_sem]
  refine yO rfl trivial (fun hc=>?_) (fun hc=>?_)
  ·have hk9:(bEq r7.2.2.2 0)=false:=by simpa using hc
   replace H:=yA hc H
   refine zM ?_
   obtain ⟨f10,H⟩:=yP.1 H
   replace f10:=vW.1 f10
   refine rg ct9t3_ok ?_
   simp only [go_sem,Nat.reduceLT,Nat.reduceAdd,reduceCtorEq,ct9t3_16,body16]
   repeat ((with_reducible refine And.intro ?_ ?_);focus (first|(with_reducible trivial)|omega|exact f10|(intro g;have q:=f10 (by first|exact g|(rw [g];rfl)|simpa using g);first|exact q|exact ⟨q.1,q.2.1⟩|exact q.2.2|omega|exact ⟨g,q⟩|exact ⟨trivial,q⟩|exact ⟨g,q.1,q.2.1⟩|exact ⟨g,q.2.2⟩)|(intro g;(try have q0:=f10 (by first|exact g|(rw [g];rfl)|simpa using g));and_intros<;>first|(with_reducible trivial)|assumption|exact nfc|(intro g2;rw [g,g2];rfl)|(intro g2;assumption)|(simp only [g,Bool.true_and,Bool.and_true,Bool.not_false,Bool.not_true];assumption)|grind)|(and_intros<;>first|(with_reducible trivial)|omega|assumption|exact nfc|first|exact rfl|exact trivial|exact tR|exact .inr rfl|exact .inl rfl|exact fun x hx=>absurd hx (by omega))|grind))
   refine rg zA ?_
   simp only [go_sem]
   obtain rfl:=Option.some.inj H
   first|rfl|simp only [Bool.and_false,Bool.false_and,Bool.and_true,Bool.true_and]
  have hk9:(bEq r7.2.2.2 0)=true:=by simpa using hc
  replace H:=zZ hc H
  refine rg zA ?_
  simp only [go_sem]
  refine zM ?_
  refine zM ?_
  obtain ⟨r11,e12,H⟩:=bsi H
  refine rg ct9t4_ok ?_
  simp only [go_sem,Nat.reduceLeDiff,Nat.reduceLT,Nat.reduceAdd,ct9t4_18,wG,e12]
  repeat ((with_reducible refine aI ?_ ?_);exact an7)
  refine yO rfl trivial (fun hc=>?_) (fun hc=>?_)
  ·have hk13:(((!bEq r11 0) || (!bEq r7.2.2.1.Limit p0.Limit)) || (!bEq r7.2.2.1.Stay p0.Stay))=true:=by simpa using hc
   replace H:=yA hc H
   refine sq zA ?_
   simp only [go_sem]
   refine rg zA ?_
   simp only [go_sem]
   obtain rfl:=Option.some.inj H
   first|rfl|simp only [Bool.and_false,Bool.false_and,Bool.and_true,Bool.true_and]
  have hk13:(((!bEq r11 0) || (!bEq r7.2.2.1.Limit p0.Limit)) || (!bEq r7.2.2.1.Stay p0.Stay))=false:=by simpa using hc
  replace H:=zZ hc H
  refine rg zA ?_
  simp only [go_sem]
  refine zM ?_
  refine sq zA ?_
  simp only [go_sem,Nat.reduceLeDiff,Nat.reduceLT,Nat.reduceAdd]
  repeat ((with_reducible refine aI ?_ ?_);exact an5)
  refine yO rfl trivial (fun hc=>?_) (fun hc=>?_)
  ·have hk14:(bEq p1.Kind 8)=true:=by simpa using hc
   replace H:=yA hc H
   refine sq zA ?_
   simp only [go_sem]
   refine rg zA ?_
   simp only [go_sem]
   obtain rfl:=Option.some.inj H
   first|rfl|simp only [Bool.and_false,Bool.false_and,Bool.and_true,Bool.true_and]
  have hk14:(bEq p1.Kind 8)=false:=by simpa using hc
  replace H:=zZ hc H
  refine rg zA ?_
  simp only [go_sem]
  refine zM ?_
  refine sq zA ?_
  simp only [go_sem]
  refine wN ?_
  refine xZ (fun s:Int=>(.top::.top::.ptr 0 0 0 0::.ptr 1 0 0 0::.top::.bool r1::.top::.top::.ptr 2 0 0 0::.top::.int .i64 s::tp 110 [])) (fun s=>[.lit 25 [.int .i64 p0.Limit,.int .i64 p0.Stay,.ro 3 p0.List.length false (enR zD p0.List),.ro 43 p0.Group.length false (enR zE p0.Group)],.lit 70 (.int .i64 p1.Kind::.int .i64 p1.Aid::.int .u8 p1.Cat::.int .i64 p1.Now::.int .u8 p1.Frame.Head.Kind::.int .u8 p1.Frame.Head.Sub::.bool p1.Frame.Head.ToDs::.bool p1.Frame.Head.FromDs::.bool p1.Frame.Head.More::.bool p1.Frame.Head.Retry::.bool p1.Frame.Head.Sleep::.bool p1.Frame.Head.MoreData::.bool p1.Frame.Head.Protected::.int .i64 p1.Frame.Head.Duration::.int .u8 p1.Frame.Head.A1.x0::.int .u8 p1.Frame.Head.A1.x1::.int .u8 p1.Frame.Head.A1.x2::.int .u8 p1.Frame.Head.A1.x3::.int .u8 p1.Frame.Head.A1.x4::.int .u8 p1.Frame.Head.A1.x5::.int .u8 p1.Frame.Head.A2.x0::.int .u8 p1.Frame.Head.A2.x1::.int .u8 p1.Frame.Head.A2.x2::.int .u8 p1.Frame.Head.A2.x3::.int .u8 p1.Frame.Head.A2.x4::.int .u8 p1.Frame.Head.A2.x5::.int .u8 p1.Frame.Head.A3.x0::.int .u8 p1.Frame.Head.A3.x1::.int .u8 p1.Frame.Head.A3.x2::.int .u8 p1.Frame.Head.A3.x3::.int .u8 p1.Frame.Head.A3.x4::.int .u8 p1.Frame.Head.A3.x5::.int .u8 p1.Frame.Head.A4.x0::.int .u8 p1.Frame.Head.A4.x1::.int .u8 p1.Frame.Head.A4.x2::.int .u8 p1.Frame.Head.A4.x3::.int .u8 p1.Frame.Head.A4.x4::.int .u8 p1.Frame.Head.A4.x5::.int .i64 p1.Frame.Head.Seq::.int .i64 p1.Frame.Head.Frag::.int .i64 p1.Frame.Head.Tid::.int .u8 p1.Frame.Head.Ack::.bool p1.Frame.Head.Amsdu::.bool p1.Frame.Head.Eosp::.ro 1 p1.Frame.Body.length false (enR xJ p1.Frame.Body)::[]),.lit 25 [.int .i64 r7.2.2.1.Limit,.int .i64 r7.2.2.1.Stay,.ro 3 r7.2.2.1.List.length false (enR zD r7.2.2.1.List),.ro 43 r7.2.2.1.Group.length false (enR zE r7.2.2.1.Group)]]) (fun e:Unit=>(tp 5 (.bool r1::tp 115 []))) (fun e=>[.dead,.dead,.dead]) H ?_ (fun v1_1 o H hn1_1 hn2_1=>?_) (fun e H=>?_)
  ·refine zU ⟨[some 0,some 1,some 2],?_,?_,by rfl,by rfl⟩
   ·simp [CvL,Cv,zX,tp]
   ·exact ⟨cv,cv,cv,trivial⟩
  ·unfold F9_L1 at H
   try dsimp only at H ⊢
   try simp only [tp]
   refine zM ?_
   refine sq zA ?_
   simp only [go_sem,Nat.reduceLeDiff,Nat.reduceLT,Nat.reduceAdd]
   repeat ((with_reducible refine aI ?_ ?_);exact an0)
   refine condM' rfl trivial (fun hc=>?_) (fun hc=>?_)
   ·have hk15:(bLt v1_1 (p0.List.length:Nat))=false:=by simpa using hc
    replace H:=zZ hc H
    refine rg zA ?_
    simp only [go_sem]
    refine ⟨_,(Option.some.inj H).symm,?_⟩
    refine zU ⟨[some 0,some 1,some 2],?_,?_,by rfl,by rfl⟩
    ·simp [CvL,Cv]
    ·exact ⟨zI,zI,zI,trivial⟩
   have hk15:(bLt v1_1 (p0.List.length:Nat))=true:=by simpa using hc
   replace H:=yA hc H
   refine rg zA ?_
   simp only [go_sem]
   refine zM ?_
   refine wN ?_
   refine zM ?_
   refine zM ?_
   obtain ⟨f16,H⟩:=nI H
   refine wW zT zA (by kernel_rfl) (by kernel_rfl) ?_
   simp only [go_sem,Nat.reduceLeDiff,Nat.reduceLT,Nat.reduceAdd,f16]
   repeat ((with_reducible refine aI ?_ ?_);exact an5)
   refine yO rfl trivial (fun hc=>?_) (fun hc=>?_)
   ·have hk17:(bEq ((gd p0.List v1_1.toNat).Aid) p1.Aid)=true:=by simpa using hc
    replace H:=yA hc H
    refine rg zA ?_
    simp only [go_sem,Nat.reduceBEq]
    refine rg zA ?_
    simp only [go_sem]
    refine ⟨_,(Option.some.inj H).symm,?_⟩
    refine zU ⟨[some 0,some 1,some 2],?_,?_,by rfl,by rfl⟩
    ·simp [CvL,Cv,zX]
    ·exact ⟨cv,cv,cv,trivial⟩
   have hk17:(bEq ((gd p0.List v1_1.toNat).Aid) p1.Aid)=false:=by simpa using hc
   replace H:=zZ hc H
   refine rg zA ?_
   simp only [go_sem]
   refine zM ?_
   obtain ⟨f18,H⟩:=nI H
   obtain ⟨r19,e20,H⟩:=bsi H
   refine wW zT ct9t5_ok (by kernel_rfl) (by kernel_rfl) ?_
   simp only [go_sem,Nat.reduceLeDiff,Nat.reduceLT,Nat.reduceAdd,ct9t5_22,body22,f18,e20]
   repeat ((with_reducible refine aI ?_ ?_);exact an0)
   refine zM ?_
   refine sq zA ?_
   simp only [go_sem]
   refine yO rfl trivial (fun hc=>?_) (fun hc=>?_)
   ·have hk21:(bLt r19 0)=true:=by simpa using hc
    replace H:=yA hc H
    refine sq zA ?_
    simp only [go_sem]
    refine rg zA ?_
    simp only [go_sem]
    have H:=hn2_1 _ (Option.some.inj H).symm
    obtain rfl:=Option.some.inj H
    first|rfl|simp only [Bool.and_false,Bool.false_and,Bool.and_true,Bool.true_and]
   have hk21:(bLt r19 0)=false:=by simpa using hc
   replace H:=zZ hc H
   refine rg zA ?_
   simp only [go_sem]
   refine zM ?_
   obtain ⟨f22,H⟩:=nS H
   obtain ⟨f23,H⟩:=nS H
   refine yQ zT zA 2 (by kernel_rfl) (by kernel_rfl) ?_
   intro an han
   simp only [wO,xU,vM,xrD,xoD,vN,wY,List.append_nil,xC,refs,mask,wE,place,xI,wF,xN,hit,inL,xD,ren,rnN,nrH,nrB,nrL,nr,rZ,rS,Nat.sub_self,Nat.add_zero,Nat.zero_add,Nat.reduceSub,Nat.lt_add_one,go_sem,Nat.reduceLeDiff,Nat.reduceLT,Nat.reduceAdd,Nat.reduceSub,Nat.reduceBEq,f22,f23]
   repeat ((with_reducible refine aI ?_ ?_);exact an4)
   refine zM ?_
   obtain ⟨r24,e25,H⟩:=bsi H
   (try simp only [go_sem,Nat.reduceLeDiff,Nat.reduceLT,Nat.reduceAdd,Nat.reduceMul,Nat.reduceSub,Nat.reduceEqDiff,Nat.reduceBEq,Int.reduceToNat,reduceCtorEq] at e25)
   refine rg ct9t3_ok ?_
   simp only [go_sem,Nat.reduceLT,Nat.reduceAdd,reduceCtorEq,ct9t3_16,body16,e25]
   repeat ((with_reducible refine aI ?_ ?_);exact an0)
   refine yO rfl trivial (fun hc=>?_) (fun hc=>?_)
   ·have hk26:(r24)=false:=by simpa using hc
    replace H:=yA hc H
    refine sq zA ?_
    simp only [go_sem]
    refine rg zA ?_
    simp only [go_sem]
    have H:=hn2_1 _ (Option.some.inj H).symm
    obtain rfl:=Option.some.inj H
    first|rfl|simp only [Bool.and_false,Bool.false_and,Bool.and_true,Bool.true_and]
   have hk26:(r24)=true:=by simpa using hc
   replace H:=zZ hc H
   refine rg zA ?_
   simp only [go_sem]
   refine rg zA ?_
   simp only [go_sem]
   refine ⟨_,(Option.some.inj H).symm,?_⟩
   refine zU ⟨[some 0,some 1,some 2],?_,?_,by rfl,by rfl⟩
   ·simp [CvL,Cv,zX]
   ·exact ⟨cv,cv,cv,trivial⟩
  ·try dsimp only at H ⊢
   try simp only [tp]
   try simp only [xW]
   refine sq zA ?_
   simp only [go_sem]
   refine rg zA ?_
   simp only [go_sem]
   obtain rfl:=Option.some.inj H
   first|rfl|simp only [Bool.and_false,Bool.false_and,Bool.and_true,Bool.true_and]
 ·cases hb
end Go.Proofs.Ytefiemaoacmdkaa
