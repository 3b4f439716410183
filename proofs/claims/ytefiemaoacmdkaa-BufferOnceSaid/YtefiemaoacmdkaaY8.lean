/-
  What BufferOnce reaches.
-/
import Derived.Test.YtefiemaoacmdkaaY8p5
namespace Go.Proofs.Ytefiemaoacmdkaa
open Go.Am
set_option maxHeartbeats 4000000
set_option maxRecDepth 20000
set_option linter.unusedVariables false
set_option linter.unusedSimpArgs false
noncomputable def ct31t0:Ct:=tab [(40,xU fO)]
theorem ct31t0_ok:yZ Try.prog ct31t0:=zR ok40 <| zY
theorem ct31t0_40 (l:List AV) (h:List ABlk):ct31t0 40 l h=xU fO l h:=rfl
noncomputable def ct31t1:Ct:=tab [(42,xU body42)]
theorem ct31t1_ok:yZ Try.prog ct31t1:=zR ok42 <| zY
theorem ct31t1_42 (l:List AV) (h:List ABlk):ct31t1 42 l h=xU body42 l h:=rfl
noncomputable def ct31t2:Ct:=tab [(50,xU fP)]
theorem ct31t2_ok:yZ Try.prog ct31t2:=zR ok50 <| zY
theorem ct31t2_50 (l:List AV) (h:List ABlk):ct31t2 50 l h=xU fP l h:=rfl
noncomputable def ct31t3:Ct:=tab [(21,xU body21)]
theorem ct31t3_ok:yZ Try.prog ct31t3:=zR ok21 <| zY
theorem ct31t3_21 (l:List AV) (h:List ABlk):ct31t3 21 l h=xU body21 l h:=rfl
noncomputable def ct31t4:Ct:=tab [(24,xU jI)]
theorem ct31t4_ok:yZ Try.prog ct31t4:=zR ok24 <| zY
theorem ct31t4_24 (l:List AV) (h:List ABlk):ct31t4 24 l h=xU jI l h:=rfl
noncomputable def ct31t5:Ct:=tab [(41,xU body41)]
theorem ct31t5_ok:yZ Try.prog ct31t5:=zR ok41 <| zY
theorem ct31t5_41 (l:List AV) (h:List ABlk):ct31t5 41 l h=xU body41 l h:=rfl
noncomputable def ct31t6:Ct:=tab [(23,xU fM)]
theorem ct31t6_ok:yZ Try.prog ct31t6:=zR ok23 <| zY
theorem ct31t6_23 (l:List AV) (h:List ABlk):ct31t6 23 l h=xU fM l h:=rfl
noncomputable def ct31t7:Ct:=tab [(26,xU body26)]
theorem ct31t7_ok:yZ Try.prog ct31t7:=zR ok26 <| zY
theorem ct31t7_26 (l:List AV) (h:List ABlk):ct31t7 26 l h=xU body26 l h:=rfl
noncomputable def ct31t8:Ct:=tab [(25,xU body25)]
theorem ct31t8_ok:yZ Try.prog ct31t8:=zR ok25 <| zY
theorem ct31t8_25 (l:List AV) (h:List ABlk):ct31t8 25 l h=xU body25 l h:=rfl
noncomputable def F31 (p0:TBuffer) (p1:TStep):Option ((List TFrame) × (List TFrame) × TBuffer × Int) :=
 bif (bEq p1.Kind 0) then ((F40 p0 p1.Aid).bind fun r2=>some ([],[],r2.1,r2.2)) else (bif (bEq p1.Kind 1) then ((F42 p0 p1.Aid).bind fun r5=>some ([],r5.1,r5.2.1,r5.2.2)) else (bif (bEq p1.Kind 2) then ((F50 p0 p1.Aid).bind fun r8=>some ([],[],r8.1,r8.2)) else (bif (bEq p1.Kind 3) then ((F21 p0 p1.Aid).bind fun r11=>some (r11.1,[],r11.2.1,r11.2.2)) else (bif (bEq p1.Kind 4) then ((F24 p0 p1.Aid p1.Cat p1.Frame p1.Now).bind fun r14=>some (r14.1,r14.2.1,r14.2.2.1,r14.2.2.2)) else (bif (bEq p1.Kind 5) then ((F41 p0 p1.Frame p1.Now).bind fun r17=>some (r17.1,r17.2.1,r17.2.2.1,r17.2.2.2)) else (bif (bEq p1.Kind 6) then ((F23 p0 p1.Aid).bind fun r20=>bif (bEq r20.2.2 0) then (some ([r20.1],[],r20.2.1,r20.2.2)) else (some ([],[],r20.2.1,r20.2.2))) else (bif (bEq p1.Kind 7) then ((F26 p0).bind fun r24=>some (r24.1,[],r24.2.1,r24.2.2)) else (bif (bEq p1.Kind 8) then ((F25 p0 p1.Now).bind fun r27=>some ([],r27.1,r27.2.1,r27.2.2)) else (some ([],[],(TBuffer.mk 0 0 [] []),2))))))))))
noncomputable def body31:List AV->Nat->AR
 | [v0,v1],_=>.pure (aK 4 wC v0/\aK 45 kX v1/\(F31 (zG (aL v0)) (g_TStep (aL v1))).isSome=true) (.tup [.ro 41 (((gt (F31 (zG (aL v0)) (g_TStep (aL v1)))).1).length) false (enR zI ((gt (F31 (zG (aL v0)) (g_TStep (aL v1)))).1)),.ro 41 (((gt (F31 (zG (aL v0)) (g_TStep (aL v1)))).2.1).length) false (enR zI ((gt (F31 (zG (aL v0)) (g_TStep (aL v1)))).2.1)),.agg [.int .i64 (((gt (F31 (zG (aL v0)) (g_TStep (aL v1)))).2.2.1).Limit),.int .i64 (((gt (F31 (zG (aL v0)) (g_TStep (aL v1)))).2.2.1).Stay),.ro 3 ((((gt (F31 (zG (aL v0)) (g_TStep (aL v1)))).2.2.1).List).length) false (enR zC (((gt (F31 (zG (aL v0)) (g_TStep (aL v1)))).2.2.1).List)),.ro 43 ((((gt (F31 (zG (aL v0)) (g_TStep (aL v1)))).2.2.1).Group).length) false (enR zE (((gt (F31 (zG (aL v0)) (g_TStep (aL v1)))).2.2.1).Group))],.int .i64 ((gt (F31 (zG (aL v0)) (g_TStep (aL v1)))).2.2.2)])
 | _,_=>.fail
theorem ok31:wM Try.prog 31 (xU body31):=by
 refine uZ body31 (rs:=[.tmp 4,.tmp 5,.cell 6 25,.tmp 7]) Try.func31 (by kernel_rfl) rfl rfl ?_
 intro l s ob v ns hb hob
 rcases hb with ⟨hb,rfl⟩|hb
 ·unfold body31 at hb
  split at hb
  ·rename_i v0 v1
   injection hb with q1 q2;subst q1 q2
   obtain ⟨hk0_0,hk1_0,hob⟩:=hob
   obtain ⟨r,H⟩:=oE.1 hob
   rw [H,yQ]
   have hw0:=wU hk0_0
   have hw1:=wA_TStep hk1_0
   generalize zG (aL v0)=p0 at H hw0
   generalize g_TStep (aL v1)=p1 at H hw1
   refine ⟨[.agg [.int .i64 p0.Limit,.int .i64 p0.Stay,.ro 3 p0.List.length false (enR zC p0.List),.ro 43 p0.Group.length false (enR zE p0.Group)],.agg (.int .i64 p1.Kind::.int .i64 p1.Aid::.int .u8 p1.Cat::.int .i64 p1.Now::.int .u8 p1.Frame.Head.Kind::.int .u8 p1.Frame.Head.Sub::.bool p1.Frame.Head.ToDs::.bool p1.Frame.Head.FromDs::.bool p1.Frame.Head.More::.bool p1.Frame.Head.Retry::.bool p1.Frame.Head.Sleep::.bool p1.Frame.Head.MoreData::.bool p1.Frame.Head.Protected::.int .i64 p1.Frame.Head.Duration::.int .u8 p1.Frame.Head.A1.x0::.int .u8 p1.Frame.Head.A1.x1::.int .u8 p1.Frame.Head.A1.x2::.int .u8 p1.Frame.Head.A1.x3::.int .u8 p1.Frame.Head.A1.x4::.int .u8 p1.Frame.Head.A1.x5::.int .u8 p1.Frame.Head.A2.x0::.int .u8 p1.Frame.Head.A2.x1::.int .u8 p1.Frame.Head.A2.x2::.int .u8 p1.Frame.Head.A2.x3::.int .u8 p1.Frame.Head.A2.x4::.int .u8 p1.Frame.Head.A2.x5::.int .u8 p1.Frame.Head.A3.x0::.int .u8 p1.Frame.Head.A3.x1::.int .u8 p1.Frame.Head.A3.x2::.int .u8 p1.Frame.Head.A3.x3::.int .u8 p1.Frame.Head.A3.x4::.int .u8 p1.Frame.Head.A3.x5::.int .u8 p1.Frame.Head.A4.x0::.int .u8 p1.Frame.Head.A4.x1::.int .u8 p1.Frame.Head.A4.x2::.int .u8 p1.Frame.Head.A4.x3::.int .u8 p1.Frame.Head.A4.x4::.int .u8 p1.Frame.Head.A4.x5::.int .i64 p1.Frame.Head.Seq::.int .i64 p1.Frame.Head.Frag::.int .i64 p1.Frame.Head.Tid::.int .u8 p1.Frame.Head.Ack::.bool p1.Frame.Head.Amsdu::.bool p1.Frame.Head.Eosp::.ro 1 p1.Frame.Body.length false (enR xM p1.Frame.Body)::[])],.tup [.ro 41 r.1.length false (enR zI r.1),.ro 41 r.2.1.length false (enR zI r.2.1),.agg [.int .i64 r.2.2.1.Limit,.int .i64 r.2.2.1.Stay,.ro 3 r.2.2.1.List.length false (enR zC r.2.2.1.List),.ro 43 r.2.2.1.Group.length false (enR zE r.2.2.1.Group)],.int .i64 r.2.2.2],[],(fun E vs F=>yO hw0.1 F (fun vs F=>yO hw1.1 F (fun vs F=>F))),by simp only [ren,uS],trivial,?_⟩
   rw [Try.ntmps31]
   simp only [lC,lN,Nat.reduceAdd,Nat.reduceSub,rS,rZ,aC,aN]
   unfold F31 at H
   try dsimp only at H
   refine sq zA ?_
   simp only [go_sem,Nat.reduceAdd]
   refine sq zA ?_
   simp only [go_sem]
   refine zK ?_
   refine sq zA ?_
   simp only [go_sem,Nat.reduceLeDiff,Nat.reduceLT,Nat.reduceAdd]
   repeat ((with_reducible refine aI ?_ ?_);exact an5)
   refine wN ?_
   refine sq zA ?_
   simp only [go_sem]
   refine yM rfl trivial (fun hc=>?_) (fun hc=>?_)
   ·have hk1:(bEq p1.Kind 0)=true:=by simpa using hc
    replace H:=yA hc H
    obtain ⟨r2,e3,H⟩:=bsi H
    refine rg ct31t0_ok ?_
    simp only [go_sem,Nat.reduceLeDiff,Nat.reduceLT,Nat.reduceAdd,ct31t0_40,fO,e3]
    repeat ((with_reducible refine aI ?_ ?_);exact an0)
    refine zK ?_
    refine yL zQ zA 0 (by kernel_rfl) (by kernel_rfl) ?_
    intro an han
    simp only [wK,xR,vL,xrD,xoD,vM,wY,List.append_nil,xA,refs,mask,xZ,place,xI,wA,xK,hit,inL,xD,nrH,nrB,nrL,nr,rZ,Nat.sub_self,Nat.add_zero,Nat.zero_add,Nat.reduceSub,Nat.lt_add_one,go_sem,Nat.reduceLeDiff,Nat.reduceLT,Nat.reduceAdd,Nat.reduceSub,Nat.reduceBEq]
    repeat ((with_reducible refine aI ?_ ?_);exact an4)
    refine rg zA ?_
    simp only [go_sem,Nat.reduceLT,Nat.reduceAdd]
    obtain rfl:=Option.some.inj H
    refine ⟨[0,1,2],?_,?_,[],?_,?_,rfl⟩
    ·simp only [go_sem]
     try exact at0
    ·simp only [go_sem]
     try exact at0
    ·simp only [go_sem]
     exact yY (zB (zJ (α:=TFrame)) (zB (zJ (α:=TFrame)) (zB (yV (zB zF (zB zF (zB (vZ (by simp only [nref])) (zB (vZ (by simp only [nref])) zO))))) (zB zF zO))))
    ·simp only [go_sem,CvH]
   have hk1:(bEq p1.Kind 0)=false:=by simpa using hc
   replace H:=zZ hc H
   refine sq zA ?_
   simp only [go_sem]
   refine yM rfl trivial (fun hc=>?_) (fun hc=>?_)
   ·have hk4:(bEq p1.Kind 1)=true:=by simpa using hc
    replace H:=yA hc H
    obtain ⟨r5,e6,H⟩:=bsi H
    refine rg ct31t1_ok ?_
    simp only [go_sem,Nat.reduceLeDiff,Nat.reduceLT,Nat.reduceAdd,ct31t1_42,body42,e6]
    repeat ((with_reducible refine aI ?_ ?_);exact an0)
    refine zK ?_
    refine yL zQ zA 0 (by kernel_rfl) (by kernel_rfl) ?_
    intro an han
    simp only [wK,xR,vL,xrD,xoD,vM,wY,List.append_nil,xA,refs,mask,xZ,place,xI,wA,xK,hit,inL,xD,nrH,nrB,nrL,nr,rZ,Nat.sub_self,Nat.add_zero,Nat.zero_add,Nat.reduceSub,Nat.lt_add_one,go_sem,Nat.reduceLeDiff,Nat.reduceLT,Nat.reduceAdd,Nat.reduceSub,Nat.reduceBEq]
    repeat ((with_reducible refine aI ?_ ?_);exact an4)
    refine rg zA ?_
    simp only [go_sem,Nat.reduceLT,Nat.reduceAdd]
    obtain rfl:=Option.some.inj H
    refine ⟨[0,1,2],?_,?_,[],?_,?_,rfl⟩
    ·simp only [go_sem]
     try exact at0
    ·simp only [go_sem]
     try exact at0
    ·simp only [go_sem]
     exact yY (zB (zJ (α:=TFrame)) (zB (vZ (by simp only [nref])) (zB (yV (zB zF (zB zF (zB (vZ (by simp only [nref])) (zB (vZ (by simp only [nref])) zO))))) (zB zF zO))))
    ·simp only [go_sem,CvH]
   have hk4:(bEq p1.Kind 1)=false:=by simpa using hc
   replace H:=zZ hc H
   refine sq zA ?_
   simp only [go_sem]
   refine yM rfl trivial (fun hc=>?_) (fun hc=>?_)
   ·have hk7:(bEq p1.Kind 2)=true:=by simpa using hc
    replace H:=yA hc H
    obtain ⟨r8,e9,H⟩:=bsi H
    refine rg ct31t2_ok ?_
    simp only [go_sem,Nat.reduceLeDiff,Nat.reduceLT,Nat.reduceAdd,ct31t2_50,fP,e9]
    repeat ((with_reducible refine aI ?_ ?_);exact an0)
    refine zK ?_
    refine yL zQ zA 0 (by kernel_rfl) (by kernel_rfl) ?_
    intro an han
    simp only [wK,xR,vL,xrD,xoD,vM,wY,List.append_nil,xA,refs,mask,xZ,place,xI,wA,xK,hit,inL,xD,nrH,nrB,nrL,nr,rZ,Nat.sub_self,Nat.add_zero,Nat.zero_add,Nat.reduceSub,Nat.lt_add_one,go_sem,Nat.reduceLeDiff,Nat.reduceLT,Nat.reduceAdd,Nat.reduceSub,Nat.reduceBEq]
    repeat ((with_reducible refine aI ?_ ?_);exact an4)
    refine rg zA ?_
    simp only [go_sem,Nat.reduceLT,Nat.reduceAdd]
    obtain rfl:=Option.some.inj H
    refine ⟨[0,1,2],?_,?_,[],?_,?_,rfl⟩
    ·simp only [go_sem]
     try exact at0
    ·simp only [go_sem]
     try exact at0
    ·simp only [go_sem]
     exact yY (zB (zJ (α:=TFrame)) (zB (zJ (α:=TFrame)) (zB (yV (zB zF (zB zF (zB (vZ (by simp only [nref])) (zB (vZ (by simp only [nref])) zO))))) (zB zF zO))))
    ·simp only [go_sem,CvH]
   have hk7:(bEq p1.Kind 2)=false:=by simpa using hc
   replace H:=zZ hc H
   refine sq zA ?_
   simp only [go_sem]
   refine yM rfl trivial (fun hc=>?_) (fun hc=>?_)
   ·have hk10:(bEq p1.Kind 3)=true:=by simpa using hc
    replace H:=yA hc H
    obtain ⟨r11,e12,H⟩:=bsi H
    refine rg ct31t3_ok ?_
    simp only [go_sem,Nat.reduceLeDiff,Nat.reduceLT,Nat.reduceAdd,ct31t3_21,body21,e12]
    repeat ((with_reducible refine aI ?_ ?_);exact an0)
    refine zK ?_
    refine yL zQ zA 0 (by kernel_rfl) (by kernel_rfl) ?_
    intro an han
    simp only [wK,xR,vL,xrD,xoD,vM,wY,List.append_nil,xA,refs,mask,xZ,place,xI,wA,xK,hit,inL,xD,nrH,nrB,nrL,nr,rZ,Nat.sub_self,Nat.add_zero,Nat.zero_add,Nat.reduceSub,Nat.lt_add_one,go_sem,Nat.reduceLeDiff,Nat.reduceLT,Nat.reduceAdd,Nat.reduceSub,Nat.reduceBEq]
    repeat ((with_reducible refine aI ?_ ?_);exact an4)
    refine rg zA ?_
    simp only [go_sem,Nat.reduceLT,Nat.reduceAdd]
    obtain rfl:=Option.some.inj H
    refine ⟨[0,1,2],?_,?_,[],?_,?_,rfl⟩
    ·simp only [go_sem]
     try exact at0
    ·simp only [go_sem]
     try exact at0
    ·simp only [go_sem]
     exact yY (zB (vZ (by simp only [nref])) (zB (zJ (α:=TFrame)) (zB (yV (zB zF (zB zF (zB (vZ (by simp only [nref])) (zB (vZ (by simp only [nref])) zO))))) (zB zF zO))))
    ·simp only [go_sem,CvH]
   have hk10:(bEq p1.Kind 3)=false:=by simpa using hc
   replace H:=zZ hc H
   refine sq zA ?_
   simp only [go_sem]
   refine yM rfl trivial (fun hc=>?_) (fun hc=>?_)
   ·have hk13:(bEq p1.Kind 4)=true:=by simpa using hc
    replace H:=yA hc H
    obtain ⟨r14,e15,H⟩:=bsi H
    refine rg ct31t4_ok ?_
    simp only [go_sem,Nat.reduceLeDiff,Nat.reduceLT,Nat.reduceAdd,reduceCtorEq,ct31t4_24,jI,e15]
    repeat ((with_reducible refine aI ?_ ?_);exact an0)
    refine zK ?_
    refine yL zQ zA 0 (by kernel_rfl) (by kernel_rfl) ?_
    intro an han
    simp only [wK,xR,vL,xrD,xoD,vM,wY,List.append_nil,xA,refs,mask,xZ,place,xI,wA,xK,hit,inL,xD,nrH,nrB,nrL,nr,rZ,Nat.sub_self,Nat.add_zero,Nat.zero_add,Nat.reduceSub,Nat.lt_add_one,go_sem,Nat.reduceLeDiff,Nat.reduceLT,Nat.reduceAdd,Nat.reduceSub,Nat.reduceBEq]
    repeat ((with_reducible refine aI ?_ ?_);exact an4)
    refine rg zA ?_
    simp only [go_sem,Nat.reduceLT,Nat.reduceAdd]
    obtain rfl:=Option.some.inj H
    refine ⟨[0,1,2],?_,?_,[],?_,?_,rfl⟩
    ·simp only [go_sem]
     try exact at0
    ·simp only [go_sem]
     try exact at0
    ·simp only [go_sem]
     exact yY (zB (vZ (by simp only [nref])) (zB (vZ (by simp only [nref])) (zB (yV (zB zF (zB zF (zB (vZ (by simp only [nref])) (zB (vZ (by simp only [nref])) zO))))) (zB zF zO))))
    ·simp only [go_sem,CvH]
   have hk13:(bEq p1.Kind 4)=false:=by simpa using hc
   replace H:=zZ hc H
   refine sq zA ?_
   simp only [go_sem]
   refine yM rfl trivial (fun hc=>?_) (fun hc=>?_)
   ·have hk16:(bEq p1.Kind 5)=true:=by simpa using hc
    replace H:=yA hc H
    obtain ⟨r17,e18,H⟩:=bsi H
    refine rg ct31t5_ok ?_
    simp only [go_sem,Nat.reduceLeDiff,Nat.reduceLT,Nat.reduceAdd,reduceCtorEq,ct31t5_41,body41,e18]
    repeat ((with_reducible refine aI ?_ ?_);exact an0)
    refine zK ?_
    refine yL zQ zA 0 (by kernel_rfl) (by kernel_rfl) ?_
    intro an han
    simp only [wK,xR,vL,xrD,xoD,vM,wY,List.append_nil,xA,refs,mask,xZ,place,xI,wA,xK,hit,inL,xD,nrH,nrB,nrL,nr,rZ,Nat.sub_self,Nat.add_zero,Nat.zero_add,Nat.reduceSub,Nat.lt_add_one,go_sem,Nat.reduceLeDiff,Nat.reduceLT,Nat.reduceAdd,Nat.reduceSub,Nat.reduceBEq]
    repeat ((with_reducible refine aI ?_ ?_);exact an4)
    refine rg zA ?_
    simp only [go_sem,Nat.reduceLT,Nat.reduceAdd]
    obtain rfl:=Option.some.inj H
    refine ⟨[0,1,2],?_,?_,[],?_,?_,rfl⟩
    ·simp only [go_sem]
     try exact at0
    ·simp only [go_sem]
     try exact at0
    ·simp only [go_sem]
     exact yY (zB (vZ (by simp only [nref])) (zB (vZ (by simp only [nref])) (zB (yV (zB zF (zB zF (zB (vZ (by simp only [nref])) (zB (vZ (by simp only [nref])) zO))))) (zB zF zO))))
    ·simp only [go_sem,CvH]
   have hk16:(bEq p1.Kind 5)=false:=by simpa using hc
   replace H:=zZ hc H
   refine sq zA ?_
   simp only [go_sem]
   refine yM rfl trivial (fun hc=>?_) (fun hc=>?_)
   ·have hk19:(bEq p1.Kind 6)=true:=by simpa using hc
    replace H:=yA hc H
    refine zK ?_
    obtain ⟨r20,e21,H⟩:=bsi H
    refine rg ct31t6_ok ?_
    simp only [go_sem,Nat.reduceLeDiff,Nat.reduceLT,Nat.reduceAdd,ct31t6_23,fM,e21]
    repeat ((with_reducible refine aI ?_ ?_);exact an0)
    refine sq zA ?_
    simp only [go_sem,Nat.reduceLT,Nat.reduceAdd]
    repeat ((with_reducible refine aI ?_ ?_);exact an5)
    refine sq zA ?_
    simp only [go_sem]
    refine condM' rfl trivial (fun hc=>?_) (fun hc=>?_)
    ·have hk22:(bEq r20.2.2 0)=false:=by simpa using hc
     replace H:=zZ hc H
     refine rg zA ?_
     simp only [go_sem]
     refine zK ?_
     refine yL zQ zA 0 (by kernel_rfl) (by kernel_rfl) ?_
     intro an han
     simp only [wK,xR,vL,xrD,xoD,vM,wY,List.append_nil,xA,refs,mask,xZ,place,xI,wA,xK,hit,inL,xD,nrH,nrB,nrL,nr,rZ,Nat.sub_self,Nat.add_zero,Nat.zero_add,Nat.reduceSub,Nat.lt_add_one,go_sem,Nat.reduceLeDiff,Nat.reduceLT,Nat.reduceAdd,Nat.reduceSub,Nat.reduceBEq]
     repeat ((with_reducible refine aI ?_ ?_);exact an4)
     refine rg zA ?_
     simp only [go_sem,Nat.reduceLT,Nat.reduceAdd]
     obtain rfl:=Option.some.inj H
     refine ⟨[0,1,2,3,4],?_,?_,[],?_,?_,rfl⟩
     ·simp only [go_sem]
      try exact at0
     ·simp only [go_sem]
      try exact at0
     ·simp only [go_sem]
      exact yY (zB (zJ (α:=TFrame)) (zB (zJ (α:=TFrame)) (zB (yV (zB zF (zB zF (zB (vZ (by simp only [nref])) (zB (vZ (by simp only [nref])) zO))))) (zB zF zO))))
     ·simp only [go_sem,CvH]
    have hk22:(bEq r20.2.2 0)=true:=by simpa using hc
    replace H:=yA hc H
    refine rg zA ?_
    simp only [go_sem,Nat.reduceLeDiff,Nat.reduceLT,Nat.reduceAdd]
    repeat ((with_reducible refine aI ?_ ?_);exact an5)
    refine zK ?_
    refine yL zQ zA 0 (by kernel_rfl) (by kernel_rfl) ?_
    intro an han
    simp only [wK,xR,vL,xrD,xoD,vM,wY,List.append_nil,xA,refs,mask,xZ,place,xI,wA,xK,hit,inL,xD,nrH,nrB,nrL,nr,rZ,Nat.sub_self,Nat.add_zero,Nat.zero_add,Nat.reduceSub,Nat.lt_add_one,go_sem,Nat.reduceLeDiff,Nat.reduceLT,Nat.reduceAdd,Nat.reduceSub,Nat.reduceBEq]
    repeat ((with_reducible refine aI ?_ ?_);exact an6)
    refine rg zA ?_
    simp only [go_sem,Nat.reduceLT,Nat.reduceAdd]
    obtain rfl:=Option.some.inj H
    refine ⟨[5,0,1,2,3,4],?_,?_,[],?_,?_,rfl⟩
    ·simp only [go_sem,Nat.reduceBEq]
     try exact at0
    ·simp only [go_sem]
     try exact at0
    ·simp only [go_sem,Nat.reduceBEq]
     exact yY (zB (xN (by first|rfl|simp) (wF (f:=zI) [r20.1] (fun _ _=>rfl) rfl)) (zB (zJ (α:=TFrame)) (zB (yV (zB zF (zB zF (zB (vZ (by simp only [nref])) (zB (vZ (by simp only [nref])) zO))))) (zB zF zO))))
    ·simp only [go_sem,CvH]
   have hk19:(bEq p1.Kind 6)=false:=by simpa using hc
   replace H:=zZ hc H
   refine sq zA ?_
   simp only [go_sem]
   refine yM rfl trivial (fun hc=>?_) (fun hc=>?_)
   ·have hk23:(bEq p1.Kind 7)=true:=by simpa using hc
    replace H:=yA hc H
    obtain ⟨r24,e25,H⟩:=bsi H
    refine rg ct31t7_ok ?_
    simp only [go_sem,Nat.reduceLT,Nat.reduceAdd,ct31t7_26,body26,e25]
    repeat ((with_reducible refine aI ?_ ?_);exact an0)
    refine zK ?_
    refine yL zQ zA 0 (by kernel_rfl) (by kernel_rfl) ?_
    intro an han
    simp only [wK,xR,vL,xrD,xoD,vM,wY,List.append_nil,xA,refs,mask,xZ,place,xI,wA,xK,hit,inL,xD,nrH,nrB,nrL,nr,rZ,Nat.sub_self,Nat.add_zero,Nat.zero_add,Nat.reduceSub,Nat.lt_add_one,go_sem,Nat.reduceLeDiff,Nat.reduceLT,Nat.reduceAdd,Nat.reduceSub,Nat.reduceBEq]
    repeat ((with_reducible refine aI ?_ ?_);exact an4)
    refine rg zA ?_
    simp only [go_sem,Nat.reduceLT,Nat.reduceAdd]
    obtain rfl:=Option.some.inj H
    refine ⟨[0,1,2],?_,?_,[],?_,?_,rfl⟩
    ·simp only [go_sem]
     try exact at0
    ·simp only [go_sem]
     try exact at0
    ·simp only [go_sem]
     exact yY (zB (vZ (by simp only [nref])) (zB (zJ (α:=TFrame)) (zB (yV (zB zF (zB zF (zB (vZ (by simp only [nref])) (zB (vZ (by simp only [nref])) zO))))) (zB zF zO))))
    ·simp only [go_sem,CvH]
   have hk23:(bEq p1.Kind 7)=false:=by simpa using hc
   replace H:=zZ hc H
   refine sq zA ?_
   simp only [go_sem]
   refine condM' rfl trivial (fun hc=>?_) (fun hc=>?_)
   ·have hk26:(bEq p1.Kind 8)=false:=by simpa using hc
    replace H:=zZ hc H
    refine rg zA ?_
    simp only [go_sem]
    refine zK ?_
    refine yL zQ zA 0 (by kernel_rfl) (by kernel_rfl) ?_
    intro an han
    simp only [wK,xR,vL,xrD,xoD,vM,wY,List.append_nil,xA,refs,mask,xZ,place,xI,wA,xK,hit,inL,xD,nrH,nrB,nrL,nr,rZ,Nat.sub_self,Nat.add_zero,Nat.zero_add,Nat.reduceSub,Nat.lt_add_one,go_sem,Nat.reduceLeDiff,Nat.reduceLT,Nat.reduceAdd,Nat.reduceSub,Nat.reduceBEq]
    repeat ((with_reducible refine aI ?_ ?_);exact an4)
    refine rg zA ?_
    simp only [go_sem,Nat.reduceLT,Nat.reduceAdd]
    obtain rfl:=Option.some.inj H
    refine ⟨[0,1,2],?_,?_,[],?_,?_,rfl⟩
    ·simp only [go_sem]
     try exact at0
    ·simp only [go_sem]
     try exact at0
    ·simp only [go_sem]
     exact yY (zB (zJ (α:=TFrame)) (zB (zJ (α:=TFrame)) (zB (yV (zB zF (zB zF (zB (zJ (α:=TSleeper)) (zB (zJ (α:=TStored)) zO))))) (zB zF zO))))
    ·simp only [go_sem,CvH]
   have hk26:(bEq p1.Kind 8)=true:=by simpa using hc
   replace H:=yA hc H
   obtain ⟨r27,e28,H⟩:=bsi H
   refine rg ct31t8_ok ?_
   simp only [go_sem,Nat.reduceLeDiff,Nat.reduceLT,Nat.reduceAdd,ct31t8_25,body25,e28]
   repeat ((with_reducible refine aI ?_ ?_);exact an0)
   refine zK ?_
   refine yL zQ zA 0 (by kernel_rfl) (by kernel_rfl) ?_
   intro an han
   simp only [wK,xR,vL,xrD,xoD,vM,wY,List.append_nil,xA,refs,mask,xZ,place,xI,wA,xK,hit,inL,xD,nrH,nrB,nrL,nr,rZ,Nat.sub_self,Nat.add_zero,Nat.zero_add,Nat.reduceSub,Nat.lt_add_one,go_sem,Nat.reduceLeDiff,Nat.reduceLT,Nat.reduceAdd,Nat.reduceSub,Nat.reduceBEq]
   repeat ((with_reducible refine aI ?_ ?_);exact an4)
   refine rg zA ?_
   simp only [go_sem,Nat.reduceLT,Nat.reduceAdd]
   obtain rfl:=Option.some.inj H
   refine ⟨[0,1,2],?_,?_,[],?_,?_,rfl⟩
   ·simp only [go_sem]
    try exact at0
   ·simp only [go_sem]
    try exact at0
   ·simp only [go_sem]
    exact yY (zB (zJ (α:=TFrame)) (zB (vZ (by simp only [nref])) (zB (yV (zB zF (zB zF (zB (vZ (by simp only [nref])) (zB (vZ (by simp only [nref])) zO))))) (zB zF zO))))
   ·simp only [go_sem,CvH]
  ·cases hb
 ·unfold body31 at hb
  split at hb<;>cases hb
noncomputable def F36 (p0:TFrame) (p1:TFrame):Option (Bool) :=
 need (bif (bEq p0.Head.Kind p1.Head.Kind && (bEq p0.Head.Sub p1.Head.Sub && (bB p0.Head.ToDs p1.Head.ToDs && (bB p0.Head.FromDs p1.Head.FromDs && (bB p0.Head.More p1.Head.More && (bB p0.Head.Retry p1.Head.Retry && (bB p0.Head.Sleep p1.Head.Sleep && (bB p0.Head.MoreData p1.Head.MoreData && (bB p0.Head.Protected p1.Head.Protected && (bEq p0.Head.Duration p1.Head.Duration && (bEq p0.Head.A1.x0 p1.Head.A1.x0 && (bEq p0.Head.A1.x1 p1.Head.A1.x1 && (bEq p0.Head.A1.x2 p1.Head.A1.x2 && (bEq p0.Head.A1.x3 p1.Head.A1.x3 && (bEq p0.Head.A1.x4 p1.Head.A1.x4 && (bEq p0.Head.A1.x5 p1.Head.A1.x5 && (bEq p0.Head.A2.x0 p1.Head.A2.x0 && (bEq p0.Head.A2.x1 p1.Head.A2.x1 && (bEq p0.Head.A2.x2 p1.Head.A2.x2 && (bEq p0.Head.A2.x3 p1.Head.A2.x3 && (bEq p0.Head.A2.x4 p1.Head.A2.x4 && (bEq p0.Head.A2.x5 p1.Head.A2.x5 && (bEq p0.Head.A3.x0 p1.Head.A3.x0 && (bEq p0.Head.A3.x1 p1.Head.A3.x1 && (bEq p0.Head.A3.x2 p1.Head.A3.x2 && (bEq p0.Head.A3.x3 p1.Head.A3.x3 && (bEq p0.Head.A3.x4 p1.Head.A3.x4 && (bEq p0.Head.A3.x5 p1.Head.A3.x5 && (bEq p0.Head.A4.x0 p1.Head.A4.x0 && (bEq p0.Head.A4.x1 p1.Head.A4.x1 && (bEq p0.Head.A4.x2 p1.Head.A4.x2 && (bEq p0.Head.A4.x3 p1.Head.A4.x3 && (bEq p0.Head.A4.x4 p1.Head.A4.x4 && (bEq p0.Head.A4.x5 p1.Head.A4.x5 && (bEq p0.Head.Seq p1.Head.Seq && (bEq p0.Head.Frag p1.Head.Frag && (bEq p0.Head.Tid p1.Head.Tid && (bEq p0.Head.Ack p1.Head.Ack && (bB p0.Head.Amsdu p1.Head.Amsdu && (bB p0.Head.Eosp p1.Head.Eosp)))))))))))))))))))))))))))))))))))))))) then u8b p0.Body.length (enR xM p0.Body) else true) <| need (bif (bEq p0.Head.Kind p1.Head.Kind && (bEq p0.Head.Sub p1.Head.Sub && (bB p0.Head.ToDs p1.Head.ToDs && (bB p0.Head.FromDs p1.Head.FromDs && (bB p0.Head.More p1.Head.More && (bB p0.Head.Retry p1.Head.Retry && (bB p0.Head.Sleep p1.Head.Sleep && (bB p0.Head.MoreData p1.Head.MoreData && (bB p0.Head.Protected p1.Head.Protected && (bEq p0.Head.Duration p1.Head.Duration && (bEq p0.Head.A1.x0 p1.Head.A1.x0 && (bEq p0.Head.A1.x1 p1.Head.A1.x1 && (bEq p0.Head.A1.x2 p1.Head.A1.x2 && (bEq p0.Head.A1.x3 p1.Head.A1.x3 && (bEq p0.Head.A1.x4 p1.Head.A1.x4 && (bEq p0.Head.A1.x5 p1.Head.A1.x5 && (bEq p0.Head.A2.x0 p1.Head.A2.x0 && (bEq p0.Head.A2.x1 p1.Head.A2.x1 && (bEq p0.Head.A2.x2 p1.Head.A2.x2 && (bEq p0.Head.A2.x3 p1.Head.A2.x3 && (bEq p0.Head.A2.x4 p1.Head.A2.x4 && (bEq p0.Head.A2.x5 p1.Head.A2.x5 && (bEq p0.Head.A3.x0 p1.Head.A3.x0 && (bEq p0.Head.A3.x1 p1.Head.A3.x1 && (bEq p0.Head.A3.x2 p1.Head.A3.x2 && (bEq p0.Head.A3.x3 p1.Head.A3.x3 && (bEq p0.Head.A3.x4 p1.Head.A3.x4 && (bEq p0.Head.A3.x5 p1.Head.A3.x5 && (bEq p0.Head.A4.x0 p1.Head.A4.x0 && (bEq p0.Head.A4.x1 p1.Head.A4.x1 && (bEq p0.Head.A4.x2 p1.Head.A4.x2 && (bEq p0.Head.A4.x3 p1.Head.A4.x3 && (bEq p0.Head.A4.x4 p1.Head.A4.x4 && (bEq p0.Head.A4.x5 p1.Head.A4.x5 && (bEq p0.Head.Seq p1.Head.Seq && (bEq p0.Head.Frag p1.Head.Frag && (bEq p0.Head.Tid p1.Head.Tid && (bEq p0.Head.Ack p1.Head.Ack && (bB p0.Head.Amsdu p1.Head.Amsdu && (bB p0.Head.Eosp p1.Head.Eosp)))))))))))))))))))))))))))))))))))))))) then u8b p1.Body.length (enR xM p1.Body) else true) <| some ((bEq p0.Head.Kind p1.Head.Kind && (bEq p0.Head.Sub p1.Head.Sub && (bB p0.Head.ToDs p1.Head.ToDs && (bB p0.Head.FromDs p1.Head.FromDs && (bB p0.Head.More p1.Head.More && (bB p0.Head.Retry p1.Head.Retry && (bB p0.Head.Sleep p1.Head.Sleep && (bB p0.Head.MoreData p1.Head.MoreData && (bB p0.Head.Protected p1.Head.Protected && (bEq p0.Head.Duration p1.Head.Duration && (bEq p0.Head.A1.x0 p1.Head.A1.x0 && (bEq p0.Head.A1.x1 p1.Head.A1.x1 && (bEq p0.Head.A1.x2 p1.Head.A1.x2 && (bEq p0.Head.A1.x3 p1.Head.A1.x3 && (bEq p0.Head.A1.x4 p1.Head.A1.x4 && (bEq p0.Head.A1.x5 p1.Head.A1.x5 && (bEq p0.Head.A2.x0 p1.Head.A2.x0 && (bEq p0.Head.A2.x1 p1.Head.A2.x1 && (bEq p0.Head.A2.x2 p1.Head.A2.x2 && (bEq p0.Head.A2.x3 p1.Head.A2.x3 && (bEq p0.Head.A2.x4 p1.Head.A2.x4 && (bEq p0.Head.A2.x5 p1.Head.A2.x5 && (bEq p0.Head.A3.x0 p1.Head.A3.x0 && (bEq p0.Head.A3.x1 p1.Head.A3.x1 && (bEq p0.Head.A3.x2 p1.Head.A3.x2 && (bEq p0.Head.A3.x3 p1.Head.A3.x3 && (bEq p0.Head.A3.x4 p1.Head.A3.x4 && (bEq p0.Head.A3.x5 p1.Head.A3.x5 && (bEq p0.Head.A4.x0 p1.Head.A4.x0 && (bEq p0.Head.A4.x1 p1.Head.A4.x1 && (bEq p0.Head.A4.x2 p1.Head.A4.x2 && (bEq p0.Head.A4.x3 p1.Head.A4.x3 && (bEq p0.Head.A4.x4 p1.Head.A4.x4 && (bEq p0.Head.A4.x5 p1.Head.A4.x5 && (bEq p0.Head.Seq p1.Head.Seq && (bEq p0.Head.Frag p1.Head.Frag && (bEq p0.Head.Tid p1.Head.Tid && (bEq p0.Head.Ack p1.Head.Ack && (bB p0.Head.Amsdu p1.Head.Amsdu && (bB p0.Head.Eosp p1.Head.Eosp)))))))))))))))))))))))))))))))))))))))) && (sEq (bytesC p0.Body.length (enR xM p0.Body)) (bytesC p1.Body.length (enR xM p1.Body))))
noncomputable def body36:List AV->AR
 | [v0,v1]=>.pure (aK 41 vT v0/\aK 41 vT v1/\(F36 (zU (aL v0)) (zU (aL v1))).isSome=true) (.bool (gt (F36 (zU (aL v0)) (zU (aL v1)))))
 | _=>.fail
theorem ok36:wM Try.prog 36 (yF body36):=by
 refine wE body36 (rs:=[.tmp 4]) Try.func36 (by kernel_rfl) rfl rfl ?_
 intro l ob v hb hob
 unfold body36 at hb
 split at hb
 ·rename_i v0 v1
  injection hb with q1 q2;subst q1 q2
  obtain ⟨hk0_0,hk1_0,hob⟩:=hob
  obtain ⟨r,H⟩:=oE.1 hob
  rw [H,yQ]
  have hw0:=gC hk0_0
  have hw1:=gC hk1_0
  generalize zU (aL v0)=p0 at H hw0
  generalize zU (aL v1)=p1 at H hw1
  refine ⟨[.agg (.int .u8 p0.Head.Kind::.int .u8 p0.Head.Sub::.bool p0.Head.ToDs::.bool p0.Head.FromDs::.bool p0.Head.More::.bool p0.Head.Retry::.bool p0.Head.Sleep::.bool p0.Head.MoreData::.bool p0.Head.Protected::.int .i64 p0.Head.Duration::.int .u8 p0.Head.A1.x0::.int .u8 p0.Head.A1.x1::.int .u8 p0.Head.A1.x2::.int .u8 p0.Head.A1.x3::.int .u8 p0.Head.A1.x4::.int .u8 p0.Head.A1.x5::.int .u8 p0.Head.A2.x0::.int .u8 p0.Head.A2.x1::.int .u8 p0.Head.A2.x2::.int .u8 p0.Head.A2.x3::.int .u8 p0.Head.A2.x4::.int .u8 p0.Head.A2.x5::.int .u8 p0.Head.A3.x0::.int .u8 p0.Head.A3.x1::.int .u8 p0.Head.A3.x2::.int .u8 p0.Head.A3.x3::.int .u8 p0.Head.A3.x4::.int .u8 p0.Head.A3.x5::.int .u8 p0.Head.A4.x0::.int .u8 p0.Head.A4.x1::.int .u8 p0.Head.A4.x2::.int .u8 p0.Head.A4.x3::.int .u8 p0.Head.A4.x4::.int .u8 p0.Head.A4.x5::.int .i64 p0.Head.Seq::.int .i64 p0.Head.Frag::.int .i64 p0.Head.Tid::.int .u8 p0.Head.Ack::.bool p0.Head.Amsdu::.bool p0.Head.Eosp::.ro 1 p0.Body.length false (enR xM p0.Body)::[]),.agg (.int .u8 p1.Head.Kind::.int .u8 p1.Head.Sub::.bool p1.Head.ToDs::.bool p1.Head.FromDs::.bool p1.Head.More::.bool p1.Head.Retry::.bool p1.Head.Sleep::.bool p1.Head.MoreData::.bool p1.Head.Protected::.int .i64 p1.Head.Duration::.int .u8 p1.Head.A1.x0::.int .u8 p1.Head.A1.x1::.int .u8 p1.Head.A1.x2::.int .u8 p1.Head.A1.x3::.int .u8 p1.Head.A1.x4::.int .u8 p1.Head.A1.x5::.int .u8 p1.Head.A2.x0::.int .u8 p1.Head.A2.x1::.int .u8 p1.Head.A2.x2::.int .u8 p1.Head.A2.x3::.int .u8 p1.Head.A2.x4::.int .u8 p1.Head.A2.x5::.int .u8 p1.Head.A3.x0::.int .u8 p1.Head.A3.x1::.int .u8 p1.Head.A3.x2::.int .u8 p1.Head.A3.x3::.int .u8 p1.Head.A3.x4::.int .u8 p1.Head.A3.x5::.int .u8 p1.Head.A4.x0::.int .u8 p1.Head.A4.x1::.int .u8 p1.Head.A4.x2::.int .u8 p1.Head.A4.x3::.int .u8 p1.Head.A4.x4::.int .u8 p1.Head.A4.x5::.int .i64 p1.Head.Seq::.int .i64 p1.Head.Frag::.int .i64 p1.Head.Tid::.int .u8 p1.Head.Ack::.bool p1.Head.Amsdu::.bool p1.Head.Eosp::.ro 1 p1.Body.length false (enR xM p1.Body)::[])],_,(fun E vs F=>yO hw0.1 F (fun vs F=>yO hw1.1 F (fun vs F=>F))),rfl,rfl,?_⟩
  rw [Try.ntmps36]
  simp only [lC,lN,Nat.reduceAdd,Nat.reduceSub,rS,rZ,aC,aN]
  unfold F36 at H
  try dsimp only at H
  refine sq zA ?_
  simp only [go_sem]
  refine zK ?_
  obtain ⟨f1,H⟩:=yT.1 H
  replace f1:=tU.1 f1
  replace f1:=fun g=>u8b_iff.1 (f1 g)
  obtain ⟨f2,H⟩:=yT.1 H
  replace f2:=tU.1 f2
  replace f2:=fun g=>u8b_iff.1 (f2 g)
  refine rg zA ?_
  simp only [go_sem,Nat.reduceLeDiff,Nat.reduceLT,Nat.reduceAdd,reduceCtorEq]
  repeat ((with_reducible refine And.intro ?_ ?_);focus (first|(with_reducible trivial)|omega|exact f1|exact f2|(intro g;have q:=f1 (by first|exact g|(rw [g];rfl)|simpa using g);first|exact q|exact ⟨q.1,q.2.1⟩|exact q.2.2|omega|exact ⟨g,q⟩|exact ⟨trivial,q⟩|exact ⟨g,q.1,q.2.1⟩|exact ⟨g,q.2.2⟩)|(intro g;have q:=f2 (by first|exact g|(rw [g];rfl)|simpa using g);first|exact q|exact ⟨q.1,q.2.1⟩|exact q.2.2|omega|exact ⟨g,q⟩|exact ⟨trivial,q⟩|exact ⟨g,q.1,q.2.1⟩|exact ⟨g,q.2.2⟩)|grind))
  refine rg zA ?_
  simp only [go_sem]
  obtain rfl:=Option.some.inj H
  first|rfl|simp only [Bool.and_false,Bool.false_and,Bool.and_true,Bool.true_and]
 ·cases hb
noncomputable def ct8t0:Ct:=tab [(20,yF body20)]
theorem ct8t0_ok:yZ Try.prog ct8t0:=zR ok20 <| zY
theorem ct8t0_20 (l:List AV) (h:List ABlk):ct8t0 20 l h=yF body20 l h:=rfl
noncomputable def ct8t1:Ct:=tab [(12,xU fL)]
theorem ct8t1_ok:yZ Try.prog ct8t1:=zR ok12 <| zY
theorem ct8t1_12 (l:List AV) (h:List ABlk):ct8t1 12 l h=xU fL l h:=rfl
noncomputable def ct8t2:Ct:=tab [(37,edC qD)]
theorem ct8t2_ok:yZ Try.prog ct8t2:=zR ok37 <| zY
theorem ct8t2_37 (l:List AV) (h:List ABlk):ct8t2 37 l h=edC qD l h:=rfl
noncomputable def ct8t3:Ct:=tab [(31,xU body31)]
theorem ct8t3_ok:yZ Try.prog ct8t3:=zR ok31 <| zY
theorem ct8t3_31 (l:List AV) (h:List ABlk):ct8t3 31 l h=xU body31 l h:=rfl
noncomputable def ct8t4:Ct:=tab [(38,yF gE)]
theorem ct8t4_ok:yZ Try.prog ct8t4:=zR ok38 <| zY
theorem ct8t4_38 (l:List AV) (h:List ABlk):ct8t4 38 l h=yF gE l h:=rfl
noncomputable def ct8t5:Ct:=tab [(36,yF body36),(37,edC qD)]
theorem ct8t5_ok:yZ Try.prog ct8t5:=zR ok36 <| zR ok37 <| zY
theorem ct8t5_36 (l:List AV) (h:List ABlk):ct8t5 36 l h=yF body36 l h:=rfl
theorem ct8t5_37 (l:List AV) (h:List ABlk):ct8t5 37 l h=edC qD l h:=rfl
noncomputable def F8_L2 (p2:List TStep) (v1_1:List Int) (v1_2:List Int) (v1_3:Int):Option (Lp (Unit) (((List Int) × (List Int)) ⊕ (Bool))) :=
 bif (bEq ((gd p2 v1_3.toNat).Kind) 4) then (bif (((bLt ((gd p2 v1_3.toNat).Aid) 1) || (bLt 255 ((gd p2 v1_3.toNat).Aid))) || (bLt 3 ((gd p2 v1_3.toNat).Cat))) then (some (.done (.inr false))) else (need (inb v1_3 (v1_1.length+1)) <| need (inb v1_3 (v1_2.length+1)) <| some (.done (.inl (((v1_1 ++ [0]).set v1_3.toNat 1),((v1_2 ++ [0]).set v1_3.toNat (wr .i64 ((wr .i64 (4 * ((gd p2 v1_3.toNat).Aid)))+(wr .i64 ((gd p2 v1_3.toNat).Cat)))))))))) else (some (.done (.inl ((v1_1 ++ [0]),(v1_2 ++ [0])))))
noncomputable def F8_L3 (p2:List TStep) (v1_3:Int) (w2_1:List Int):Option (Lp (Unit) ((List Int) ⊕ (Bool))) :=
 bif (bEq ((gd p2 v1_3.toNat).Kind) 5) then (need (inb v1_3 w2_1.length) <| some (.done (.inl (w2_1.set v1_3.toNat 1)))) else (some (.done (.inl w2_1)))
noncomputable def F8_L4 (v1_3:Int) (r12:(List TFrame) × (List TFrame) × TBuffer × Int) (w2_2:List Int) (v4_1:List Int) (v4_2:List Int) (v4_3:Int):Option (Lp ((List Int) × (List Int) × Int) (((List Int) × (List Int)) ⊕ (Bool))) :=
 bif (bLt v4_3 (r12.1.length:Nat)) then (need (inb v4_3 r12.1.length) <| (F38 (eF (gd r12.1 v4_3.toNat))).bind fun r25=>need (bif (!((bLt r25 0) || (bLt v1_3 r25))) then inb r25 v4_1.length else true) <| need (bif (!(((bLt r25 0) || (bLt v1_3 r25)) || (!bEq (gd v4_1 r25.toNat) 1))) then inb r25 w2_2.length else true) <| need (bif (!(((bLt r25 0) || (bLt v1_3 r25)) || (!bEq (gd v4_1 r25.toNat) 1))) then inb (gd w2_2 r25.toNat) 1024 else true) <| need (bif (!(((bLt r25 0) || (bLt v1_3 r25)) || (!bEq (gd v4_1 r25.toNat) 1))) then inb (gd w2_2 r25.toNat) v4_2.length else true) <| bif ((((bLt r25 0) || (bLt v1_3 r25)) || (!bEq (gd v4_1 r25.toNat) 1)) || (bLt r25 (gd v4_2 ((gd w2_2 r25.toNat).toNat)))) then (some (.done (.inr false))) else (need (inb r25 w2_2.length) <| need (inb r25 v4_1.length) <| need (inb (gd w2_2 r25.toNat) 1024) <| need (inb (gd w2_2 r25.toNat) v4_2.length) <| some (.next ((v4_1.set r25.toNat 2),(v4_2.set ((gd w2_2 r25.toNat).toNat) r25),wr .i64 (v4_3+1))))) else (some (.done (.inl (v4_1,v4_2))))
noncomputable def F8_L5 (v1_3:Int) (r12:(List TFrame) × (List TFrame) × TBuffer × Int) (v5_1:List Int) (v5_2:Int):Option (Lp ((List Int) × Int) ((List Int) ⊕ (Bool))) :=
 bif (bLt v5_2 (r12.2.1.length:Nat)) then (need (inb v5_2 r12.2.1.length) <| (F38 (eF (gd r12.2.1 v5_2.toNat))).bind fun r38=>need (bif (!((bLt r38 0) || (bLt v1_3 r38))) then inb r38 v5_1.length else true) <| need (bif (!(((bLt r38 0) || (bLt v1_3 r38)) || (!bEq (gd v5_1 r38.toNat) 1))) then inb v5_2 r12.2.1.length else true) <| bif (((bLt r38 0) || (bLt v1_3 r38)) || (!bEq (gd v5_1 r38.toNat) 1)) then (some (.done (.inr false))) else ((F37 r38).bind fun r42=>(F36 (eF (gd r12.2.1 v5_2.toNat)) (eF r42)).bind fun r44=>bif (!r44) then (some (.done (.inr false))) else (need (inb r38 v5_1.length) <| some (.next ((v5_1.set r38.toNat 3),wr .i64 (v5_2+1)))))) else (some (.done (.inl v5_1)))
noncomputable def F8_L1 (p2:List TStep) (v1_1:List Int) (v1_2:List Int) (v1_3:Int) (v1_4:List Int) (v1_5:TBuffer):Option (Lp ((List Int) × (List Int) × Int × (List Int) × TBuffer) (((List Int) × TBuffer) ⊕ (Bool))) :=
 bif (bLt v1_3 (p2.length:Nat)) then (need (inb v1_3 p2.length) <| (F37 v1_3).bind fun r10=>(F31 v1_5 (TStep.mk ((gd p2 v1_3.toNat).Kind) ((gd p2 v1_3.toNat).Aid) ((gd p2 v1_3.toNat).Cat) ((gd p2 v1_3.toNat).Now) (eF r10))).bind fun r12=>need (capb 8 (v1_1.length+1)) <| need (capb 8 (v1_2.length+1)) <| bif (!bEq r12.2.2.2 0) then (some (.next ((v1_1 ++ [0]),(v1_2 ++ [0]),wr .i64 (v1_3+1),v1_4,v1_5))) else (lp (xC (fun s=>F8_L2 p2 v1_1 v1_2 v1_3) ()) (fun e2=>lp (xC (fun s=>F8_L3 p2 v1_3 e2.1) ()) (fun w3_1=>lp (xC (fun s=>F8_L4 v1_3 r12 e2.2 s.1 s.2.1 s.2.2) (w3_1,v1_4,0)) (fun e4=>lp (xC (fun s=>F8_L5 v1_3 r12 s.1 s.2) (e4.1,0)) (fun w5_3=>some (.next (w5_3,e2.2,wr .i64 (v1_3+1),e4.2,r12.2.2.1))) (fun r=>some (.done (.inr r)))) (fun r=>some (.done (.inr r)))) (fun r=>some (.done (.inr r)))) (fun r=>some (.done (.inr r))))) else (some (.done (.inl (v1_1,v1_5))))
noncomputable def F8_L7 (w1_6:List Int) (w1_7:TBuffer) (v6_2:Int) (v7_1:Int):Option (Lp (Int) ((Unit) ⊕ (Bool))) :=
 need (inb v6_2 w1_7.List.length) <| bif (bLt v7_1 (((gd w1_7.List v6_2.toNat).Held).length:Nat)) then (need (inb v6_2 w1_7.List.length) <| need (inb v7_1 (((gd w1_7.List v6_2.toNat).Held).length)) <| (F38 (eF ((gd ((gd w1_7.List v6_2.toNat).Held) v7_1.toNat).Frame))).bind fun r55=>need (bif (!((bLt r55 0) || (bLe (w1_6.length:Nat) r55))) then inb r55 w1_6.length else true) <| bif (((bLt r55 0) || (bLe (w1_6.length:Nat) r55)) || (!bEq (gd w1_6 r55.toNat) 1)) then (some (.done (.inr false))) else (some (.next (wr .i64 (v7_1+1))))) else (some (.done (.inl ())))
noncomputable def F8_L6 (w1_6:List Int) (w1_7:TBuffer) (v6_1:Int) (v6_2:Int):Option (Lp (Int × Int) ((Int) ⊕ (Bool))) :=
 bif (bLt v6_2 (w1_7.List.length:Nat)) then (need (inb v6_2 w1_7.List.length) <| lp (xC (fun s=>F8_L7 w1_6 w1_7 v6_2 s) 0) (fun _=>some (.next (wr .i64 (v6_1+(((gd w1_7.List v6_2.toNat).Held).length:Nat)),wr .i64 (v6_2+1)))) (fun r=>some (.done (.inr r)))) else (some (.done (.inl v6_1)))
noncomputable def F8_L8 (w1_6:List Int) (v8_1:Int) (v8_2:Int):Option (Lp (Int × Int) ((Int) ⊕ (Bool))) :=
 bif (bLt v8_2 (w1_6.length:Nat)) then (need (inb v8_2 w1_6.length) <| bif (bEq (gd w1_6 v8_2.toNat) 1) then (some (.next (wr .i64 (v8_1 - 1),wr .i64 (v8_2+1)))) else (some (.next (v8_1,wr .i64 (v8_2+1))))) else (some (.done (.inl v8_1)))
noncomputable def F8 (p0:Int) (p1:Int) (p2:List TStep):Option (Bool) :=
 (F20).bind fun r1=>(F12 p0 p1).bind fun r3=>bif (((!bEq r3.2 0) || (bLt 300 (p2.length:Nat))) || (!r1)) then (some r1) else ((some (List.replicate 1024 0:List Int)).bind fun w6=>lp (xC (fun s=>F8_L1 p2 s.1 s.2.1 s.2.2.1 s.2.2.2.1 s.2.2.2.2) ([],[],0,w6,r3.1)) (fun e1=>lp (xC (fun s=>F8_L6 e1.1 e1.2 s.1 s.2) ((e1.2.Group.length:Nat),0)) (fun w6_4=>lp (xC (fun s=>F8_L8 e1.1 s.1 s.2) (w6_4,0)) (fun w8_3=>some (r1 && (bEq w8_3 0))) some) some) some)
noncomputable def body8:List AV->AR
 | [v0,v1,v2]=>.pure (iK .i64 v0/\iK .i64 v1/\lK kX 45 v2/\(F8 (iA v0) (iA v1) (lA g_TStep v2)).isSome=true) (.bool (gt (F8 (iA v0) (iA v1) (lA g_TStep v2))))
 | _=>.fail
theorem ok8:wM Try.prog 8 (yF body8):=by
 refine wE body8 (rs:=[.tmp 6]) Try.func8 (by kernel_rfl) rfl rfl ?_
 intro l ob v hb hob
 unfold body8 at hb
 split at hb
 ·rename_i v0 v1 v2
  injection hb with q1 q2;subst q1 q2
  obtain ⟨hk0_0,hk1_0,hk2_0,hob⟩:=hob
  obtain ⟨r,H⟩:=oE.1 hob
  rw [H,yQ]
  have hw0:=yI hk0_0
  have hw1:=yI hk1_0
  have hw2:=qX (fun r h=>w_TStep h) hk2_0
  generalize iA v0=p0 at H hw0
  generalize iA v1=p1 at H hw1
  generalize lA g_TStep v2=p2 at H hw2
  refine ⟨[.int .i64 p0,.int .i64 p1,.ro 45 p2.length false (enR c_TStep p2)],_,(fun E vs F=>yO hw0.1 F (fun vs F=>yO hw1.1 F (fun vs F=>yO hw2.1 F (fun vs F=>F)))),rfl,rfl,?_⟩
  rw [Try.ntmps8]
  simp only [lC,lN,Nat.reduceAdd,Nat.reduceSub,rS,rZ,aC,aN]
  unfold F8 at H
  try dsimp only at H
  refine sq zA ?_
  simp only [go_sem]
  refine zK ?_
  obtain ⟨r1,e2,H⟩:=bsi H
  refine rg ct8t0_ok ?_
  simp only [go_sem,ct8t0_20,body20,e2]
  repeat ((with_reducible refine aI ?_ ?_);exact an0)
  refine zK ?_
  obtain ⟨r3,e4,H⟩:=bsi H
  refine rg ct8t1_ok ?_
  simp only [go_sem,Nat.reduceLT,Nat.reduceAdd,ct8t1_12,fL,e4]
  repeat ((with_reducible refine aI ?_ ?_);exact an0)
  refine zK ?_
  refine sq zA ?_
  simp only [go_sem]
  repeat ((with_reducible refine aI ?_ ?_);exact an7)
  refine yM rfl trivial (fun hc=>?_) (fun hc=>?_)
  ·have hk5:(((!bEq r3.2 0) || (bLt 300 (p2.length:Nat))) || (!r1))=true:=by simpa using hc
   replace H:=yA hc H
   refine sq zA ?_
   simp only [go_sem]
   refine rg zA ?_
   simp only [go_sem]
   obtain rfl:=Option.some.inj H
   first|rfl|simp only [Bool.and_false,Bool.false_and,Bool.and_true,Bool.true_and]
  have hk5:(((!bEq r3.2 0) || (bLt 300 (p2.length:Nat))) || (!r1))=false:=by simpa using hc
  replace H:=zZ hc H
  refine rg zA ?_
  simp only [go_sem]
  refine sq zA ?_
  simp only [go_sem]
  refine sq zA ?_
  simp only [go_sem]
  refine zK ?_
  refine qZ ?_
  refine xQ zQ zA 0 ?_
  simp only [zM,tZ,dZ,go_sem]
  obtain ⟨w6,hw7,H⟩:=bsj H
  have lhw7:w6.length=1024:=by rw [← hw7];exact List.length_replicate
  refine allocO zQ zA (len:=w6.length) (z:=1) (l:=(List.replicate 1024 (xF 0)).flatten) (c:=enR xF w6) rfl rfl rfl (by kernel_rfl) (by rw [lhw7];exact flat_len) (fun x y hx hy=>by subst hw7;exact arr_rep rfl x y (by simpa using hx) hy) ?_
  simp only [go_sem]
  refine xQ zQ zA 0 ?_
  simp only [zM,tZ,dZ,go_sem]
  refine wS ?_
  refine zK ?_
  refine sq zA ?_
  simp only [go_sem]
  refine wN ?_
  refine xX (fun s:(List Int) × (List Int) × Int × (List Int) × TBuffer=>(.top::.top::.ro 45 p2.length false (enR c_TStep p2)::tp 4 (.bool r1::.ptr 0 0 0 0::.top::.sl 2 1 0 s.1.length false::.sl 3 1 0 s.2.1.length false::.ptr 4 1 0 0::.int .i64 s.2.2.1::tp 254 []))) (fun s=>[.lit 25 [.int .i64 s.2.2.2.2.Limit,.int .i64 s.2.2.2.2.Stay,.ro 3 s.2.2.2.2.List.length false (enR zC s.2.2.2.2.List),.ro 43 s.2.2.2.2.Group.length false (enR zE s.2.2.2.2.Group)],.dead,.row 3 1 s.1.length (enR xF s.1),.row 3 1 s.2.1.length (enR xF s.2.1),.row 82 1 s.2.2.2.1.length (enR xF s.2.2.2.1)]) (fun e:(List Int) × TBuffer=>(tp 7 (.bool r1::.ptr 0 0 0 0::.top::.sl 2 1 0 e.1.length false::tp 257 []))) (fun e=>[.lit 25 [.int .i64 e.2.Limit,.int .i64 e.2.Stay,.ro 3 e.2.List.length false (enR zC e.2.List),.ro 43 e.2.Group.length false (enR zE e.2.Group)],.dead,.row 3 1 e.1.length (enR xF e.1)]) H ?_ (fun s o H hn1_1 hn2_1=>?_) (fun e H=>?_)
  ·refine zT ⟨[some 0,some 1,none,none,some 1],?_,?_,by rfl,by rfl⟩
   ·simp [CvL,Cv,zX,tp]
   ·exact ⟨cv,zD,qO,qO,zS vK cl (fun _ _ _ _=>rfl),trivial⟩
  ·obtain ⟨v1_1,v1_2,v1_3,v1_4,v1_5⟩:=s
   unfold F8_L1 at H
   delta eF at H
   try dsimp only at H ⊢
   try simp only [tp]
   refine zK ?_
   refine sq zA ?_
   simp only [go_sem,Nat.reduceAdd]
   repeat ((with_reducible refine aI ?_ ?_);exact an0)
   refine condM' rfl trivial (fun hc=>?_) (fun hc=>?_)
   ·have hk8:(bLt v1_3 (p2.length:Nat))=false:=by simpa using hc
    replace H:=zZ hc H
    refine rg zA ?_
    simp only [go_sem]
    refine ⟨_,(Option.some.inj H).symm,?_⟩
    refine zT ⟨[some 0,some 1,some 2],?_,?_,by rfl,by rfl⟩
    ·simp [CvL,Cv,zX]
    ·exact ⟨cv,zD,zS vK cl (fun _ _ _ _=>rfl),trivial⟩
   have hk8:(bLt v1_3 (p2.length:Nat))=true:=by simpa using hc
   replace H:=yA hc H
   refine rg zA ?_
   simp only [go_sem]
   refine zK ?_
   refine wN ?_
   refine zK ?_
   obtain ⟨f9,H⟩:=nI H
   refine rg zA ?_
   simp only [go_sem,Nat.reduceLT,Nat.reduceAdd,f9]
   repeat ((with_reducible refine aI ?_ ?_);exact an5)
   refine zK ?_
   obtain ⟨r10,e11,H⟩:=bsi H
   refine rg ct8t2_ok ?_
   simp only [go_sem,Nat.reduceAdd,reduceCtorEq,ct8t2_37,qD,e11]
   repeat ((with_reducible refine aI ?_ ?_);exact an0)
   refine zK ?_
   refine kW [6] ?_ ?_
   ·simp only [go_sem,Nat.reduceBEq]
    try exact at0
   simp only [go_sem,Nat.reduceBEq,Nat.reduceAdd]
   obtain ⟨r12,e13,H⟩:=bsi H
   refine rg ct8t3_ok ?_
   simp only [go_sem,Nat.reduceLT,Nat.reduceAdd,ct8t3_31,body31,e13]
   repeat ((with_reducible refine aI ?_ ?_);exact an0)
   refine zK ?_
   obtain ⟨f14,H⟩:=nC H
   obtain ⟨f15,H⟩:=nC H
   refine rg zA ?_
   simp only [go_sem,Nat.reduceLeDiff,Nat.reduceAdd,Nat.reduceBEq,f14,f15]
   repeat ((with_reducible refine aI ?_ ?_);exact an1)
   refine zK ?_
   refine sq zA ?_
   simp only [go_sem]
   refine yM rfl trivial (fun hc=>?_) (fun hc=>?_)
   ·have hk16:(bEq r12.2.2.2 0)=false:=by simpa using hc
    replace H:=yA hc H
    refine rg zA ?_
    simp only [go_sem,Nat.reduceBEq]
    refine rg zA ?_
    simp only [go_sem]
    refine ⟨_,(Option.some.inj H).symm,?_⟩
    refine zT ⟨[some 0,some 1,some 9,some 11,some 4],?_,?_,by rfl,by rfl⟩
    ·simp [CvL,Cv,zX]
    ·exact ⟨cv,zD,zS vK cl (wW (f:=xF) v1_1 [0] (fun _ _ _ _=>rfl) (wF (f:=xF) [0] (fun _ _=>rfl) rfl)),zS vK cl (wW (f:=xF) v1_2 [0] (fun _ _ _ _=>rfl) (wF (f:=xF) [0] (fun _ _=>rfl) rfl)),zS vK cl (fun _ _ _ _=>rfl),trivial⟩
   have hk16:(bEq r12.2.2.2 0)=true:=by simpa using hc
   replace H:=zZ hc H
   refine rg zA ?_
   simp only [go_sem]
   refine zK ?_
   refine sq zA ?_
   simp only [go_sem,Nat.reduceLeDiff,Nat.reduceLT,Nat.reduceAdd]
   repeat ((with_reducible refine aI ?_ ?_);exact an5)
   refine join_den (fun e:(List Int) × (List Int)=>(.top::.top::.ro 45 p2.length false (enR c_TStep p2)::tp 4 (.bool r1::.ptr 0 0 0 0::.top::.sl 12 1 0 e.1.length false::.sl 13 1 0 e.2.length false::.ptr 4 1 0 0::.int .i64 v1_3::.ptr 5 0 0 0::.ro 41 r12.1.length false (enR zI r12.1)::.ro 41 r12.2.1.length false (enR zI r12.2.1)::.ptr 7 0 0 0::tp 250 []))) (fun e=>[.lit 25 [.int .i64 v1_5.Limit,.int .i64 v1_5.Stay,.ro 3 v1_5.List.length false (enR zC v1_5.List),.ro 43 v1_5.Group.length false (enR zE v1_5.Group)],.dead,.dead,.dead,.row 82 1 v1_4.length (enR xF v1_4),.lit 70 (.int .i64 ((gd p2 v1_3.toNat).Kind)::.int .i64 ((gd p2 v1_3.toNat).Aid)::.int .u8 ((gd p2 v1_3.toNat).Cat)::.int .i64 ((gd p2 v1_3.toNat).Now)::.int .u8 r10.Head.Kind::.int .u8 r10.Head.Sub::.bool r10.Head.ToDs::.bool r10.Head.FromDs::.bool r10.Head.More::.bool r10.Head.Retry::.bool r10.Head.Sleep::.bool r10.Head.MoreData::.bool r10.Head.Protected::.int .i64 r10.Head.Duration::.int .u8 r10.Head.A1.x0::.int .u8 r10.Head.A1.x1::.int .u8 r10.Head.A1.x2::.int .u8 r10.Head.A1.x3::.int .u8 r10.Head.A1.x4::.int .u8 r10.Head.A1.x5::.int .u8 r10.Head.A2.x0::.int .u8 r10.Head.A2.x1::.int .u8 r10.Head.A2.x2::.int .u8 r10.Head.A2.x3::.int .u8 r10.Head.A2.x4::.int .u8 r10.Head.A2.x5::.int .u8 r10.Head.A3.x0::.int .u8 r10.Head.A3.x1::.int .u8 r10.Head.A3.x2::.int .u8 r10.Head.A3.x3::.int .u8 r10.Head.A3.x4::.int .u8 r10.Head.A3.x5::.int .u8 r10.Head.A4.x0::.int .u8 r10.Head.A4.x1::.int .u8 r10.Head.A4.x2::.int .u8 r10.Head.A4.x3::.int .u8 r10.Head.A4.x4::.int .u8 r10.Head.A4.x5::.int .i64 r10.Head.Seq::.int .i64 r10.Head.Frag::.int .i64 r10.Head.Tid::.int .u8 r10.Head.Ack::.bool r10.Head.Amsdu::.bool r10.Head.Eosp::.ro 1 r10.Body.length false (enR xM r10.Body)::[]),.dead,.lit 25 [.int .i64 r12.2.2.1.Limit,.int .i64 r12.2.2.1.Stay,.ro 3 r12.2.2.1.List.length false (enR zC r12.2.2.1.List),.ro 43 r12.2.2.1.Group.length false (enR zE r12.2.2.1.Group)],.dead,.dead,.dead,.dead,.row 3 1 e.1.length (enR xF e.1),.row 3 1 e.2.length (enR xF e.2)]) H (fun o H hn1_2 hn2_2=>?_) (fun e H=>?_)
   ·unfold F8_L2 at H
    try dsimp only at H ⊢
    try simp only [tp]
    refine condM' rfl trivial (fun hc=>?_) (fun hc=>?_)
    ·have hk17:(bEq ((gd p2 v1_3.toNat).Kind) 4)=false:=by simpa using hc
     replace H:=zZ hc H
     refine rg zA ?_
     simp only [go_sem,Nat.reduceAdd]
     refine ⟨_,(Option.some.inj H).symm,?_⟩
     refine zT ⟨[some 0,some 1,some 2,some 3,some 4,some 5,some 6,some 7,some 8,some 9,some 10,some 11,some 9,some 11],?_,?_,by rfl,by rfl⟩
     ·simp [CvL,Cv,zX]
     ·exact ⟨cv,zD,zD,zD,(zW nfA),cv,zD,cv,zD,zD,zD,zD,zS vK cl (wW (f:=xF) v1_1 [0] (fun _ _ _ _=>rfl) (wF (f:=xF) [0] (fun _ _=>rfl) rfl)),zS vK cl (wW (f:=xF) v1_2 [0] (fun _ _ _ _=>rfl) (wF (f:=xF) [0] (fun _ _=>rfl) rfl)),trivial⟩
    have hk17:(bEq ((gd p2 v1_3.toNat).Kind) 4)=true:=by simpa using hc
    replace H:=yA hc H
    refine zK ?_
    refine sq zA ?_
    simp only [go_sem,Nat.reduceLeDiff,Nat.reduceLT,Nat.reduceAdd]
    repeat ((with_reducible refine aI ?_ ?_);exact an5)
    refine yM rfl trivial (fun hc=>?_) (fun hc=>?_)
    ·have hk18:(((bLt ((gd p2 v1_3.toNat).Aid) 1) || (bLt 255 ((gd p2 v1_3.toNat).Aid))) || (bLt 3 ((gd p2 v1_3.toNat).Cat)))=true:=by simpa using hc
     replace H:=yA hc H
     refine sq zA ?_
     simp only [go_sem]
     refine rg zA ?_
     simp only [go_sem]
     have H:=hn2_2 _ (Option.some.inj H).symm
     have H:=hn2_1 _ (Option.some.inj H).symm
     obtain rfl:=Option.some.inj H
     first|rfl|simp only [Bool.and_false,Bool.false_and,Bool.and_true,Bool.true_and]
    have hk18:(((bLt ((gd p2 v1_3.toNat).Aid) 1) || (bLt 255 ((gd p2 v1_3.toNat).Aid))) || (bLt 3 ((gd p2 v1_3.toNat).Cat)))=false:=by simpa using hc
    replace H:=zZ hc H
    refine rg zA ?_
    simp only [go_sem]
    obtain ⟨f19,H⟩:=nI H
    obtain ⟨f20,H⟩:=nI H
    refine yL zQ zA 0 (by kernel_rfl) (by kernel_rfl) ?_
    intro an han
    simp only [wK,xR,vL,xrD,xoD,vM,wY,List.append_nil,xA,refs,mask,xZ,place,xI,wA,xK,hit,inL,xD,nrH,nrB,rZ,Nat.sub_self,Nat.add_zero,Nat.zero_add,Nat.reduceSub,Nat.lt_add_one,go_sem,Nat.reduceLeDiff,Nat.reduceLT,Nat.reduceAdd,Nat.reduceSub,Nat.reduceBEq,f19,f20]
    repeat ((with_reducible refine aI ?_ ?_);exact an2)
    refine ⟨_,(Option.some.inj H).symm,?_⟩
    refine zT ⟨[some 0,some 1,some 2,some 3,some 4,some 5,some 6,some 7,some 8,some 9,some 10,some 11,some 9,some 11],?_,?_,by rfl,by rfl⟩
    ·simp [CvL,Cv,zX]
    ·exact ⟨cv,zD,zD,zD,(zW nfA),cv,zD,cv,zD,zD,zD,zD,zS vK cl (tD (f:=xF) (v1_1 ++ [0]) v1_3.toNat 0 1 (wW (f:=xF) v1_1 [0] (fun _ _ _ _=>rfl) (wF (f:=xF) [0] (fun _ _=>rfl) rfl)) (fun y hy=>match y,hy with|0,_=>rfl|(y+1),h=>absurd h nlt)),zS vK cl (tD (f:=xF) (v1_2 ++ [0]) v1_3.toNat 0 (wr .i64 ((wr .i64 (4 * ((gd p2 v1_3.toNat).Aid)))+(wr .i64 ((gd p2 v1_3.toNat).Cat)))) (wW (f:=xF) v1_2 [0] (fun _ _ _ _=>rfl) (wF (f:=xF) [0] (fun _ _=>rfl) rfl)) (fun y hy=>match y,hy with|0,_=>rfl|(y+1),h=>absurd h nlt)),trivial⟩
   ·obtain ⟨w2_1,w2_2⟩:=e
    try dsimp only at H ⊢
    try simp only [tp]
    try simp only [xS]
    refine zK ?_
    refine sq zA ?_
    simp only [go_sem,Nat.reduceLeDiff,Nat.reduceLT,Nat.reduceAdd]
    repeat ((with_reducible refine aI ?_ ?_);exact an5)
    refine join_den (fun e:List Int=>(.top::.top::.ro 45 p2.length false (enR c_TStep p2)::tp 4 (.bool r1::.ptr 0 0 0 0::.top::.sl 14 1 0 e.length false::.sl 13 1 0 w2_2.length false::.ptr 4 1 0 0::.int .i64 v1_3::.top::.ro 41 r12.1.length false (enR zI r12.1)::.ro 41 r12.2.1.length false (enR zI r12.2.1)::.ptr 7 0 0 0::tp 250 []))) (fun e=>[.lit 25 [.int .i64 v1_5.Limit,.int .i64 v1_5.Stay,.ro 3 v1_5.List.length false (enR zC v1_5.List),.ro 43 v1_5.Group.length false (enR zE v1_5.Group)],.dead,.dead,.dead,.row 82 1 v1_4.length (enR xF v1_4),.dead,.dead,.lit 25 [.int .i64 r12.2.2.1.Limit,.int .i64 r12.2.2.1.Stay,.ro 3 r12.2.2.1.List.length false (enR zC r12.2.2.1.List),.ro 43 r12.2.2.1.Group.length false (enR zE r12.2.2.1.Group)],.dead,.dead,.dead,.dead,.dead,.row 3 1 w2_2.length (enR xF w2_2),.row 3 1 e.length (enR xF e)]) H (fun o H hn1_3 hn2_3=>?_) (fun w3_1 H=>?_)
    ·unfold F8_L3 at H
     try dsimp only at H ⊢
     try simp only [tp]
     refine condM' rfl trivial (fun hc=>?_) (fun hc=>?_)
     ·have hk21:(bEq ((gd p2 v1_3.toNat).Kind) 5)=false:=by simpa using hc
      replace H:=zZ hc H
      refine rg zA ?_
      simp only [go_sem,Nat.reduceAdd]
      refine ⟨_,(Option.some.inj H).symm,?_⟩
      refine zT ⟨[some 0,some 1,some 2,some 3,some 4,some 5,some 6,some 7,some 8,some 9,some 10,some 11,some 12,some 13,some 12],?_,?_,by rfl,by rfl⟩
      ·simp [CvL,Cv,zX]
      ·exact ⟨cv,zD,zD,zD,(zW nfA),zD,zD,cv,zD,zD,zD,zD,zD,(zW nfA),zS vK cl (fun _ _ _ _=>rfl),trivial⟩
     have hk21:(bEq ((gd p2 v1_3.toNat).Kind) 5)=true:=by simpa using hc
     replace H:=yA hc H
     obtain ⟨f22,H⟩:=nI H
     refine rg zA ?_
     simp only [go_sem,Nat.reduceAdd,f22]
     repeat ((with_reducible refine aI ?_ ?_);exact an5)
     refine ⟨_,(Option.some.inj H).symm,?_⟩
     refine zT ⟨[some 0,some 1,some 2,some 3,some 4,some 5,some 6,some 7,some 8,some 9,some 10,some 11,some 12,some 13,some 12],?_,?_,by rfl,by rfl⟩
     ·simp [CvL,Cv,zX]
     ·exact ⟨cv,zD,zD,zD,(zW nfA),zD,zD,cv,zD,zD,zD,zD,zD,(zW nfA),zS vK cl (tD (f:=xF) w2_1 v1_3.toNat 0 1 (fun _ _ _ _=>rfl) (fun y hy=>match y,hy with|0,_=>rfl|(y+1),h=>absurd h nlt)),trivial⟩
    ·try dsimp only at H ⊢
     try simp only [tp]
     try simp only [xS]
     refine zK ?_
     refine sq zA ?_
     simp only [go_sem]
     refine wN ?_
     refine xX (fun s:(List Int) × (List Int) × Int=>(.top::.top::.ro 45 p2.length false (enR c_TStep p2)::tp 4 (.bool r1::.ptr 0 0 0 0::.top::.sl 15 1 0 s.1.length false::.sl 13 1 0 w2_2.length false::.ptr 16 1 0 0::.int .i64 v1_3::.top::.ro 41 r12.1.length false (enR zI r12.1)::.ro 41 r12.2.1.length false (enR zI r12.2.1)::.ptr 7 0 0 0::.top::.int .i64 s.2.2::tp 248 []))) (fun s=>[.lit 25 [.int .i64 v1_5.Limit,.int .i64 v1_5.Stay,.ro 3 v1_5.List.length false (enR zC v1_5.List),.ro 43 v1_5.Group.length false (enR zE v1_5.Group)],.dead,.dead,.dead,.dead,.dead,.dead,.lit 25 [.int .i64 r12.2.2.1.Limit,.int .i64 r12.2.2.1.Stay,.ro 3 r12.2.2.1.List.length false (enR zC r12.2.2.1.List),.ro 43 r12.2.2.1.Group.length false (enR zE r12.2.2.1.Group)],.dead,.dead,.dead,.dead,.dead,.row 3 1 w2_2.length (enR xF w2_2),.dead,.row 3 1 s.1.length (enR xF s.1),.row 82 1 s.2.1.length (enR xF s.2.1)]) (fun e:(List Int) × (List Int)=>(.top::.top::.ro 45 p2.length false (enR c_TStep p2)::tp 4 (.bool r1::.ptr 0 0 0 0::.top::.sl 15 1 0 e.1.length false::.sl 13 1 0 w2_2.length false::.ptr 16 1 0 0::.int .i64 v1_3::.top::.top::.ro 41 r12.2.1.length false (enR zI r12.2.1)::.ptr 7 0 0 0::tp 250 []))) (fun e=>[.lit 25 [.int .i64 v1_5.Limit,.int .i64 v1_5.Stay,.ro 3 v1_5.List.length false (enR zC v1_5.List),.ro 43 v1_5.Group.length false (enR zE v1_5.Group)],.dead,.dead,.dead,.dead,.dead,.dead,.lit 25 [.int .i64 r12.2.2.1.Limit,.int .i64 r12.2.2.1.Stay,.ro 3 r12.2.2.1.List.length false (enR zC r12.2.2.1.List),.ro 43 r12.2.2.1.Group.length false (enR zE r12.2.2.1.Group)],.dead,.dead,.dead,.dead,.dead,.row 3 1 w2_2.length (enR xF w2_2),.dead,.row 3 1 e.1.length (enR xF e.1),.row 82 1 e.2.length (enR xF e.2)]) H ?_ (fun s o H hn1_4 hn2_4=>?_) (fun e H=>?_)
     ·refine zT ⟨[some 0,some 1,some 2,some 3,some 4,some 5,some 6,some 7,some 8,some 9,some 10,some 11,some 12,some 13,some 14,some 14,some 4],?_,?_,by rfl,by rfl⟩
      ·simp [CvL,Cv,zX,tp]
      ·exact ⟨cv,zD,zD,zD,zD,zD,zD,cv,zD,zD,zD,zD,zD,(zW nfA),zD,zS vK cl (fun _ _ _ _=>rfl),zS vK cl (fun _ _ _ _=>rfl),trivial⟩
     ·obtain ⟨v4_1,v4_2,v4_3⟩:=s
      unfold F8_L4 at H
      delta eF at H
      try dsimp only at H ⊢
      try simp only [tp]
      refine zK ?_
      refine sq zA ?_
      simp only [go_sem,Nat.reduceAdd]
      repeat ((with_reducible refine aI ?_ ?_);exact an0)
      refine condM' rfl trivial (fun hc=>?_) (fun hc=>?_)
      ·have hk23:(bLt v4_3 (r12.1.length:Nat))=false:=by simpa using hc
       replace H:=zZ hc H
       refine rg zA ?_
       simp only [go_sem,Nat.reduceBEq]
       refine ⟨_,(Option.some.inj H).symm,?_⟩
       refine zT ⟨[some 0,some 1,some 2,some 3,some 4,some 5,some 6,some 7,some 8,some 9,some 10,some 11,some 12,some 13,some 14,some 15,some 16],?_,?_,by rfl,by rfl⟩
       ·simp [CvL,Cv,zX]
       ·exact ⟨cv,zD,zD,zD,zD,zD,zD,cv,zD,zD,zD,zD,zD,(zW nfA),zD,zS vK cl (fun _ _ _ _=>rfl),zS vK cl (fun _ _ _ _=>rfl),trivial⟩
      have hk23:(bLt v4_3 (r12.1.length:Nat))=true:=by simpa using hc
      replace H:=yA hc H
      refine rg zA ?_
      simp only [go_sem]
      refine zK ?_
      refine wN ?_
      refine zK ?_
      obtain ⟨f24,H⟩:=nI H
      obtain ⟨r25,e26,H⟩:=bsi H
      refine rg ct8t4_ok ?_
      simp only [go_sem,Nat.reduceLT,Nat.reduceAdd,ct8t4_38,gE,f24,e26]
      repeat ((with_reducible refine aI ?_ ?_);exact an0)
      refine zK ?_
      refine zK ?_
      obtain ⟨f27,H⟩:=yT.1 H
      replace f27:=tU.1 f27
      replace f27:=fun g=>uQ.1 (f27 g)
      obtain ⟨f28,H⟩:=yT.1 H
      replace f28:=tU.1 f28
      replace f28:=fun g=>uQ.1 (f28 g)
      obtain ⟨f29,H⟩:=yT.1 H
      replace f29:=tU.1 f29
      replace f29:=fun g=>uQ.1 (f29 g)
      obtain ⟨f30,H⟩:=yT.1 H
      replace f30:=tU.1 f30
      replace f30:=fun g=>uQ.1 (f30 g)
      refine rg zA ?_
      simp only [go_sem,Nat.reduceLT]
      repeat ((with_reducible refine And.intro ?_ ?_);focus (first|(with_reducible trivial)|omega|exact f27|exact f28|exact f29|exact f30|(intro g;have q:=f27 (by first|exact g|(rw [g];rfl)|simpa using g);first|exact q|exact ⟨q.1,q.2.1⟩|exact q.2.2|omega|exact ⟨g,q⟩|exact ⟨trivial,q⟩|exact ⟨g,q.1,q.2.1⟩|exact ⟨g,q.2.2⟩)|(intro g;have q:=f28 (by first|exact g|(rw [g];rfl)|simpa using g);first|exact q|exact ⟨q.1,q.2.1⟩|exact q.2.2|omega|exact ⟨g,q⟩|exact ⟨trivial,q⟩|exact ⟨g,q.1,q.2.1⟩|exact ⟨g,q.2.2⟩)|(intro g;have q:=f29 (by first|exact g|(rw [g];rfl)|simpa using g);first|exact q|exact ⟨q.1,q.2.1⟩|exact q.2.2|omega|exact ⟨g,q⟩|exact ⟨trivial,q⟩|exact ⟨g,q.1,q.2.1⟩|exact ⟨g,q.2.2⟩)|(intro g;have q:=f30 (by first|exact g|(rw [g];rfl)|simpa using g);first|exact q|exact ⟨q.1,q.2.1⟩|exact q.2.2|omega|exact ⟨g,q⟩|exact ⟨trivial,q⟩|exact ⟨g,q.1,q.2.1⟩|exact ⟨g,q.2.2⟩)|grind))
      refine yM rfl trivial (fun hc=>?_) (fun hc=>?_)
      ·have hk31:((((bLt r25 0) || (bLt v1_3 r25)) || (!bEq (gd v4_1 r25.toNat) 1)) || (bLt r25 (gd v4_2 ((gd w2_2 r25.toNat).toNat))))=true:=by simpa using hc
       replace H:=yA hc H
       refine sq zA ?_
       simp only [go_sem]
       refine rg zA ?_
       simp only [go_sem]
       have H:=hn2_4 _ (Option.some.inj H).symm
       have H:=hn2_1 _ (Option.some.inj H).symm
       obtain rfl:=Option.some.inj H
       first|rfl|simp only [Bool.and_false,Bool.false_and,Bool.and_true,Bool.true_and]
      have hk31:((((bLt r25 0) || (bLt v1_3 r25)) || (!bEq (gd v4_1 r25.toNat) 1)) || (bLt r25 (gd v4_2 ((gd w2_2 r25.toNat).toNat))))=false:=by simpa using hc
      replace H:=zZ hc H
      refine rg zA ?_
      simp only [go_sem]
      obtain ⟨f32,H⟩:=nI H
      obtain ⟨f33,H⟩:=nI H
      obtain ⟨f34,H⟩:=nI H
      obtain ⟨f35,H⟩:=nI H
      refine rg zA ?_
      simp only [go_sem,Nat.reduceLT,f32,f33,f34,f35]
      repeat ((with_reducible refine aI ?_ ?_);exact an5)
      refine rg zA ?_
      simp only [go_sem]
      refine ⟨_,(Option.some.inj H).symm,?_⟩
      refine zT ⟨[some 0,some 1,some 2,some 3,some 4,some 5,some 6,some 7,some 8,some 9,some 10,some 11,some 12,some 13,some 14,some 15,some 16],?_,?_,by rfl,by rfl⟩
      ·simp [CvL,Cv,zX]
      ·exact ⟨cv,zD,zD,zD,zD,zD,zD,cv,zD,zD,zD,zD,zD,(zW nfA),zD,zS vK cl (tD (f:=xF) v4_1 r25.toNat 0 2 (fun _ _ _ _=>rfl) (fun y hy=>match y,hy with|0,_=>rfl|(y+1),h=>absurd h nlt)),zS vK cl (tD (f:=xF) v4_2 ((gd w2_2 r25.toNat).toNat) 0 r25 (fun _ _ _ _=>rfl) (fun y hy=>match y,hy with|0,_=>rfl|(y+1),h=>absurd h nlt)),trivial⟩
     ·obtain ⟨w4_4,w4_6⟩:=e
      try dsimp only at H ⊢
      try simp only [tp]
      try simp only [xS]
      refine zK ?_
      refine sq zA ?_
      simp only [go_sem]
      refine wN ?_
      refine xX (fun s:(List Int) × Int=>(.top::.top::.ro 45 p2.length false (enR c_TStep p2)::tp 4 (.bool r1::.ptr 0 0 0 0::.top::.sl 17 1 0 s.1.length false::.sl 13 1 0 w2_2.length false::.ptr 16 1 0 0::.int .i64 v1_3::.top::.top::.ro 41 r12.2.1.length false (enR zI r12.2.1)::.ptr 7 0 0 0::.top::.top::.top::.int .i64 s.2::tp 246 []))) (fun s=>[.lit 25 [.int .i64 v1_5.Limit,.int .i64 v1_5.Stay,.ro 3 v1_5.List.length false (enR zC v1_5.List),.ro 43 v1_5.Group.length false (enR zE v1_5.Group)],.dead,.dead,.dead,.dead,.dead,.dead,.lit 25 [.int .i64 r12.2.2.1.Limit,.int .i64 r12.2.2.1.Stay,.ro 3 r12.2.2.1.List.length false (enR zC r12.2.2.1.List),.ro 43 r12.2.2.1.Group.length false (enR zE r12.2.2.1.Group)],.dead,.dead,.dead,.dead,.dead,.row 3 1 w2_2.length (enR xF w2_2),.dead,.dead,.row 82 1 w4_6.length (enR xF w4_6),.row 3 1 s.1.length (enR xF s.1)]) (fun e:List Int=>(.top::.top::.ro 45 p2.length false (enR c_TStep p2)::tp 4 (.bool r1::.ptr 0 0 0 0::.top::.sl 17 1 0 e.length false::.sl 13 1 0 w2_2.length false::.ptr 16 1 0 0::.int .i64 v1_3::.top::.top::.top::.ptr 7 0 0 0::tp 250 []))) (fun e=>[.lit 25 [.int .i64 v1_5.Limit,.int .i64 v1_5.Stay,.ro 3 v1_5.List.length false (enR zC v1_5.List),.ro 43 v1_5.Group.length false (enR zE v1_5.Group)],.dead,.dead,.dead,.dead,.dead,.dead,.lit 25 [.int .i64 r12.2.2.1.Limit,.int .i64 r12.2.2.1.Stay,.ro 3 r12.2.2.1.List.length false (enR zC r12.2.2.1.List),.ro 43 r12.2.2.1.Group.length false (enR zE r12.2.2.1.Group)],.dead,.dead,.dead,.dead,.dead,.row 3 1 w2_2.length (enR xF w2_2),.dead,.dead,.row 82 1 w4_6.length (enR xF w4_6),.row 3 1 e.length (enR xF e)]) H ?_ (fun s o H hn1_5 hn2_5=>?_) (fun w5_3 H=>?_)
      ·refine zT ⟨[some 0,some 1,some 2,some 3,some 4,some 5,some 6,some 7,some 8,some 9,some 10,some 11,some 12,some 13,some 14,some 15,some 16,some 15],?_,?_,by rfl,by rfl⟩
       ·simp [CvL,Cv,zX,tp]
       ·exact ⟨cv,zD,zD,zD,zD,zD,zD,cv,zD,zD,zD,zD,zD,(zW nfA),zD,zD,(zW nfA),zS vK cl (fun _ _ _ _=>rfl),trivial⟩
      ·obtain ⟨v5_1,v5_2⟩:=s
       unfold F8_L5 at H
       delta eF at H
       try dsimp only at H ⊢
       try simp only [tp]
       refine zK ?_
       refine sq zA ?_
       simp only [go_sem,Nat.reduceAdd]
       repeat ((with_reducible refine aI ?_ ?_);exact an0)
       refine condM' rfl trivial (fun hc=>?_) (fun hc=>?_)
       ·have hk36:(bLt v5_2 (r12.2.1.length:Nat))=false:=by simpa using hc
        replace H:=zZ hc H
        refine rg zA ?_
        simp only [go_sem,Nat.reduceBEq]
        refine ⟨_,(Option.some.inj H).symm,?_⟩
        refine zT ⟨[some 0,some 1,some 2,some 3,some 4,some 5,some 6,some 7,some 8,some 9,some 10,some 11,some 12,some 13,some 14,some 15,some 16,some 17],?_,?_,by rfl,by rfl⟩
        ·simp [CvL,Cv,zX]
        ·exact ⟨cv,zD,zD,zD,zD,zD,zD,cv,zD,zD,zD,zD,zD,(zW nfA),zD,zD,(zW nfA),zS vK cl (fun _ _ _ _=>rfl),trivial⟩
       have hk36:(bLt v5_2 (r12.2.1.length:Nat))=true:=by simpa using hc
       replace H:=yA hc H
       refine rg zA ?_
       simp only [go_sem]
       refine zK ?_
       refine wN ?_
       refine zK ?_
       obtain ⟨f37,H⟩:=nI H
       obtain ⟨r38,e39,H⟩:=bsi H
       refine rg ct8t4_ok ?_
       simp only [go_sem,Nat.reduceLT,Nat.reduceAdd,ct8t4_38,gE,f37,e39]
       repeat ((with_reducible refine aI ?_ ?_);exact an0)
       refine zK ?_
       refine zK ?_
       obtain ⟨f40,H⟩:=yT.1 H
       replace f40:=tU.1 f40
       replace f40:=fun g=>uQ.1 (f40 g)
       obtain ⟨f41,H⟩:=yT.1 H
       replace f41:=tU.1 f41
       replace f41:=fun g=>uQ.1 (f41 g)
       refine bif_split (c:=(((bLt r38 0) || (bLt v1_3 r38)) || (!bEq (gd v5_1 r38.toNat) 1))) (fun hg46=>?_) (fun hg46=>?_)
       ·replace H:=yA hg46 H
        try replace f40:=f40 (by first|exact hg46|simpa using hg46)
        try replace f41:=f41 (by first|exact hg46|simpa using hg46)
        refine vS zQ ct8t5_ok (by kernel_rfl) (by kernel_rfl) ?_
        simp only [go_sem,Nat.reduceLT,Nat.reduceAdd,ct8t5_36,body36,ct8t5_37,qD,hg46]
        repeat ((with_reducible refine And.intro ?_ ?_);focus (first|(with_reducible trivial)|omega|exact f40|exact f41|(intro g;have q:=f40 (by first|exact g|(rw [g];rfl)|simpa using g);first|exact q|exact ⟨q.1,q.2.1⟩|exact q.2.2|omega|exact ⟨g,q⟩|exact ⟨trivial,q⟩|exact ⟨g,q.1,q.2.1⟩|exact ⟨g,q.2.2⟩)|(intro g;have q:=f41 (by first|exact g|(rw [g];rfl)|simpa using g);first|exact q|exact ⟨q.1,q.2.1⟩|exact q.2.2|omega|exact ⟨g,q⟩|exact ⟨trivial,q⟩|exact ⟨g,q.1,q.2.1⟩|exact ⟨g,q.2.2⟩)|(intro g;(try have q0:=f40 (by first|exact g|(rw [g];rfl)|simpa using g));(try have q1:=f41 (by first|exact g|(rw [g];rfl)|simpa using g));and_intros<;>first|(with_reducible trivial)|assumption|exact nfc|(intro g2;rw [g,g2];rfl)|(intro g2;assumption)|(simp only [g,Bool.true_and,Bool.and_true,Bool.not_false,Bool.not_true];assumption)|grind)|(and_intros<;>first|(with_reducible trivial)|omega|assumption|exact nfc|first|exact rfl|exact trivial|exact qV|exact .inr rfl|exact .inl rfl|exact fun x hx=>absurd hx (by omega))|grind))
        refine yM rfl trivial (fun hc=>?_) (fun hc=>?_)
        rotate_left
        ·cases hc
        refine sq zA ?_
        simp only [go_sem]
        refine rg zA ?_
        simp only [go_sem]
        have H:=hn2_5 _ (Option.some.inj H).symm
        have H:=hn2_1 _ (Option.some.inj H).symm
        obtain rfl:=Option.some.inj H
        first|rfl|simp only [Bool.and_false,Bool.false_and,Bool.and_true,Bool.true_and]
       replace H:=zZ hg46 H
       try replace f40:=f40 (by first|exact hg46|simpa using hg46)
       try replace f41:=f41 (by first|exact hg46|simpa using hg46)
       obtain ⟨r42,e43,H⟩:=bsi H
       obtain ⟨r44,e45,H⟩:=bsi H
       refine yL zQ ct8t5_ok 1 (by kernel_rfl) (by kernel_rfl) ?_
       intro an han
       simp only [wK,xR,vL,xrD,xoD,vM,wY,List.append_nil,xA,refs,vF,mask,xZ,place,xI,wA,xK,hit,inL,xD,ren,uS,rnN,nrH,nrB,rZ,rS,Nat.sub_self,Nat.add_zero,Nat.zero_add,Nat.reduceSub,Nat.lt_add_one,go_sem,Nat.reduceLeDiff,Nat.reduceLT,Nat.reduceAdd,Nat.reduceSub,Nat.reduceBEq,ct8t5_36,body36,ct8t5_37,qD,hg46,e43,e45]
       repeat ((with_reducible refine And.intro ?_ ?_);focus (and_intros<;>first|(with_reducible trivial)|(show anB _ _ _=true;subst han;kernel_rfl)|(show (anB _ _ _ && _)=true;subst han;kernel_rfl)|omega|exact f40|exact f41|(intro g;have q:=f40 (by first|exact g|(rw [g];rfl)|simpa using g);first|exact q|exact ⟨q.1,q.2.1⟩|exact q.2.2|omega|exact ⟨g,q⟩|exact ⟨trivial,q⟩|exact ⟨g,q.1,q.2.1⟩|exact ⟨g,q.2.2⟩)|(intro g;have q:=f41 (by first|exact g|(rw [g];rfl)|simpa using g);first|exact q|exact ⟨q.1,q.2.1⟩|exact q.2.2|omega|exact ⟨g,q⟩|exact ⟨trivial,q⟩|exact ⟨g,q.1,q.2.1⟩|exact ⟨g,q.2.2⟩)|assumption|exact nrc|exact nfc|first|exact rfl|exact trivial|exact qV|exact .inr rfl|exact .inl rfl|exact fun x hx=>absurd hx (by omega)))
       refine yM rfl trivial (fun hc=>?_) (fun hc=>?_)
       ·have hk47:(r44)=false:=by simpa using hc
        replace H:=yA hc H
        refine sq zA ?_
        simp only [go_sem]
        refine rg zA ?_
        simp only [go_sem]
        have H:=hn2_5 _ (Option.some.inj H).symm
        have H:=hn2_1 _ (Option.some.inj H).symm
        obtain rfl:=Option.some.inj H
        first|rfl|simp only [Bool.and_false,Bool.false_and,Bool.and_true,Bool.true_and]
       have hk47:(r44)=true:=by simpa using hc
       replace H:=zZ hc H
       refine rg zA ?_
       simp only [go_sem]
       obtain ⟨f48,H⟩:=nI H
       refine rg zA ?_
       simp only [go_sem,f48]
       repeat ((with_reducible refine aI ?_ ?_);exact an5)
       refine rg zA ?_
       simp only [go_sem]
       refine ⟨_,(Option.some.inj H).symm,?_⟩
       refine zT ⟨[some 0,some 1,some 2,some 3,some 4,some 5,some 6,some 7,some 8,some 9,some 10,some 11,some 12,some 13,some 14,some 15,some 16,some 17],?_,?_,by rfl,by rfl⟩
       ·simp [CvL,Cv,zX]
       ·exact ⟨cv,zD,zD,zD,zD,zD,zD,cv,zD,zD,zD,zD,zD,(zW nfA),zD,zD,(zW nfA),zS vK cl (tD (f:=xF) v5_1 r38.toNat 0 3 (fun _ _ _ _=>rfl) (fun y hy=>match y,hy with|0,_=>rfl|(y+1),h=>absurd h nlt)),trivial⟩
      ·try dsimp only at H ⊢
       try simp only [tp]
       try simp only [xS]
       refine rg zA ?_
       simp only [go_sem,Nat.reduceLT,Nat.reduceAdd]
       repeat ((with_reducible refine aI ?_ ?_);exact an5)
       refine rg zA ?_
       simp only [go_sem]
       refine ⟨_,(Option.some.inj H).symm,?_⟩
       refine zT ⟨[some 0,some 1,some 17,some 13,some 16],?_,?_,by rfl,by rfl⟩
       ·simp [CvL,Cv,zX]
       ·exact ⟨cv,zD,zS vK cl (fun _ _ _ _=>rfl),zS vK cl (fun _ _ _ _=>rfl),zS vK cl (fun _ _ _ _=>rfl),trivial⟩
  ·obtain ⟨w1_6,w1_7⟩:=e
   try dsimp only at H ⊢
   try simp only [tp]
   try simp only [xS]
   refine sq zA ?_
   simp only [go_sem,Nat.reduceLT,Nat.reduceAdd]
   repeat ((with_reducible refine aI ?_ ?_);exact an0)
   refine zK ?_
   refine sq zA ?_
   simp only [go_sem]
   refine wN ?_
   refine xX (fun s:Int × Int=>(tp 7 (.bool r1::.ptr 0 0 0 0::.top::.sl 2 1 0 w1_6.length false::tp 12 (.int .i64 s.1::.int .i64 s.2::tp 243 [])))) (fun s=>[.lit 25 [.int .i64 w1_7.Limit,.int .i64 w1_7.Stay,.ro 3 w1_7.List.length false (enR zC w1_7.List),.ro 43 w1_7.Group.length false (enR zE w1_7.Group)],.dead,.row 3 1 w1_6.length (enR xF w1_6)]) (fun e:Int=>(tp 7 (.bool r1::.top::.top::.sl 2 1 0 w1_6.length false::tp 12 (.int .i64 e::tp 244 [])))) (fun e=>[.dead,.dead,.row 3 1 w1_6.length (enR xF w1_6)]) H ?_ (fun s o H hn1_6 hn2_6=>?_) (fun w6_4 H=>?_)
   ·refine zT ⟨[some 0,some 1,some 2],?_,?_,by rfl,by rfl⟩
    ·simp [CvL,Cv,zX,tp]
    ·exact ⟨cv,zD,(zW nfA),trivial⟩
   ·obtain ⟨v6_1,v6_2⟩:=s
    unfold F8_L6 at H
    try dsimp only at H ⊢
    try simp only [tp]
    refine zK ?_
    refine sq zA ?_
    simp only [go_sem,Nat.reduceLeDiff,Nat.reduceLT,Nat.reduceAdd]
    repeat ((with_reducible refine aI ?_ ?_);exact an0)
    refine condM' rfl trivial (fun hc=>?_) (fun hc=>?_)
    ·have hk49:(bLt v6_2 (w1_7.List.length:Nat))=false:=by simpa using hc
     replace H:=zZ hc H
     refine rg zA ?_
     simp only [go_sem]
     refine ⟨_,(Option.some.inj H).symm,?_⟩
     refine zT ⟨[some 0,some 1,some 2],?_,?_,by rfl,by rfl⟩
     ·simp [CvL,Cv,zX]
     ·exact ⟨zD,zD,(zW nfA),trivial⟩
    have hk49:(bLt v6_2 (w1_7.List.length:Nat))=true:=by simpa using hc
    replace H:=yA hc H
    refine rg zA ?_
    simp only [go_sem]
    refine zK ?_
    refine wN ?_
    refine zK ?_
    obtain ⟨f50,H⟩:=nI H
    refine rg zA ?_
    simp only [go_sem,Nat.reduceLeDiff,Nat.reduceLT,Nat.reduceAdd,f50]
    repeat ((with_reducible refine aI ?_ ?_);exact an0)
    refine sq zA ?_
    simp only [go_sem]
    refine wN ?_
    refine xX (fun s:Int=>(tp 7 (.bool r1::.ptr 0 0 0 0::.top::.sl 2 1 0 w1_6.length false::tp 12 (.int .i64 (wr .i64 (v6_1+(((gd w1_7.List v6_2.toNat).Held).length:Nat)))::.int .i64 v6_2::.int .i64 s::tp 242 [])))) (fun s=>[.lit 25 [.int .i64 w1_7.Limit,.int .i64 w1_7.Stay,.ro 3 w1_7.List.length false (enR zC w1_7.List),.ro 43 w1_7.Group.length false (enR zE w1_7.Group)],.dead,.row 3 1 w1_6.length (enR xF w1_6)]) (fun e:Unit=>(tp 7 (.bool r1::.ptr 0 0 0 0::.top::.sl 2 1 0 w1_6.length false::tp 12 (.int .i64 (wr .i64 (v6_1+(((gd w1_7.List v6_2.toNat).Held).length:Nat)))::.int .i64 v6_2::tp 243 [])))) (fun e=>[.lit 25 [.int .i64 w1_7.Limit,.int .i64 w1_7.Stay,.ro 3 w1_7.List.length false (enR zC w1_7.List),.ro 43 w1_7.Group.length false (enR zE w1_7.Group)],.dead,.row 3 1 w1_6.length (enR xF w1_6)]) H ?_ (fun v7_1 o H hn1_7 hn2_7=>?_) (fun e H=>?_)
    ·refine zT ⟨[some 0,some 1,some 2],?_,?_,by rfl,by rfl⟩
     ·simp [CvL,Cv,zX,tp]
     ·exact ⟨cv,zD,(zW nfA),trivial⟩
    ·unfold F8_L7 at H
     try dsimp only at H ⊢
     try simp only [tp]
     refine zK ?_
     refine zK ?_
     obtain ⟨f51,H⟩:=nI H
     refine rg zA ?_
     simp only [go_sem,Nat.reduceLeDiff,Nat.reduceLT,Nat.reduceAdd,f51]
     repeat ((with_reducible refine aI ?_ ?_);exact an0)
     refine condM' rfl trivial (fun hc=>?_) (fun hc=>?_)
     ·have hk52:(bLt v7_1 (((gd w1_7.List v6_2.toNat).Held).length:Nat))=false:=by simpa using hc
      replace H:=zZ hc H
      refine rg zA ?_
      simp only [go_sem,Nat.reduceBEq]
      refine ⟨_,(Option.some.inj H).symm,?_⟩
      refine zT ⟨[some 0,some 1,some 2],?_,?_,by rfl,by rfl⟩
      ·simp [CvL,Cv,zX]
      ·exact ⟨cv,zD,(zW nfA),trivial⟩
     have hk52:(bLt v7_1 (((gd w1_7.List v6_2.toNat).Held).length:Nat))=true:=by simpa using hc
     replace H:=yA hc H
     refine rg zA ?_
     simp only [go_sem]
     refine zK ?_
     refine wN ?_
     refine zK ?_
     obtain ⟨f53,H⟩:=nI H
     obtain ⟨f54,H⟩:=nI H
     obtain ⟨r55,e56,H⟩:=bsi H
     refine rg ct8t4_ok ?_
     simp only [go_sem,Nat.reduceLeDiff,Nat.reduceLT,Nat.reduceAdd,reduceCtorEq,ct8t4_38,gE,f53,f54,e56]
     repeat ((with_reducible refine aI ?_ ?_);exact an0)
     refine zK ?_
     obtain ⟨f57,H⟩:=yT.1 H
     replace f57:=tU.1 f57
     replace f57:=fun g=>uQ.1 (f57 g)
     refine rg zA ?_
     simp only [go_sem,Nat.reduceLT]
     repeat ((with_reducible refine And.intro ?_ ?_);focus (first|(with_reducible trivial)|omega|exact f57|(intro g;have q:=f57 (by first|exact g|(rw [g];rfl)|simpa using g);first|exact q|exact ⟨q.1,q.2.1⟩|exact q.2.2|omega|exact ⟨g,q⟩|exact ⟨trivial,q⟩|exact ⟨g,q.1,q.2.1⟩|exact ⟨g,q.2.2⟩)|(intro g;(try have q0:=f57 (by first|exact g|(rw [g];rfl)|simpa using g));and_intros<;>first|(with_reducible trivial)|assumption|exact nfc|(intro g2;rw [g,g2];rfl)|(intro g2;assumption)|(simp only [g,Bool.true_and,Bool.and_true,Bool.not_false,Bool.not_true];assumption)|grind)|(and_intros<;>first|(with_reducible trivial)|omega|assumption|exact nfc|first|exact rfl|exact trivial|exact qV|exact .inr rfl|exact .inl rfl|exact fun x hx=>absurd hx (by omega))|grind))
     refine yM rfl trivial (fun hc=>?_) (fun hc=>?_)
     ·have hk58:(((bLt r55 0) || (bLe (w1_6.length:Nat) r55)) || (!bEq (gd w1_6 r55.toNat) 1))=true:=by simpa using hc
      replace H:=yA hc H
      refine sq zA ?_
      simp only [go_sem]
      refine rg zA ?_
      simp only [go_sem]
      have H:=hn2_7 _ (Option.some.inj H).symm
      have H:=hn2_6 _ (Option.some.inj H).symm
      obtain rfl:=Option.some.inj H
      first|rfl|simp only [Bool.and_false,Bool.false_and,Bool.and_true,Bool.true_and]
     have hk58:(((bLt r55 0) || (bLe (w1_6.length:Nat) r55)) || (!bEq (gd w1_6 r55.toNat) 1))=false:=by simpa using hc
     replace H:=zZ hc H
     refine rg zA ?_
     simp only [go_sem]
     refine rg zA ?_
     simp only [go_sem]
     refine ⟨_,(Option.some.inj H).symm,?_⟩
     refine zT ⟨[some 0,some 1,some 2],?_,?_,by rfl,by rfl⟩
     ·simp [CvL,Cv,zX]
     ·exact ⟨cv,zD,(zW nfA),trivial⟩
    ·try dsimp only at H ⊢
     try simp only [tp]
     try simp only [xS,b_normal]
     refine rg zA ?_
     simp only [go_sem]
     refine ⟨_,(Option.some.inj H).symm,?_⟩
     refine zT ⟨[some 0,some 1,some 2],?_,?_,by rfl,by rfl⟩
     ·simp [CvL,Cv,zX]
     ·exact ⟨cv,zD,(zW nfA),trivial⟩
   ·try dsimp only at H ⊢
    try simp only [tp]
    try simp only [xS]
    refine zK ?_
    refine sq zA ?_
    simp only [go_sem]
    refine wN ?_
    refine xX (fun s:Int × Int=>(tp 7 (.bool r1::.top::.top::.sl 2 1 0 w1_6.length false::tp 12 (.int .i64 s.1::.top::.top::.top::.int .i64 s.2::tp 240 [])))) (fun s=>[.dead,.dead,.row 3 1 w1_6.length (enR xF w1_6)]) (fun e:Int=>(tp 7 (.bool r1::tp 15 (.int .i64 e::tp 244 [])))) (fun e=>[.dead,.dead,.dead]) H ?_ (fun s o H hn1_8 hn2_8=>?_) (fun w8_3 H=>?_)
    ·refine zT ⟨[some 0,some 1,some 2],?_,?_,by rfl,by rfl⟩
     ·simp [CvL,Cv,zX,tp]
     ·exact ⟨zD,zD,(zW nfA),trivial⟩
    ·obtain ⟨v8_1,v8_2⟩:=s
     unfold F8_L8 at H
     try dsimp only at H ⊢
     try simp only [tp]
     refine zK ?_
     refine sq zA ?_
     simp only [go_sem,Nat.reduceAdd]
     repeat ((with_reducible refine aI ?_ ?_);exact an0)
     refine condM' rfl trivial (fun hc=>?_) (fun hc=>?_)
     ·have hk59:(bLt v8_2 (w1_6.length:Nat))=false:=by simpa using hc
      replace H:=zZ hc H
      refine rg zA ?_
      simp only [go_sem]
      refine ⟨_,(Option.some.inj H).symm,?_⟩
      refine zT ⟨[some 0,some 1,some 2],?_,?_,by rfl,by rfl⟩
      ·simp [CvL,Cv]
      ·exact ⟨zD,zD,zD,trivial⟩
     have hk59:(bLt v8_2 (w1_6.length:Nat))=true:=by simpa using hc
     replace H:=yA hc H
     refine rg zA ?_
     simp only [go_sem]
     refine zK ?_
     refine wN ?_
     refine zK ?_
     obtain ⟨f60,H⟩:=nI H
     refine rg zA ?_
     simp only [go_sem,Nat.reduceLT,f60]
     repeat ((with_reducible refine aI ?_ ?_);exact an5)
     refine yM rfl trivial (fun hc=>?_) (fun hc=>?_)
     ·have hk61:(bEq (gd w1_6 v8_2.toNat) 1)=true:=by simpa using hc
      replace H:=yA hc H
      refine rg zA ?_
      simp only [go_sem]
      refine rg zA ?_
      simp only [go_sem]
      refine ⟨_,(Option.some.inj H).symm,?_⟩
      refine zT ⟨[some 0,some 1,some 2],?_,?_,by rfl,by rfl⟩
      ·simp [CvL,Cv,zX]
      ·exact ⟨zD,zD,(zW nfA),trivial⟩
     have hk61:(bEq (gd w1_6 v8_2.toNat) 1)=false:=by simpa using hc
     replace H:=zZ hc H
     refine rg zA ?_
     simp only [go_sem]
     refine rg zA ?_
     simp only [go_sem]
     refine ⟨_,(Option.some.inj H).symm,?_⟩
     refine zT ⟨[some 0,some 1,some 2],?_,?_,by rfl,by rfl⟩
     ·simp [CvL,Cv,zX]
     ·exact ⟨zD,zD,(zW nfA),trivial⟩
    ·try dsimp only at H ⊢
     try simp only [tp]
     try simp only [xS]
     refine sq zA ?_
     simp only [go_sem]
     repeat ((with_reducible refine aI ?_ ?_);exact an5)
     refine rg zA ?_
     simp only [go_sem]
     obtain rfl:=Option.some.inj H
     first|rfl|simp only [Bool.and_false,Bool.false_and,Bool.and_true,Bool.true_and]
 ·cases hb
end Go.Proofs.Ytefiemaoacmdkaa
