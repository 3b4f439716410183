/-
  What BufferOnce reaches.
-/
import Derived.Test.YtefiemaoacmdkaaY8p3
namespace Go.Proofs.Ytefiemaoacmdkaa
open Go.Am
set_option maxHeartbeats 4000000
set_option maxRecDepth 20000
set_option linter.unusedVariables false
set_option linter.unusedSimpArgs false
noncomputable def ct41t0:Ct:=tab [(18,yF wP)]
theorem ct41t0_ok:yZ Try.prog ct41t0:=zR ok18 <| zY
theorem ct41t0_18 (l:List AV) (h:List ABlk):ct41t0 18 l h=yF wP l h:=rfl
noncomputable def ct41t1:Ct:=tab [(61,yF qF)]
theorem ct41t1_ok:yZ Try.prog ct41t1:=zR ok61 <| zY
theorem ct41t1_61 (l:List AV) (h:List ABlk):ct41t1 61 l h=yF qF l h:=rfl
noncomputable def ct41t2:Ct:=tab [(62,yF dD)]
theorem ct41t2_ok:yZ Try.prog ct41t2:=zR ok62 <| zY
theorem ct41t2_62 (l:List AV) (h:List ABlk):ct41t2 62 l h=yF dD l h:=rfl
noncomputable def ct41t3:Ct:=tab [(63,edC qG),(65,xU vX)]
theorem ct41t3_ok:yZ Try.prog ct41t3:=zR ok63 <| zR ok65 <| zY
theorem ct41t3_63 (l:List AV) (h:List ABlk):ct41t3 63 l h=edC qG l h:=rfl
theorem ct41t3_65 (l:List AV) (h:List ABlk):ct41t3 65 l h=xU vX l h:=rfl
noncomputable def ct41t4:Ct:=tab [(47,yF qE)]
theorem ct41t4_ok:yZ Try.prog ct41t4:=zR ok47 <| zY
theorem ct41t4_47 (l:List AV) (h:List ABlk):ct41t4 47 l h=yF qE l h:=rfl
noncomputable def ct41t5:Ct:=tab [(90,yF dE)]
theorem ct41t5_ok:yZ Try.prog ct41t5:=zR ok90 <| zY
theorem ct41t5_90 (l:List AV) (h:List ABlk):ct41t5 90 l h=yF dE l h:=rfl
noncomputable def ct41t6:Ct:=tab [(58,yF qQ)]
theorem ct41t6_ok:yZ Try.prog ct41t6:=zR ok58_0 <| zY
theorem ct41t6_58 (l:List AV) (h:List ABlk):ct41t6 58 l h=yF qQ l h:=rfl
noncomputable def ct41t7:Ct:=tab [(60,delN 61 43)]
theorem ct41t7_ok:yZ Try.prog ct41t7:=zR ok60 <| zY
theorem ct41t7_60 (l:List AV) (h:List ABlk):ct41t7 60 l h=delN 61 43 l h:=rfl
noncomputable def ct41t8:Ct:=tab [(52,edC vA)]
theorem ct41t8_ok:yZ Try.prog ct41t8:=zR ok52_0 <| zY
theorem ct41t8_52 (l:List AV) (h:List ABlk):ct41t8 52 l h=edC vA l h:=rfl
noncomputable def F41_L1 (r10:TBuffer) (v1_1:Int) (v1_2:TStored):Option (Lp (Int × TStored) ((TStored) ⊕ ((List TFrame) × (List TFrame) × TBuffer × Int))) :=
 bif (bLt v1_1 (r10.Group.length:Nat)) then (need (inb v1_1 r10.Group.length) <| (F90 (TStored.mk ((gd r10.Group v1_1.toNat).Cat) ((gd r10.Group v1_1.toNat).At) (eF ((gd r10.Group v1_1.toNat).Frame))) v1_2).bind fun r22=>bif (bLt r22 0) then (need (inb v1_1 r10.Group.length) <| some (.next (wr .i64 (v1_1+1),(TStored.mk ((gd r10.Group v1_1.toNat).Cat) ((gd r10.Group v1_1.toNat).At) (eF ((gd r10.Group v1_1.toNat).Frame)))))) else (some (.next (wr .i64 (v1_1+1),v1_2)))) else (some (.done (.inl v1_2)))
noncomputable def F41 (p0:TBuffer) (p1:TFrame) (p2:Int):Option ((List TFrame) × (List TFrame) × TBuffer × Int) :=
 (F18 p0).bind fun r1=>bif (!bEq r1 0) then (some ([],[],(TBuffer.mk 0 0 [] []),r1)) else ((F61 p2).bind fun r4=>bif (!r4) then (some ([],[],(TBuffer.mk 0 0 [] []),2)) else ((F62 p0.Group p2).bind fun r7=>bif r7 then (some ([],[],(TBuffer.mk 0 0 [] []),20)) else ((F65 p0).bind fun r10=>(F63 p1).bind fun r12=>(F47 (TBuffer.mk r10.Limit r10.Stay r10.List r10.Group)).bind fun r14=>bif r14 then (bif (bEq (r10.Group.length:Nat) r10.Limit) then (bif (bLt (r10.Group.length:Nat) 1) then (none) else (need (inb 0 r10.Group.length) <| lp (xC (fun s=>F41_L1 r10 s.1 s.2) (1,(TStored.mk ((gd r10.Group 0).Cat) ((gd r10.Group 0).At) (eF ((gd r10.Group 0).Frame))))) (fun w1_6=>bif (bLt 0 w1_6.Cat) then (some ([],[r12],(TBuffer.mk r10.Limit r10.Stay r10.List r10.Group),0)) else ((F58_0 r10.Group w1_6.Cat).bind fun r27=>need (inb r27 r10.Group.length) <| need (delb r27 (wr .i64 (r27+1)) r10.Group.length) <| (some [(eF ((gd r10.Group r27.toNat).Frame))]).bind fun w31=>(some (kH r10.Group r27 (wr .i64 (r27+1)))).bind fun w33=>need (capb 120 (w33.length+1)) <| some ([],w31,(TBuffer.mk r10.Limit r10.Stay r10.List (w33 ++ [(TStored.mk 0 p2 (eF r12))])),0))) some)) else (need (capb 120 (r10.Group.length+1)) <| some ([],[],(TBuffer.mk r10.Limit r10.Stay r10.List (r10.Group ++ [(TStored.mk 0 p2 (eF r12))])),0))) else ((gY [r12]).bind fun r37=>some (r37,[],(TBuffer.mk r10.Limit r10.Stay r10.List r10.Group),0)))))
noncomputable def body41:List AV->Nat->AR
 | [v0,v1,v2],_=>.pure (aK 4 wC v0/\aK 41 vT v1/\iK .i64 v2/\(F41 (zG (aL v0)) (zU (aL v1)) (iA v2)).isSome=true) (.tup [.ro 41 (((gt (F41 (zG (aL v0)) (zU (aL v1)) (iA v2))).1).length) false (enR zI ((gt (F41 (zG (aL v0)) (zU (aL v1)) (iA v2))).1)),.ro 41 (((gt (F41 (zG (aL v0)) (zU (aL v1)) (iA v2))).2.1).length) false (enR zI ((gt (F41 (zG (aL v0)) (zU (aL v1)) (iA v2))).2.1)),.agg [.int .i64 (((gt (F41 (zG (aL v0)) (zU (aL v1)) (iA v2))).2.2.1).Limit),.int .i64 (((gt (F41 (zG (aL v0)) (zU (aL v1)) (iA v2))).2.2.1).Stay),.ro 3 ((((gt (F41 (zG (aL v0)) (zU (aL v1)) (iA v2))).2.2.1).List).length) false (enR zC (((gt (F41 (zG (aL v0)) (zU (aL v1)) (iA v2))).2.2.1).List)),.ro 43 ((((gt (F41 (zG (aL v0)) (zU (aL v1)) (iA v2))).2.2.1).Group).length) false (enR zE (((gt (F41 (zG (aL v0)) (zU (aL v1)) (iA v2))).2.2.1).Group))],.int .i64 ((gt (F41 (zG (aL v0)) (zU (aL v1)) (iA v2))).2.2.2)])
 | _,_=>.fail
theorem ok41:wM Try.prog 41 (xU body41):=by
 refine uZ body41 (rs:=[.tmp 6,.tmp 7,.cell 8 25,.tmp 9]) Try.func41 (by kernel_rfl) rfl rfl ?_
 intro l s ob v ns hb hob
 rcases hb with ⟨hb,rfl⟩|hb
 ·unfold body41 at hb
  split at hb
  ·rename_i v0 v1 v2
   injection hb with q1 q2;subst q1 q2
   obtain ⟨hk0_0,hk1_0,hk2_0,hob⟩:=hob
   obtain ⟨r,H⟩:=oE.1 hob
   rw [H,yQ]
   have hw0:=wU hk0_0
   have hw1:=gC hk1_0
   have hw2:=yI hk2_0
   generalize zG (aL v0)=p0 at H hw0
   generalize zU (aL v1)=p1 at H hw1
   generalize iA v2=p2 at H hw2
   refine ⟨[.agg [.int .i64 p0.Limit,.int .i64 p0.Stay,.ro 3 p0.List.length false (enR zC p0.List),.ro 43 p0.Group.length false (enR zE p0.Group)],.agg (.int .u8 p1.Head.Kind::.int .u8 p1.Head.Sub::.bool p1.Head.ToDs::.bool p1.Head.FromDs::.bool p1.Head.More::.bool p1.Head.Retry::.bool p1.Head.Sleep::.bool p1.Head.MoreData::.bool p1.Head.Protected::.int .i64 p1.Head.Duration::.int .u8 p1.Head.A1.x0::.int .u8 p1.Head.A1.x1::.int .u8 p1.Head.A1.x2::.int .u8 p1.Head.A1.x3::.int .u8 p1.Head.A1.x4::.int .u8 p1.Head.A1.x5::.int .u8 p1.Head.A2.x0::.int .u8 p1.Head.A2.x1::.int .u8 p1.Head.A2.x2::.int .u8 p1.Head.A2.x3::.int .u8 p1.Head.A2.x4::.int .u8 p1.Head.A2.x5::.int .u8 p1.Head.A3.x0::.int .u8 p1.Head.A3.x1::.int .u8 p1.Head.A3.x2::.int .u8 p1.Head.A3.x3::.int .u8 p1.Head.A3.x4::.int .u8 p1.Head.A3.x5::.int .u8 p1.Head.A4.x0::.int .u8 p1.Head.A4.x1::.int .u8 p1.Head.A4.x2::.int .u8 p1.Head.A4.x3::.int .u8 p1.Head.A4.x4::.int .u8 p1.Head.A4.x5::.int .i64 p1.Head.Seq::.int .i64 p1.Head.Frag::.int .i64 p1.Head.Tid::.int .u8 p1.Head.Ack::.bool p1.Head.Amsdu::.bool p1.Head.Eosp::.ro 1 p1.Body.length false (enR xM p1.Body)::[]),.int .i64 p2],.tup [.ro 41 r.1.length false (enR zI r.1),.ro 41 r.2.1.length false (enR zI r.2.1),.agg [.int .i64 r.2.2.1.Limit,.int .i64 r.2.2.1.Stay,.ro 3 r.2.2.1.List.length false (enR zC r.2.2.1.List),.ro 43 r.2.2.1.Group.length false (enR zE r.2.2.1.Group)],.int .i64 r.2.2.2],[],(fun E vs F=>yO hw0.1 F (fun vs F=>yO hw1.1 F (fun vs F=>yO hw2.1 F (fun vs F=>F)))),by simp only [ren,uS],trivial,?_⟩
   rw [Try.ntmps41]
   simp only [lC,lN,Nat.reduceAdd,Nat.reduceSub,rS,rZ,aC,aN]
   unfold F41 at H
   delta eF at H
   try dsimp only at H
   refine sq zA ?_
   simp only [go_sem,Nat.reduceAdd]
   refine zK ?_
   refine zK ?_
   obtain ⟨r1,e2,H⟩:=bsi H
   refine rg ct41t0_ok ?_
   simp only [go_sem,Nat.reduceLT,Nat.reduceAdd,ct41t0_18,wP,e2]
   repeat ((with_reducible refine aI ?_ ?_);exact an0)
   refine wN ?_
   refine sq zA ?_
   simp only [go_sem]
   refine yM rfl trivial (fun hc=>?_) (fun hc=>?_)
   ·have hk3:(bEq r1 0)=false:=by simpa using hc
    replace H:=yA hc H
    refine sq zA ?_
    simp only [go_sem,Nat.reduceAdd]
    repeat ((with_reducible refine aI ?_ ?_);exact an5)
    refine rg zA ?_
    simp only [go_sem,Nat.reduceLT,Nat.reduceAdd]
    obtain rfl:=Option.some.inj H
    refine ⟨[0,1,2],?_,?_,[],?_,?_,rfl⟩
    ·simp only [go_sem]
     try exact at0
    ·simp only [go_sem]
     try exact at0
    ·simp only [go_sem]
     exact yY (zB (zJ (α:=TFrame)) (zB (zJ (α:=TFrame)) (zB (yV (zB zF (zB zF (zB (zJ (α:=TSleeper)) (zB (zJ (α:=TStored)) zO))))) (zB zF zO))))
    ·simp only [go_sem,CvH]
   have hk3:(bEq r1 0)=true:=by simpa using hc
   replace H:=zZ hc H
   refine zK ?_
   obtain ⟨r4,e5,H⟩:=bsi H
   refine rg ct41t1_ok ?_
   simp only [go_sem,ct41t1_61,qF,e5]
   repeat ((with_reducible refine aI ?_ ?_);exact an0)
   refine yM rfl trivial (fun hc=>?_) (fun hc=>?_)
   ·have hk6:(r4)=false:=by simpa using hc
    replace H:=yA hc H
    refine sq zA ?_
    simp only [go_sem,Nat.reduceAdd]
    repeat ((with_reducible refine aI ?_ ?_);exact an5)
    refine rg zA ?_
    simp only [go_sem,Nat.reduceLT,Nat.reduceAdd]
    obtain rfl:=Option.some.inj H
    refine ⟨[0,1,2],?_,?_,[],?_,?_,rfl⟩
    ·simp only [go_sem]
     try exact at0
    ·simp only [go_sem]
     try exact at0
    ·simp only [go_sem]
     exact yY (zB (zJ (α:=TFrame)) (zB (zJ (α:=TFrame)) (zB (yV (zB zF (zB zF (zB (zJ (α:=TSleeper)) (zB (zJ (α:=TStored)) zO))))) (zB zF zO))))
    ·simp only [go_sem,CvH]
   have hk6:(r4)=true:=by simpa using hc
   replace H:=zZ hc H
   refine zK ?_
   obtain ⟨r7,e8,H⟩:=bsi H
   refine rg ct41t2_ok ?_
   simp only [go_sem,Nat.reduceLT,Nat.reduceAdd,ct41t2_62,dD,e8]
   repeat ((with_reducible refine aI ?_ ?_);exact an0)
   refine yM rfl trivial (fun hc=>?_) (fun hc=>?_)
   ·have hk9:(r7)=true:=by simpa using hc
    replace H:=yA hc H
    refine sq zA ?_
    simp only [go_sem,Nat.reduceAdd]
    repeat ((with_reducible refine aI ?_ ?_);exact an5)
    refine rg zA ?_
    simp only [go_sem,Nat.reduceLT,Nat.reduceAdd]
    obtain rfl:=Option.some.inj H
    refine ⟨[0,1,2],?_,?_,[],?_,?_,rfl⟩
    ·simp only [go_sem]
     try exact at0
    ·simp only [go_sem]
     try exact at0
    ·simp only [go_sem]
     exact yY (zB (zJ (α:=TFrame)) (zB (zJ (α:=TFrame)) (zB (yV (zB zF (zB zF (zB (zJ (α:=TSleeper)) (zB (zJ (α:=TStored)) zO))))) (zB zF zO))))
    ·simp only [go_sem,CvH]
   have hk9:(r7)=false:=by simpa using hc
   replace H:=zZ hc H
   refine rg zA ?_
   simp only [go_sem]
   refine zK ?_
   obtain ⟨r10,e11,H⟩:=bsi H
   obtain ⟨r12,e13,H⟩:=bsi H
   refine yL zQ ct41t3_ok 3 (by kernel_rfl) (by kernel_rfl) ?_
   intro an han
   simp only [wK,xR,vL,xrD,xoD,vM,wY,List.append_nil,xA,refs,vF,mask,xZ,place,xI,wA,xK,hit,inL,xD,ren,uS,rnN,nrH,nrB,nrL,nr,rZ,rS,Nat.sub_self,Nat.add_zero,Nat.zero_add,Nat.reduceSub,Nat.lt_add_one,go_sem,Nat.reduceLeDiff,Nat.reduceLT,Nat.reduceAdd,Nat.reduceSub,Nat.reduceBEq,ct41t3_63,qG,ct41t3_65,vX,e11,e13]
   repeat ((with_reducible refine aI ?_ ?_);exact an4)
   refine zK ?_
   refine zK ?_
   obtain ⟨r14,e15,H⟩:=bsi H
   refine rg ct41t4_ok ?_
   simp only [go_sem,Nat.reduceLT,Nat.reduceAdd,ct41t4_47,qE,e15]
   repeat ((with_reducible refine aI ?_ ?_);exact an0)
   refine condM' rfl trivial (fun hc=>?_) (fun hc=>?_)
   ·have hk16:(r14)=false:=by simpa using hc
    replace H:=zZ hc H
    refine qZ ?_
    refine xQ zQ zA 1 ?_
    simp only [zM,tS,tZ,dS,dZ,go_sem,Nat.reduceLT,Nat.reduceAdd]
    repeat ((with_reducible refine aI ?_ ?_);exact an3)
    refine fzO [5] ?_ ?_
    ·simp only [go_sem,Nat.reduceBEq]
     try exact at0
    simp only [go_sem,Nat.reduceBEq,Nat.reduceAdd]
    obtain ⟨r37,e38,H⟩:=bsi H
    refine xQ zQ ct41t8_ok 3 ?_
    simp only [zM,tS,tZ,dS,dZ,go_sem,Nat.reduceLeDiff,Nat.reduceAdd,ct41t8_52,vA,e38]
    repeat ((with_reducible refine aI ?_ ?_);exact an3)
    refine wS ?_
    refine zK ?_
    refine yL zQ zA 0 (by kernel_rfl) (by kernel_rfl) ?_
    intro an han
    simp only [wK,xR,vL,xrD,xoD,vM,wY,List.append_nil,xA,refs,mask,xZ,place,xI,wA,xK,hit,inL,xD,nrH,nrB,nrL,nr,rZ,Nat.sub_self,Nat.add_zero,Nat.zero_add,Nat.reduceSub,Nat.lt_add_one,go_sem,Nat.reduceLeDiff,Nat.reduceLT,Nat.reduceAdd,Nat.reduceSub,Nat.reduceBEq]
    repeat ((with_reducible refine aI ?_ ?_);exact an4)
    refine rg zA ?_
    simp only [go_sem,Nat.reduceLT,Nat.reduceAdd]
    obtain rfl:=Option.some.inj H
    refine ⟨[7,3,4,0,1,2],?_,?_,[],?_,?_,rfl⟩
    ·simp only [go_sem,Nat.reduceBEq]
     try exact at0
    ·simp only [go_sem,Nat.reduceBEq]
     try exact at0
    ·simp only [go_sem,Nat.reduceBEq]
     exact yY (zB (xN (by first|rfl|simp) (fun _ _ _ _=>rfl)) (zB (zJ (α:=TFrame)) (zB (yV (zB zF (zB zF (zB (xN (by first|rfl|simp) (fun _ _ _ _=>rfl)) (zB (xN (by first|rfl|simp) (fun _ _ _ _=>rfl)) zO))))) (zB zF zO))))
    ·simp only [go_sem,CvH]
   have hk16:(r14)=true:=by simpa using hc
   replace H:=yA hc H
   refine qZ ?_
   refine xQ zQ zA 6 ?_
   simp only [zM,tS,tZ,dS,dZ,go_sem,Nat.reduceLeDiff,Nat.reduceLT,Nat.reduceAdd]
   repeat ((with_reducible refine aI ?_ ?_);exact an0)
   refine gX (rs:=[.tmp 6]) Try.func64 (by kernel_rfl) rfl rfl Try.ntmps64 (caps:=[]) (tc:=[.ptr 0 0 0 3,.int .i64 r10.Limit,.agg (.int .u8 0::.int .i64 p2::.int .u8 r12.Head.Kind::.int .u8 r12.Head.Sub::.bool r12.Head.ToDs::.bool r12.Head.FromDs::.bool r12.Head.More::.bool r12.Head.Retry::.bool r12.Head.Sleep::.bool r12.Head.MoreData::.bool r12.Head.Protected::.int .i64 r12.Head.Duration::.int .u8 r12.Head.A1.x0::.int .u8 r12.Head.A1.x1::.int .u8 r12.Head.A1.x2::.int .u8 r12.Head.A1.x3::.int .u8 r12.Head.A1.x4::.int .u8 r12.Head.A1.x5::.int .u8 r12.Head.A2.x0::.int .u8 r12.Head.A2.x1::.int .u8 r12.Head.A2.x2::.int .u8 r12.Head.A2.x3::.int .u8 r12.Head.A2.x4::.int .u8 r12.Head.A2.x5::.int .u8 r12.Head.A3.x0::.int .u8 r12.Head.A3.x1::.int .u8 r12.Head.A3.x2::.int .u8 r12.Head.A3.x3::.int .u8 r12.Head.A3.x4::.int .u8 r12.Head.A3.x5::.int .u8 r12.Head.A4.x0::.int .u8 r12.Head.A4.x1::.int .u8 r12.Head.A4.x2::.int .u8 r12.Head.A4.x3::.int .u8 r12.Head.A4.x4::.int .u8 r12.Head.A4.x5::.int .i64 r12.Head.Seq::.int .i64 r12.Head.Frag::.int .i64 r12.Head.Tid::.int .u8 r12.Head.Ack::.bool r12.Head.Amsdu::.bool r12.Head.Eosp::.sl 5 1 0 r12.Body.length false::[])]) rfl (by simp only [go_sem]) rfl ?_
   simp only [lC,lN,Nat.reduceAdd,Nat.reduceSub,rS,rZ,aC,aN]
   refine sq zA ?_
   simp only [go_sem,Nat.reduceAdd]
   refine zK ?_
   refine sq zA ?_
   simp only [go_sem,Nat.reduceLT,Nat.reduceAdd]
   repeat ((with_reducible refine aI ?_ ?_);exact an0)
   refine condM' rfl trivial (fun hc=>?_) (fun hc=>?_)
   ·have hk17:(bEq (r10.Group.length:Nat) r10.Limit)=false:=by simpa using hc
    replace H:=zZ hc H
    refine rg zA ?_
    simp only [go_sem]
    refine zK ?_
    refine kW [5] ?_ ?_
    ·simp only [go_sem,Nat.reduceBEq]
     try exact at0
    simp only [go_sem,Nat.reduceBEq,Nat.reduceAdd]
    obtain ⟨f36,H⟩:=nC H
    refine yL zQ zA 2 (by kernel_rfl) (by kernel_rfl) ?_
    intro an han
    simp only [wK,xR,vL,xrD,xoD,vM,wY,List.append_nil,xA,refs,vF,mask,xZ,place,xI,wA,xK,hit,inL,xD,ren,rnN,nrH,nrB,nrL,nr,rZ,rS,Nat.sub_self,Nat.add_zero,Nat.zero_add,Nat.reduceSub,Nat.lt_add_one,go_sem,Nat.reduceLeDiff,Nat.reduceLT,Nat.reduceAdd,Nat.reduceSub,Nat.reduceBEq,f36]
    repeat ((with_reducible refine aI ?_ ?_);exact an2)
    refine sq zA ?_
    simp only [go_sem]
    refine rg zA ?_
    simp only [go_sem]
    refine xQ zQ zA 1 ?_
    simp only [zM,tS,tZ,dS,dZ,go_sem]
    repeat ((with_reducible refine aI ?_ ?_);exact an1)
    refine wS ?_
    refine zK ?_
    refine yL zQ zA 0 (by kernel_rfl) (by kernel_rfl) ?_
    intro an han
    simp only [wK,xR,vL,xrD,xoD,vM,wY,List.append_nil,xA,refs,mask,xZ,place,xI,wA,xK,hit,inL,xD,nrH,nrB,nrL,nr,rZ,Nat.sub_self,Nat.add_zero,Nat.zero_add,Nat.reduceSub,Nat.lt_add_one,go_sem,Nat.reduceLeDiff,Nat.reduceLT,Nat.reduceAdd,Nat.reduceSub,Nat.reduceBEq]
    repeat ((with_reducible refine aI ?_ ?_);exact an2)
    refine rg zA ?_
    simp only [go_sem,Nat.reduceLT,Nat.reduceAdd]
    obtain rfl:=Option.some.inj H
    refine ⟨[3,8,0,1,2,6],?_,?_,[],?_,?_,rfl⟩
    ·simp only [go_sem,Nat.reduceBEq]
     try exact at0
    ·simp only [go_sem,Nat.reduceBEq]
     try exact at0
    ·simp only [go_sem,Nat.reduceBEq]
     exact yY (zB (zJ (α:=TFrame)) (zB (zJ (α:=TFrame)) (zB (yV (zB zF (zB zF (zB (xN (by first|rfl|simp) (fun _ _ _ _=>rfl)) (zB (xN (by first|rfl|simp) (wW (f:=zE) r10.Group [(TStored.mk 0 p2 (eF r12))] (fun _ _ _ _=>rfl) (wF (f:=zE) [(TStored.mk 0 p2 (eF r12))] (fun _ _=>rfl) rfl))) zO))))) (zB zF zO))))
    ·simp only [go_sem,CvH]
   have hk17:(bEq (r10.Group.length:Nat) r10.Limit)=true:=by simpa using hc
   replace H:=yA hc H
   refine zK ?_
   refine qZ ?_
   refine xQ zQ zA 3 ?_
   simp only [zM,tS,tZ,dS,dZ,go_sem,Nat.reduceLT,Nat.reduceAdd]
   repeat ((with_reducible refine aI ?_ ?_);exact an0)
   refine gX (rs:=[.cell 4 61]) Try.func89 (by kernel_rfl) rfl rfl Try.ntmps89 (caps:=[]) (tc:=[.sl 4 43 0 r10.Group.length false,.fn 90 []]) rfl (by simp only [go_sem]) rfl ?_
   simp only [lC,lN,Nat.reduceAdd,Nat.reduceSub,rS,rZ,aC,aN]
   refine sq zA ?_
   simp only [go_sem,Nat.reduceAdd]
   refine zK ?_
   refine sq zA ?_
   simp only [go_sem]
   repeat ((with_reducible refine aI ?_ ?_);exact an0)
   refine yM rfl trivial (fun hc=>?_) (fun hc=>?_)
   ·have hk18:(bLt (r10.Group.length:Nat) 1)=true:=by simpa using hc
    replace H:=yA hc H
    cases H
   have hk18:(bLt (r10.Group.length:Nat) 1)=false:=by simpa using hc
   replace H:=zZ hc H
   refine rg zA ?_
   simp only [go_sem]
   refine zK ?_
   obtain ⟨f19,H⟩:=nI H
   refine rg zA ?_
   simp only [go_sem,Nat.reduceLT,Nat.reduceAdd,f19]
   repeat ((with_reducible refine aI ?_ ?_);exact an5)
   refine zK ?_
   refine sq zA ?_
   simp only [go_sem]
   refine wN ?_
   refine xX (fun s:Int × TStored=>(.sl 4 43 0 r10.Group.length false::.fn 90 []::.top::.top::.ptr 7 0 0 0::.ptr 8 0 0 0::.int .i64 s.1::tp 26 [])) (fun s=>[.lit 25 [.int .i64 r10.Limit,.int .i64 r10.Stay,.sl 3 3 0 r10.List.length false,.sl 4 43 0 r10.Group.length false],.dead,.lit 25 [.int .i64 0,.int .i64 0,.ro 0 0 true (fun _ _=>.top),.ro 0 0 true (fun _ _=>.top)],.row 57 3 r10.List.length (enR zC r10.List),.row 61 43 r10.Group.length (enR zE r10.Group),.row 5 1 r12.Body.length (enR xM r12.Body),.lit 61 (.int .u8 0::.int .i64 p2::.int .u8 r12.Head.Kind::.int .u8 r12.Head.Sub::.bool r12.Head.ToDs::.bool r12.Head.FromDs::.bool r12.Head.More::.bool r12.Head.Retry::.bool r12.Head.Sleep::.bool r12.Head.MoreData::.bool r12.Head.Protected::.int .i64 r12.Head.Duration::.int .u8 r12.Head.A1.x0::.int .u8 r12.Head.A1.x1::.int .u8 r12.Head.A1.x2::.int .u8 r12.Head.A1.x3::.int .u8 r12.Head.A1.x4::.int .u8 r12.Head.A1.x5::.int .u8 r12.Head.A2.x0::.int .u8 r12.Head.A2.x1::.int .u8 r12.Head.A2.x2::.int .u8 r12.Head.A2.x3::.int .u8 r12.Head.A2.x4::.int .u8 r12.Head.A2.x5::.int .u8 r12.Head.A3.x0::.int .u8 r12.Head.A3.x1::.int .u8 r12.Head.A3.x2::.int .u8 r12.Head.A3.x3::.int .u8 r12.Head.A3.x4::.int .u8 r12.Head.A3.x5::.int .u8 r12.Head.A4.x0::.int .u8 r12.Head.A4.x1::.int .u8 r12.Head.A4.x2::.int .u8 r12.Head.A4.x3::.int .u8 r12.Head.A4.x4::.int .u8 r12.Head.A4.x5::.int .i64 r12.Head.Seq::.int .i64 r12.Head.Frag::.int .i64 r12.Head.Tid::.int .u8 r12.Head.Ack::.bool r12.Head.Amsdu::.bool r12.Head.Eosp::.sl 5 1 0 r12.Body.length false::[]),.lit 61 (.int .u8 0::.int .i64 0::.int .u8 0::.int .u8 0::.bool false::.bool false::.bool false::.bool false::.bool false::.bool false::.bool false::.int .i64 0::.int .u8 0::.int .u8 0::.int .u8 0::.int .u8 0::.int .u8 0::.int .u8 0::.int .u8 0::.int .u8 0::.int .u8 0::.int .u8 0::.int .u8 0::.int .u8 0::.int .u8 0::.int .u8 0::.int .u8 0::.int .u8 0::.int .u8 0::.int .u8 0::.int .u8 0::.int .u8 0::.int .u8 0::.int .u8 0::.int .u8 0::.int .u8 0::.int .i64 0::.int .i64 0::.int .i64 0::.int .u8 0::.bool false::.bool false::.ro 0 0 true (fun _ _=>.top)::[]),.lit 61 (.int .u8 s.2.Cat::.int .i64 s.2.At::.int .u8 s.2.Frame.Head.Kind::.int .u8 s.2.Frame.Head.Sub::.bool s.2.Frame.Head.ToDs::.bool s.2.Frame.Head.FromDs::.bool s.2.Frame.Head.More::.bool s.2.Frame.Head.Retry::.bool s.2.Frame.Head.Sleep::.bool s.2.Frame.Head.MoreData::.bool s.2.Frame.Head.Protected::.int .i64 s.2.Frame.Head.Duration::.int .u8 s.2.Frame.Head.A1.x0::.int .u8 s.2.Frame.Head.A1.x1::.int .u8 s.2.Frame.Head.A1.x2::.int .u8 s.2.Frame.Head.A1.x3::.int .u8 s.2.Frame.Head.A1.x4::.int .u8 s.2.Frame.Head.A1.x5::.int .u8 s.2.Frame.Head.A2.x0::.int .u8 s.2.Frame.Head.A2.x1::.int .u8 s.2.Frame.Head.A2.x2::.int .u8 s.2.Frame.Head.A2.x3::.int .u8 s.2.Frame.Head.A2.x4::.int .u8 s.2.Frame.Head.A2.x5::.int .u8 s.2.Frame.Head.A3.x0::.int .u8 s.2.Frame.Head.A3.x1::.int .u8 s.2.Frame.Head.A3.x2::.int .u8 s.2.Frame.Head.A3.x3::.int .u8 s.2.Frame.Head.A3.x4::.int .u8 s.2.Frame.Head.A3.x5::.int .u8 s.2.Frame.Head.A4.x0::.int .u8 s.2.Frame.Head.A4.x1::.int .u8 s.2.Frame.Head.A4.x2::.int .u8 s.2.Frame.Head.A4.x3::.int .u8 s.2.Frame.Head.A4.x4::.int .u8 s.2.Frame.Head.A4.x5::.int .i64 s.2.Frame.Head.Seq::.int .i64 s.2.Frame.Head.Frag::.int .i64 s.2.Frame.Head.Tid::.int .u8 s.2.Frame.Head.Ack::.bool s.2.Frame.Head.Amsdu::.bool s.2.Frame.Head.Eosp::.ro 1 s.2.Frame.Body.length false (enR xM s.2.Frame.Body)::[])]) (fun e:TStored=>(tp 4 (.ptr 7 0 0 0::.ptr 8 0 0 0::tp 27 []))) (fun e=>[.lit 25 [.int .i64 r10.Limit,.int .i64 r10.Stay,.sl 3 3 0 r10.List.length false,.sl 4 43 0 r10.Group.length false],.dead,.lit 25 [.int .i64 0,.int .i64 0,.ro 0 0 true (fun _ _=>.top),.ro 0 0 true (fun _ _=>.top)],.row 57 3 r10.List.length (enR zC r10.List),.row 61 43 r10.Group.length (enR zE r10.Group),.row 5 1 r12.Body.length (enR xM r12.Body),.lit 61 (.int .u8 0::.int .i64 p2::.int .u8 r12.Head.Kind::.int .u8 r12.Head.Sub::.bool r12.Head.ToDs::.bool r12.Head.FromDs::.bool r12.Head.More::.bool r12.Head.Retry::.bool r12.Head.Sleep::.bool r12.Head.MoreData::.bool r12.Head.Protected::.int .i64 r12.Head.Duration::.int .u8 r12.Head.A1.x0::.int .u8 r12.Head.A1.x1::.int .u8 r12.Head.A1.x2::.int .u8 r12.Head.A1.x3::.int .u8 r12.Head.A1.x4::.int .u8 r12.Head.A1.x5::.int .u8 r12.Head.A2.x0::.int .u8 r12.Head.A2.x1::.int .u8 r12.Head.A2.x2::.int .u8 r12.Head.A2.x3::.int .u8 r12.Head.A2.x4::.int .u8 r12.Head.A2.x5::.int .u8 r12.Head.A3.x0::.int .u8 r12.Head.A3.x1::.int .u8 r12.Head.A3.x2::.int .u8 r12.Head.A3.x3::.int .u8 r12.Head.A3.x4::.int .u8 r12.Head.A3.x5::.int .u8 r12.Head.A4.x0::.int .u8 r12.Head.A4.x1::.int .u8 r12.Head.A4.x2::.int .u8 r12.Head.A4.x3::.int .u8 r12.Head.A4.x4::.int .u8 r12.Head.A4.x5::.int .i64 r12.Head.Seq::.int .i64 r12.Head.Frag::.int .i64 r12.Head.Tid::.int .u8 r12.Head.Ack::.bool r12.Head.Amsdu::.bool r12.Head.Eosp::.sl 5 1 0 r12.Body.length false::[]),.lit 61 (.int .u8 0::.int .i64 0::.int .u8 0::.int .u8 0::.bool false::.bool false::.bool false::.bool false::.bool false::.bool false::.bool false::.int .i64 0::.int .u8 0::.int .u8 0::.int .u8 0::.int .u8 0::.int .u8 0::.int .u8 0::.int .u8 0::.int .u8 0::.int .u8 0::.int .u8 0::.int .u8 0::.int .u8 0::.int .u8 0::.int .u8 0::.int .u8 0::.int .u8 0::.int .u8 0::.int .u8 0::.int .u8 0::.int .u8 0::.int .u8 0::.int .u8 0::.int .u8 0::.int .u8 0::.int .i64 0::.int .i64 0::.int .i64 0::.int .u8 0::.bool false::.bool false::.ro 0 0 true (fun _ _=>.top)::[]),.lit 61 (.int .u8 e.Cat::.int .i64 e.At::.int .u8 e.Frame.Head.Kind::.int .u8 e.Frame.Head.Sub::.bool e.Frame.Head.ToDs::.bool e.Frame.Head.FromDs::.bool e.Frame.Head.More::.bool e.Frame.Head.Retry::.bool e.Frame.Head.Sleep::.bool e.Frame.Head.MoreData::.bool e.Frame.Head.Protected::.int .i64 e.Frame.Head.Duration::.int .u8 e.Frame.Head.A1.x0::.int .u8 e.Frame.Head.A1.x1::.int .u8 e.Frame.Head.A1.x2::.int .u8 e.Frame.Head.A1.x3::.int .u8 e.Frame.Head.A1.x4::.int .u8 e.Frame.Head.A1.x5::.int .u8 e.Frame.Head.A2.x0::.int .u8 e.Frame.Head.A2.x1::.int .u8 e.Frame.Head.A2.x2::.int .u8 e.Frame.Head.A2.x3::.int .u8 e.Frame.Head.A2.x4::.int .u8 e.Frame.Head.A2.x5::.int .u8 e.Frame.Head.A3.x0::.int .u8 e.Frame.Head.A3.x1::.int .u8 e.Frame.Head.A3.x2::.int .u8 e.Frame.Head.A3.x3::.int .u8 e.Frame.Head.A3.x4::.int .u8 e.Frame.Head.A3.x5::.int .u8 e.Frame.Head.A4.x0::.int .u8 e.Frame.Head.A4.x1::.int .u8 e.Frame.Head.A4.x2::.int .u8 e.Frame.Head.A4.x3::.int .u8 e.Frame.Head.A4.x4::.int .u8 e.Frame.Head.A4.x5::.int .i64 e.Frame.Head.Seq::.int .i64 e.Frame.Head.Frag::.int .i64 e.Frame.Head.Tid::.int .u8 e.Frame.Head.Ack::.bool e.Frame.Head.Amsdu::.bool e.Frame.Head.Eosp::.ro 1 e.Frame.Body.length false (enR xM e.Frame.Body)::[])]) H ?_ (fun s o H hn1_1 hn2_1=>?_) (fun w1_6 H=>?_)
   ·refine zT ⟨[some 0,some 1,some 2,some 3,some 4,some 5,some 6,some 7,some 8],?_,?_,by rfl,by rfl⟩
    ·simp [CvL,Cv,zX,tp]
    ·exact ⟨cv,zD,cv,(zW nfA),(zW nfA),(zW nfA),cv,cv,cv,trivial⟩
   ·obtain ⟨v1_1,v1_2⟩:=s
    unfold F41_L1 at H
    delta eF at H
    try dsimp only at H ⊢
    try simp only [tp]
    refine zK ?_
    refine sq zA ?_
    simp only [go_sem,Nat.reduceAdd]
    repeat ((with_reducible refine aI ?_ ?_);exact an0)
    refine condM' rfl trivial (fun hc=>?_) (fun hc=>?_)
    ·have hk20:(bLt v1_1 (r10.Group.length:Nat))=false:=by simpa using hc
     replace H:=zZ hc H
     refine rg zA ?_
     simp only [go_sem]
     refine ⟨_,(Option.some.inj H).symm,?_⟩
     refine zT ⟨[some 0,some 1,some 2,some 3,some 4,some 5,some 6,some 7,some 8],?_,?_,by rfl,by rfl⟩
     ·simp [CvL,Cv,zX]
     ·exact ⟨cv,zD,cv,(zW nfA),(zW nfA),(zW nfA),cv,cv,cv,trivial⟩
    have hk20:(bLt v1_1 (r10.Group.length:Nat))=true:=by simpa using hc
    replace H:=yA hc H
    refine rg zA ?_
    simp only [go_sem]
    refine zK ?_
    refine wN ?_
    refine zK ?_
    obtain ⟨f21,H⟩:=nI H
    obtain ⟨r22,e23,H⟩:=bsi H
    refine vS zQ ct41t5_ok (by kernel_rfl) (by kernel_rfl) ?_
    simp only [go_sem,Nat.reduceLT,Nat.reduceAdd,ct41t5_90,dE,f21,e23]
    repeat ((with_reducible refine aI ?_ ?_);exact an0)
    refine condM' rfl trivial (fun hc=>?_) (fun hc=>?_)
    ·have hk24:(bLt r22 0)=false:=by simpa using hc
     replace H:=zZ hc H
     refine rg zA ?_
     simp only [go_sem]
     refine rg zA ?_
     simp only [go_sem]
     refine ⟨_,(Option.some.inj H).symm,?_⟩
     refine zT ⟨[some 0,some 1,some 2,some 3,some 4,some 5,some 6,some 7,some 8],?_,?_,by rfl,by rfl⟩
     ·simp [CvL,Cv,zX]
     ·exact ⟨cv,zD,cv,(zW nfA),(zW nfA),(zW nfA),cv,cv,cv,trivial⟩
    have hk24:(bLt r22 0)=true:=by simpa using hc
    replace H:=yA hc H
    obtain ⟨f25,H⟩:=nI H
    refine rg zA ?_
    simp only [go_sem,Nat.reduceLT,Nat.reduceAdd,f25]
    repeat ((with_reducible refine aI ?_ ?_);exact an5)
    refine rg zA ?_
    simp only [go_sem]
    refine ⟨_,(Option.some.inj H).symm,?_⟩
    refine zT ⟨[some 0,some 1,some 2,some 3,some 4,some 5,some 6,some 7,some 8],?_,?_,by rfl,by rfl⟩
    ·simp [CvL,Cv,zX]
    ·exact ⟨cv,zD,cv,(zW nfA),(zW nfA),(zW nfA),cv,cv,cv,trivial⟩
   ·try dsimp only at H ⊢
    try simp only [tp]
    try simp only [xS]
    refine sq zA ?_
    simp only [go_sem,Nat.reduceLT,Nat.reduceAdd]
    repeat ((with_reducible refine aI ?_ ?_);exact an5)
    refine rg zA ?_
    simp only [go_sem,Nat.reduceLT,Nat.reduceAdd]
    refine xQ zQ zA 3 ?_
    simp only [zM,tS,tZ,dS,dZ,go_sem,Nat.reduceLeDiff,Nat.reduceLT,Nat.reduceAdd]
    repeat ((with_reducible refine aI ?_ ?_);exact an0)
    refine wS ?_
    refine zK ?_
    refine sq zA ?_
    simp only [go_sem,Nat.reduceLeDiff,Nat.reduceLT,Nat.reduceAdd]
    repeat ((with_reducible refine aI ?_ ?_);exact an5)
    refine yM rfl trivial (fun hc=>?_) (fun hc=>?_)
    ·have hk26:(bLt 0 w1_6.Cat)=true:=by simpa using hc
     replace H:=yA hc H
     refine zK ?_
     refine qZ ?_
     refine xQ zQ zA 2 ?_
     simp only [zM,tS,tZ,dS,dZ,go_sem,Nat.reduceLT,Nat.reduceAdd,reduceCtorEq]
     repeat ((with_reducible refine aI ?_ ?_);exact an5)
     refine fzO [5] ?_ ?_
     ·simp only [go_sem,Nat.reduceBEq]
      try exact at0
     simp only [go_sem,Nat.reduceBEq,Nat.reduceAdd]
     refine xQ zQ zA 2 ?_
     simp only [zM,tS,tZ,dS,dZ,go_sem,Nat.reduceLeDiff,Nat.reduceAdd]
     repeat ((with_reducible refine aI ?_ ?_);exact an5)
     refine wS ?_
     refine rg zA ?_
     simp only [go_sem]
     refine xQ zQ zA 1 ?_
     simp only [zM,tS,tZ,dS,dZ,go_sem]
     repeat ((with_reducible refine aI ?_ ?_);exact an3)
     refine wS ?_
     refine zK ?_
     refine yL zQ zA 0 (by kernel_rfl) (by kernel_rfl) ?_
     intro an han
     simp only [wK,xR,vL,xrD,xoD,vM,wY,List.append_nil,xA,refs,mask,xZ,place,xI,wA,xK,hit,inL,xD,nrH,nrB,nrL,nr,rZ,Nat.sub_self,Nat.add_zero,Nat.zero_add,Nat.reduceSub,Nat.lt_add_one,go_sem,Nat.reduceLeDiff,Nat.reduceLT,Nat.reduceAdd,Nat.reduceSub,Nat.reduceBEq]
     repeat ((with_reducible refine aI ?_ ?_);exact an6)
     refine rg zA ?_
     simp only [go_sem,Nat.reduceLT,Nat.reduceAdd]
     obtain rfl:=Option.some.inj H
     refine ⟨[10,3,4,0,2,6,7,8,9],?_,?_,[],?_,?_,rfl⟩
     ·simp only [go_sem,Nat.reduceBEq]
      try exact at0
     ·simp only [go_sem,Nat.reduceBEq]
      try exact at0
     ·simp only [go_sem,Nat.reduceBEq]
      exact yY (zB (zJ (α:=TFrame)) (zB (xN (by first|rfl|simp) (wF (f:=zI) [r12] (fun _ _=>rfl) rfl)) (zB (yV (zB zF (zB zF (zB (xN (by first|rfl|simp) (fun _ _ _ _=>rfl)) (zB (xN (by first|rfl|simp) (fun _ _ _ _=>rfl)) zO))))) (zB zF zO))))
     ·simp only [go_sem,CvH]
    have hk26:(bLt 0 w1_6.Cat)=false:=by simpa using hc
    replace H:=zZ hc H
    refine rg zA ?_
    simp only [go_sem]
    refine zK ?_
    obtain ⟨r27,e28,H⟩:=bsi H
    refine rg ct41t6_ok ?_
    simp only [go_sem,Nat.reduceLT,Nat.reduceAdd,ct41t6_58,qQ,e28]
    repeat ((with_reducible refine aI ?_ ?_);exact an0)
    refine zK ?_
    obtain ⟨f29,H⟩:=nI H
    refine rg zA ?_
    simp only [go_sem,Nat.reduceLeDiff,Nat.reduceLT,Nat.reduceAdd,reduceCtorEq,f29]
    repeat ((with_reducible refine aI ?_ ?_);exact an5)
    obtain ⟨f30,H⟩:=yT.1 H
    replace f30:=delb_iff.1 f30
    refine rg ct41t7_ok ?_
    simp only [go_sem,Nat.reduceLT,Nat.reduceAdd,ct41t7_60,delN,f30]
    repeat ((with_reducible refine aI ?_ ?_);exact an3)
    refine zK ?_
    obtain ⟨w31,hw32,H⟩:=bsj H
    have lhw32:w31.length=1:=by rw [← hw32];exact cl
    obtain ⟨w33,hw34,H⟩:=bsj H
    have lhw34:w33.length=r10.Group.length - ((wr .i64 (r27+1)).toNat - r27.toNat):=by rw [← hw34];exact (del_len f30 cl)
    refine vO (t2:=(.ptr 0 0 0 3::tp 4 (.ptr 6 0 0 0::.sl 10 41 0 w31.length false::tp 51 []))) (h2:=[.lit 25 [.int .i64 r10.Limit,.int .i64 r10.Stay,.sl 3 3 0 r10.List.length false,.sl 11 43 0 w33.length false],.dead,.lit 25 [.int .i64 0,.int .i64 0,.ro 0 0 true (fun _ _=>.top),.ro 0 0 true (fun _ _=>.top)],.row 57 3 r10.List.length (enR zC r10.List),.dead,.row 5 1 r12.Body.length (enR xM r12.Body),.lit 61 (.int .u8 0::.int .i64 p2::.int .u8 r12.Head.Kind::.int .u8 r12.Head.Sub::.bool r12.Head.ToDs::.bool r12.Head.FromDs::.bool r12.Head.More::.bool r12.Head.Retry::.bool r12.Head.Sleep::.bool r12.Head.MoreData::.bool r12.Head.Protected::.int .i64 r12.Head.Duration::.int .u8 r12.Head.A1.x0::.int .u8 r12.Head.A1.x1::.int .u8 r12.Head.A1.x2::.int .u8 r12.Head.A1.x3::.int .u8 r12.Head.A1.x4::.int .u8 r12.Head.A1.x5::.int .u8 r12.Head.A2.x0::.int .u8 r12.Head.A2.x1::.int .u8 r12.Head.A2.x2::.int .u8 r12.Head.A2.x3::.int .u8 r12.Head.A2.x4::.int .u8 r12.Head.A2.x5::.int .u8 r12.Head.A3.x0::.int .u8 r12.Head.A3.x1::.int .u8 r12.Head.A3.x2::.int .u8 r12.Head.A3.x3::.int .u8 r12.Head.A3.x4::.int .u8 r12.Head.A3.x5::.int .u8 r12.Head.A4.x0::.int .u8 r12.Head.A4.x1::.int .u8 r12.Head.A4.x2::.int .u8 r12.Head.A4.x3::.int .u8 r12.Head.A4.x4::.int .u8 r12.Head.A4.x5::.int .i64 r12.Head.Seq::.int .i64 r12.Head.Frag::.int .i64 r12.Head.Tid::.int .u8 r12.Head.Ack::.bool r12.Head.Amsdu::.bool r12.Head.Eosp::.sl 5 1 0 r12.Body.length false::[]),.lit 61 (.int .u8 w1_6.Cat::.int .i64 w1_6.At::.int .u8 w1_6.Frame.Head.Kind::.int .u8 w1_6.Frame.Head.Sub::.bool w1_6.Frame.Head.ToDs::.bool w1_6.Frame.Head.FromDs::.bool w1_6.Frame.Head.More::.bool w1_6.Frame.Head.Retry::.bool w1_6.Frame.Head.Sleep::.bool w1_6.Frame.Head.MoreData::.bool w1_6.Frame.Head.Protected::.int .i64 w1_6.Frame.Head.Duration::.int .u8 w1_6.Frame.Head.A1.x0::.int .u8 w1_6.Frame.Head.A1.x1::.int .u8 w1_6.Frame.Head.A1.x2::.int .u8 w1_6.Frame.Head.A1.x3::.int .u8 w1_6.Frame.Head.A1.x4::.int .u8 w1_6.Frame.Head.A1.x5::.int .u8 w1_6.Frame.Head.A2.x0::.int .u8 w1_6.Frame.Head.A2.x1::.int .u8 w1_6.Frame.Head.A2.x2::.int .u8 w1_6.Frame.Head.A2.x3::.int .u8 w1_6.Frame.Head.A2.x4::.int .u8 w1_6.Frame.Head.A2.x5::.int .u8 w1_6.Frame.Head.A3.x0::.int .u8 w1_6.Frame.Head.A3.x1::.int .u8 w1_6.Frame.Head.A3.x2::.int .u8 w1_6.Frame.Head.A3.x3::.int .u8 w1_6.Frame.Head.A3.x4::.int .u8 w1_6.Frame.Head.A3.x5::.int .u8 w1_6.Frame.Head.A4.x0::.int .u8 w1_6.Frame.Head.A4.x1::.int .u8 w1_6.Frame.Head.A4.x2::.int .u8 w1_6.Frame.Head.A4.x3::.int .u8 w1_6.Frame.Head.A4.x4::.int .u8 w1_6.Frame.Head.A4.x5::.int .i64 w1_6.Frame.Head.Seq::.int .i64 w1_6.Frame.Head.Frag::.int .i64 w1_6.Frame.Head.Tid::.int .u8 w1_6.Frame.Head.Ack::.bool w1_6.Frame.Head.Amsdu::.bool w1_6.Frame.Head.Eosp::.ro 1 w1_6.Frame.Body.length false (enR xM w1_6.Frame.Body)::[]),.lit 61 (.int .u8 w1_6.Cat::.int .i64 w1_6.At::.int .u8 w1_6.Frame.Head.Kind::.int .u8 w1_6.Frame.Head.Sub::.bool w1_6.Frame.Head.ToDs::.bool w1_6.Frame.Head.FromDs::.bool w1_6.Frame.Head.More::.bool w1_6.Frame.Head.Retry::.bool w1_6.Frame.Head.Sleep::.bool w1_6.Frame.Head.MoreData::.bool w1_6.Frame.Head.Protected::.int .i64 w1_6.Frame.Head.Duration::.int .u8 w1_6.Frame.Head.A1.x0::.int .u8 w1_6.Frame.Head.A1.x1::.int .u8 w1_6.Frame.Head.A1.x2::.int .u8 w1_6.Frame.Head.A1.x3::.int .u8 w1_6.Frame.Head.A1.x4::.int .u8 w1_6.Frame.Head.A1.x5::.int .u8 w1_6.Frame.Head.A2.x0::.int .u8 w1_6.Frame.Head.A2.x1::.int .u8 w1_6.Frame.Head.A2.x2::.int .u8 w1_6.Frame.Head.A2.x3::.int .u8 w1_6.Frame.Head.A2.x4::.int .u8 w1_6.Frame.Head.A2.x5::.int .u8 w1_6.Frame.Head.A3.x0::.int .u8 w1_6.Frame.Head.A3.x1::.int .u8 w1_6.Frame.Head.A3.x2::.int .u8 w1_6.Frame.Head.A3.x3::.int .u8 w1_6.Frame.Head.A3.x4::.int .u8 w1_6.Frame.Head.A3.x5::.int .u8 w1_6.Frame.Head.A4.x0::.int .u8 w1_6.Frame.Head.A4.x1::.int .u8 w1_6.Frame.Head.A4.x2::.int .u8 w1_6.Frame.Head.A4.x3::.int .u8 w1_6.Frame.Head.A4.x4::.int .u8 w1_6.Frame.Head.A4.x5::.int .i64 w1_6.Frame.Head.Seq::.int .i64 w1_6.Frame.Head.Frag::.int .i64 w1_6.Frame.Head.Tid::.int .u8 w1_6.Frame.Head.Ack::.bool w1_6.Frame.Head.Amsdu::.bool w1_6.Frame.Head.Eosp::.ro 1 w1_6.Frame.Body.length false (enR xM w1_6.Frame.Body)::[]),.lit 5 [.int .u8 w1_6.Cat],.row 33 41 w31.length (enR zI w31),.row 61 43 w33.length (enR zE w33)]) ?_ ?_
    ·refine zT ⟨[some 0,some 1,some 2,some 3,some 4,some 5,some 6,some 7,some 8,some 9,some 10,some 11],?_,?_,by rfl,by rfl⟩
     ·simp [CvL,Cv,zX,tp,lhw32]
     ·exact ⟨(by simp [CvB,CvL,Cv,xH,geth,zX,lhw34]),zD,(by simp [CvB,CvL,Cv,xH,geth]),zS zH rfl (fun _ _ _ _=>rfl),zD,zS nr_u8 rfl (fun _ _ _ _=>rfl),(by simp [CvB,CvL,Cv,xH,geth,zX]),(by simp [CvB,CvL,Cv,xH,geth]),(by simp [CvB,CvL,Cv,xH,geth]),(by simp [CvB,CvL,Cv,xH,geth]),zS xE lhw32 (hw32 ▸ (wF (f:=zI) [(eF ((gd r10.Group r27.toNat).Frame))] (fun _ _=>rfl) rfl)),zS zV lhw34 (hw34 ▸ (del_row f30 cl (fun _ _ _ _=>rfl))),trivial⟩
    simp only [tp]
    refine kW [5] ?_ ?_
    ·simp only [go_sem,Nat.reduceBEq]
     try exact at0
    simp only [go_sem,Nat.reduceBEq,Nat.reduceAdd]
    obtain ⟨f35,H⟩:=nC H
    refine yL zQ zA 2 (by kernel_rfl) (by kernel_rfl) ?_
    intro an han
    simp only [wK,xR,vL,xrD,xoD,vM,wY,List.append_nil,xA,refs,vF,mask,xZ,place,xI,wA,xK,hit,inL,xD,ren,rnN,nrH,nrB,nrL,nr,rZ,rS,Nat.sub_self,Nat.add_zero,Nat.zero_add,Nat.reduceSub,Nat.lt_add_one,go_sem,Nat.reduceLeDiff,Nat.reduceLT,Nat.reduceAdd,Nat.reduceSub,Nat.reduceBEq,f35]
    repeat ((with_reducible refine aI ?_ ?_);exact an2)
    refine sq zA ?_
    simp only [go_sem]
    refine rg zA ?_
    simp only [go_sem]
    refine xQ zQ zA 1 ?_
    simp only [zM,tS,tZ,dS,dZ,go_sem]
    repeat ((with_reducible refine aI ?_ ?_);exact an1)
    refine wS ?_
    refine zK ?_
    refine yL zQ zA 0 (by kernel_rfl) (by kernel_rfl) ?_
    intro an han
    simp only [wK,xR,vL,xrD,xoD,vM,wY,List.append_nil,xA,refs,mask,xZ,place,xI,wA,xK,hit,inL,xD,nrH,nrB,nrL,nr,rZ,Nat.sub_self,Nat.add_zero,Nat.zero_add,Nat.reduceSub,Nat.lt_add_one,go_sem,Nat.reduceLeDiff,Nat.reduceLT,Nat.reduceAdd,Nat.reduceSub,Nat.reduceBEq]
    repeat ((with_reducible refine aI ?_ ?_);exact an2)
    refine rg zA ?_
    simp only [go_sem,Nat.reduceLT,Nat.reduceAdd]
    obtain rfl:=Option.some.inj H
    refine ⟨[10,3,13,0,2,6,7,8,9],?_,?_,[],?_,?_,rfl⟩
    ·simp only [go_sem,Nat.reduceBEq]
     try exact at0
    ·simp only [go_sem,Nat.reduceBEq]
     try exact at0
    ·simp only [go_sem,Nat.reduceBEq]
     exact yY (zB (zJ (α:=TFrame)) (zB (xN (by first|rfl|simp) (fun _ _ _ _=>rfl)) (zB (yV (zB zF (zB zF (zB (xN (by first|rfl|simp) (fun _ _ _ _=>rfl)) (zB (xN (by first|rfl|simp) (wW (f:=zE) w33 [(TStored.mk 0 p2 (eF r12))] (fun _ _ _ _=>rfl) (wF (f:=zE) [(TStored.mk 0 p2 (eF r12))] (fun _ _=>rfl) rfl))) zO))))) (zB zF zO))))
    ·simp only [go_sem,CvH]
  ·cases hb
 ·unfold body41 at hb
  split at hb<;>cases hb
noncomputable def ct26t0:Ct:=tab [(18,yF wP)]
theorem ct26t0_ok:yZ Try.prog ct26t0:=zR ok18 <| zY
theorem ct26t0_18 (l:List AV) (h:List ABlk):ct26t0 18 l h=yF wP l h:=rfl
noncomputable def ct26t1:Ct:=tab [(65,xU vX)]
theorem ct26t1_ok:yZ Try.prog ct26t1:=zR ok65 <| zY
theorem ct26t1_65 (l:List AV) (h:List ABlk):ct26t1 65 l h=xU vX l h:=rfl
noncomputable def ct26t2:Ct:=tab [(52,edC vA),(53,xU tE)]
theorem ct26t2_ok:yZ Try.prog ct26t2:=zR ok52_0 <| zR ok53 <| zY
theorem ct26t2_52 (l:List AV) (h:List ABlk):ct26t2 52 l h=edC vA l h:=rfl
theorem ct26t2_53 (l:List AV) (h:List ABlk):ct26t2 53 l h=xU tE l h:=rfl
noncomputable def F26 (p0:TBuffer):Option ((List TFrame) × TBuffer × Int) :=
 (F18 p0).bind fun r1=>bif (!bEq r1 0) then (some ([],(TBuffer.mk 0 0 [] []),r1)) else ((F65 p0).bind fun r4=>(F53 r4.Group).bind fun r6=>(gY r6).bind fun r8=>some (r8,(TBuffer.mk r4.Limit r4.Stay r4.List []),0))
noncomputable def body26:List AV->Nat->AR
 | [v0],_=>.pure (aK 4 wC v0/\(F26 (zG (aL v0))).isSome=true) (.tup [.ro 41 (((gt (F26 (zG (aL v0)))).1).length) false (enR zI ((gt (F26 (zG (aL v0)))).1)),.agg [.int .i64 (((gt (F26 (zG (aL v0)))).2.1).Limit),.int .i64 (((gt (F26 (zG (aL v0)))).2.1).Stay),.ro 3 ((((gt (F26 (zG (aL v0)))).2.1).List).length) false (enR zC (((gt (F26 (zG (aL v0)))).2.1).List)),.ro 43 ((((gt (F26 (zG (aL v0)))).2.1).Group).length) false (enR zE (((gt (F26 (zG (aL v0)))).2.1).Group))],.int .i64 ((gt (F26 (zG (aL v0)))).2.2)])
 | _,_=>.fail
theorem ok26:wM Try.prog 26 (xU body26):=by
 refine uZ body26 (rs:=[.tmp 2,.cell 3 25,.tmp 4]) Try.func26 (by kernel_rfl) rfl rfl ?_
 intro l s ob v ns hb hob
 rcases hb with ⟨hb,rfl⟩|hb
 ·unfold body26 at hb
  split at hb
  ·rename_i v0
   injection hb with q1 q2;subst q1 q2
   obtain ⟨hk0_0,hob⟩:=hob
   obtain ⟨r,H⟩:=oE.1 hob
   rw [H,yQ]
   have hw0:=wU hk0_0
   generalize zG (aL v0)=p0 at H hw0
   refine ⟨[.agg [.int .i64 p0.Limit,.int .i64 p0.Stay,.ro 3 p0.List.length false (enR zC p0.List),.ro 43 p0.Group.length false (enR zE p0.Group)]],.tup [.ro 41 r.1.length false (enR zI r.1),.agg [.int .i64 r.2.1.Limit,.int .i64 r.2.1.Stay,.ro 3 r.2.1.List.length false (enR zC r.2.1.List),.ro 43 r.2.1.Group.length false (enR zE r.2.1.Group)],.int .i64 r.2.2],[],(fun E vs F=>yO hw0.1 F (fun vs F=>F)),by simp only [ren,uS],trivial,?_⟩
   rw [Try.ntmps26]
   simp only [lC,lN,Nat.reduceAdd,Nat.reduceSub,rS,rZ,aC,aN]
   unfold F26 at H
   try dsimp only at H
   refine sq zA ?_
   simp only [go_sem]
   refine zK ?_
   refine zK ?_
   obtain ⟨r1,e2,H⟩:=bsi H
   refine rg ct26t0_ok ?_
   simp only [go_sem,Nat.reduceLT,Nat.reduceAdd,ct26t0_18,wP,e2]
   repeat ((with_reducible refine aI ?_ ?_);exact an0)
   refine sq zA ?_
   simp only [go_sem]
   refine yM rfl trivial (fun hc=>?_) (fun hc=>?_)
   ·have hk3:(bEq r1 0)=false:=by simpa using hc
    replace H:=yA hc H
    refine sq zA ?_
    simp only [go_sem,Nat.reduceAdd]
    repeat ((with_reducible refine aI ?_ ?_);exact an5)
    refine rg zA ?_
    simp only [go_sem,Nat.reduceLT,Nat.reduceAdd]
    obtain rfl:=Option.some.inj H
    refine ⟨[0,1],?_,?_,[],?_,?_,rfl⟩
    ·simp only [go_sem]
     try exact at0
    ·simp only [go_sem]
     try exact at0
    ·simp only [go_sem]
     exact yY (zB (zJ (α:=TFrame)) (zB (yV (zB zF (zB zF (zB (zJ (α:=TSleeper)) (zB (zJ (α:=TStored)) zO))))) (zB zF zO)))
    ·simp only [go_sem,CvH]
   have hk3:(bEq r1 0)=true:=by simpa using hc
   replace H:=zZ hc H
   refine rg zA ?_
   simp only [go_sem]
   refine zK ?_
   obtain ⟨r4,e5,H⟩:=bsi H
   refine rg ct26t1_ok ?_
   simp only [go_sem,Nat.reduceLT,Nat.reduceAdd,ct26t1_65,vX,e5]
   repeat ((with_reducible refine aI ?_ ?_);exact an0)
   refine zK ?_
   refine kW [3] ?_ ?_
   ·simp only [go_sem,Nat.reduceBEq]
    try exact at0
   simp only [go_sem,Nat.reduceBEq,Nat.reduceAdd]
   obtain ⟨r6,e7,H⟩:=bsi H
   obtain ⟨r8,e9,H⟩:=bsi H
   refine rg ct26t2_ok ?_
   simp only [go_sem,Nat.reduceLT,Nat.reduceAdd,ct26t2_52,vA,ct26t2_53,tE,e7,e9]
   repeat ((with_reducible refine aI ?_ ?_);exact an0)
   refine zK ?_
   refine yL zQ zA 0 (by kernel_rfl) (by kernel_rfl) ?_
   intro an han
   simp only [wK,xR,vL,xrD,xoD,vM,wY,List.append_nil,xA,refs,mask,xZ,place,xI,wA,xK,hit,inL,xD,nrH,nrB,nrL,nr,rZ,Nat.sub_self,Nat.add_zero,Nat.zero_add,Nat.reduceSub,Nat.lt_add_one,go_sem,Nat.reduceLeDiff,Nat.reduceLT,Nat.reduceAdd,Nat.reduceSub,Nat.reduceBEq]
   repeat ((with_reducible refine aI ?_ ?_);exact an4)
   refine rg zA ?_
   simp only [go_sem,Nat.reduceLT,Nat.reduceAdd]
   obtain rfl:=Option.some.inj H
   refine ⟨[5,2,0,1],?_,?_,[],?_,?_,rfl⟩
   ·simp only [go_sem,Nat.reduceBEq]
    try exact at0
   ·simp only [go_sem,Nat.reduceBEq]
    try exact at0
   ·simp only [go_sem,Nat.reduceBEq]
    exact yY (zB (xN (by first|rfl|simp) (fun _ _ _ _=>rfl)) (zB (yV (zB zF (zB zF (zB (xN (by first|rfl|simp) (fun _ _ _ _=>rfl)) (zB (zJ (α:=TStored)) zO))))) (zB zF zO)))
   ·simp only [go_sem,CvH]
  ·cases hb
 ·unfold body26 at hb
  split at hb<;>cases hb
end Go.Proofs.Ytefiemaoacmdkaa
