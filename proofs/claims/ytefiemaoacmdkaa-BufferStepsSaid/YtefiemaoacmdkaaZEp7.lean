/-
  Contracts of functions: each computes its partial function.
-/
import Derived.Test.YtefiemaoacmdkaaZEp4
namespace Go.Proofs.Ytefiemaoacmdkaa
open Go.Am
set_option linter.unusedVariables false
set_option linter.unusedSimpArgs false
noncomputable def ct25dt0:Ct:=tab [(18,yR jQ)]
theorem ct25dt0_ok:wO Try.prog ct25dt0:=zE ok18 <| zU
theorem ct25dt0_18 (l:List AV) (h:List ABlk):ct25dt0 18 l h=yR jQ l h:=rfl
noncomputable def ct25dt1:Ct:=tab [(61,yR bY)]
theorem ct25dt1_ok:wO Try.prog ct25dt1:=zE ok61 <| zU
theorem ct25dt1_61 (l:List AV) (h:List ABlk):ct25dt1 61 l h=yR bY l h:=rfl
noncomputable def ct25dt2:Ct:=tab [(92,xN jR)]
theorem ct25dt2_ok:wO Try.prog ct25dt2:=zE ok92 <| zU
theorem ct25dt2_92 (l:List AV) (h:List ABlk):ct25dt2 92 l h=xN jR l h:=rfl
noncomputable def ct25dt3:Ct:=tab [(93,xN uR)]
theorem ct25dt3_ok:wO Try.prog ct25dt3:=zE ok93d <| zU
theorem ct25dt3_93 (l:List AV) (h:List ABlk):ct25dt3 93 l h=xN uR l h:=rfl
noncomputable def bQ (r7:List TSleeper) (v1_1:Int) (v1_2:List TSleeper):Option (Lp (Int × (List TSleeper)) ((List TSleeper) ⊕ ((List TFrame) × TBuffer × Int))) :=
 bif (bLt v1_1 (r7.length:Nat)) then (need (inb v1_1 v1_2.length) <| (F93 ((gd v1_2 v1_1.toNat).Held)).bind fun r11=>need (inb v1_1 v1_2.length) <| need (bLt v1_1 1000000) <| some (.next (wr .i64 (v1_1+1),(v1_2.set v1_1.toNat (TSleeper.mk ((gd v1_2 v1_1.toNat).Aid) ((gd v1_2 v1_1.toNat).Asleep) r11))))) else (need (bLe (v1_2.length:Nat) v1_1) <| some (.done (.inl v1_2)))
noncomputable def bR (p0:TBuffer) (p1:Int) (v4_1:Int) (v4_2:List TFrame) (v4_3:List TStored) (v4_4:Int):Option (Lp (Int × (List TFrame) × (List TStored) × Int) (((List TStored) × Int × (List TFrame)) ⊕ ((List TFrame) × TBuffer × Int))) :=
 bif (bLt v4_1 (v4_3.length:Nat)) then (need (inb v4_1 v4_3.length) <| bif (bLe (wr .i64 (((gd v4_3 v4_1.toNat).At)+p0.Stay)) p1) then (need (capb 104 (v4_2.length+1)) <| some (.next (wr .i64 (v4_1+1),(v4_2 ++ [(eF ((gd v4_3 v4_1.toNat).Frame))]),v4_3,v4_4))) else (need (inb v4_4 v4_3.length) <| some (.next (wr .i64 (v4_1+1),v4_2,(v4_3.set v4_4.toNat (TStored.mk ((gd v4_3 v4_1.toNat).Cat) ((gd v4_3 v4_1.toNat).At) (eF ((gd v4_3 v4_1.toNat).Frame)))),wr .i64 (v4_4+1))))) else (some (.done (.inl (v4_3,v4_4,v4_2))))
noncomputable def dY (p0:TBuffer) (p1:Int) (v2_1:Int) (v2_2:List TSleeper) (v2_3:List TFrame) (v3_1:Int):Option (Lp (Int) ((Unit) ⊕ (Lp (Int × (List TSleeper) × (List TFrame)) (((List TSleeper) × (List TFrame)) ⊕ ((List TFrame) × TBuffer × Int))))) :=
 bif (bLt v3_1 ((gd v2_2 v2_1.toNat).Held.length:Nat)) then (need (inb v3_1 ((gd v2_2 v2_1.toNat).Held.length)) <| bif (bLe (wr .i64 (((gd ((gd v2_2 v2_1.toNat).Held) v3_1.toNat).At)+p0.Stay)) p1) then (need (capb 104 (v2_3.length+1)) <| (bif (bEq v3_1 (-1)) then (need (bLt v2_1 1000000) <| some (.next (wr .i64 (v2_1+1),(v2_2.set v2_1.toNat (gd v2_2 v2_1.toNat)),(v2_3 ++ [(eF ((gd ((gd v2_2 v2_1.toNat).Held) v3_1.toNat).Frame))])))) else (lp (loopD (fun s=>bR p0 p1 s.1 s.2.1 s.2.2.1 s.2.2.2) (wr .i64 (v3_1+1),(v2_3 ++ [(eF ((gd ((gd v2_2 v2_1.toNat).Held) v3_1.toNat).Frame))]),(gd v2_2 v2_1.toNat).Held,v3_1)) (fun e4=>need (slb e4.2.1 (e4.1.length:Nat) e4.1.length) <| need (slb 0 e4.2.1 e4.1.length) <| need (bLt v2_1 1000000) <| some (.next (wr .i64 (v2_1+1),(v2_2.set v2_1.toNat (TSleeper.mk ((gd v2_2 v2_1.toNat).Aid) ((gd v2_2 v2_1.toNat).Asleep) (List.take e4.2.1.toNat e4.1))),e4.2.2))) (fun r=>some (.done (.inr r))))).bind fun q29=>some (.done (.inr q29))) else (some (.next (wr .i64 (v3_1+1))))) else (some (.done (.inl ())))
noncomputable def dX (p0:TBuffer) (p1:Int) (w1_1:List TSleeper) (v2_1:Int) (v2_2:List TSleeper) (v2_3:List TFrame):Option (Lp (Int × (List TSleeper) × (List TFrame)) (((List TSleeper) × (List TFrame)) ⊕ ((List TFrame) × TBuffer × Int))) :=
 bif (bLt v2_1 (w1_1.length:Nat)) then (need (inb v2_1 v2_2.length) <| need (inb v2_1 v2_2.length) <| lp (loopD (fun s=>dY p0 p1 v2_1 v2_2 v2_3 s) 0) (fun _=>need (bLt v2_1 1000000) <| some (.next (wr .i64 (v2_1+1),(v2_2.set v2_1.toNat (gd v2_2 v2_1.toNat)),v2_3))) some) else (some (.done (.inl (v2_2,v2_3))))
noncomputable def F25_L6 (p0:TBuffer) (p1:Int) (v6_1:Int) (v6_2:List TFrame) (v6_3:List TStored) (v6_4:Int):Option (Lp (Int × (List TFrame) × (List TStored) × Int) (((List TStored) × Int × (List TFrame)) ⊕ ((List TFrame) × TBuffer × Int))) :=
 bif (bLt v6_1 (v6_3.length:Nat)) then (need (inb v6_1 v6_3.length) <| bif (bLe (wr .i64 (((gd v6_3 v6_1.toNat).At)+p0.Stay)) p1) then (need (capb 104 (v6_2.length+1)) <| some (.next (wr .i64 (v6_1+1),(v6_2 ++ [(eF ((gd v6_3 v6_1.toNat).Frame))]),v6_3,v6_4))) else (need (inb v6_4 v6_3.length) <| some (.next (wr .i64 (v6_1+1),v6_2,(v6_3.set v6_4.toNat (TStored.mk ((gd v6_3 v6_1.toNat).Cat) ((gd v6_3 v6_1.toNat).At) (eF ((gd v6_3 v6_1.toNat).Frame)))),wr .i64 (v6_4+1))))) else (some (.done (.inl (v6_3,v6_4,v6_2))))
noncomputable def eE (p0:TBuffer) (p1:Int) (r14:List TStored) (w2_1:List TSleeper) (w2_2:List TFrame) (v5_1:Int):Option (Lp (Int) ((Unit) ⊕ ((List TFrame) × TBuffer × Int))) :=
 bif (bLt v5_1 (r14.length:Nat)) then (need (inb v5_1 r14.length) <| bif (bLe (wr .i64 (((gd r14 v5_1.toNat).At)+p0.Stay)) p1) then (need (capb 104 (w2_2.length+1)) <| (bif (bEq v5_1 (-1)) then (some ((w2_2 ++ [(eF ((gd r14 v5_1.toNat).Frame))]),(TBuffer.mk p0.Limit p0.Stay w2_1 r14),0)) else (lp (loopD (fun s=>F25_L6 p0 p1 s.1 s.2.1 s.2.2.1 s.2.2.2) (wr .i64 (v5_1+1),(w2_2 ++ [(eF ((gd r14 v5_1.toNat).Frame))]),r14,v5_1)) (fun e6=>need (slb e6.2.1 (e6.1.length:Nat) e6.1.length) <| need (slb 0 e6.2.1 e6.1.length) <| some (e6.2.2,(TBuffer.mk p0.Limit p0.Stay w2_1 (List.take e6.2.1.toNat e6.1)),0)) some)).bind fun q43=>some (.done (.inr q43))) else (some (.next (wr .i64 (v5_1+1))))) else (some (.done (.inl ())))
noncomputable def F25 (p0:TBuffer) (p1:Int):Option ((List TFrame) × TBuffer × Int) :=
 (F18 p0).bind fun r1=>bif (!bEq r1 0) then (some ([],(TBuffer.mk 0 0 [] []),r1)) else ((F61 p1).bind fun r4=>bif (!r4) then (some ([],(TBuffer.mk 0 0 [] []),2)) else ((F92 p0.List).bind fun r7=>lp (loopD (fun s=>bQ r7 s.1 s.2) (0,r7)) (fun w1_1=>(F93 p0.Group).bind fun r14=>lp (loopD (fun s=>dX p0 p1 w1_1 s.1 s.2.1 s.2.2) (0,w1_1,[])) (fun e2=>lp (loopD (fun s=>eE p0 p1 r14 e2.1 e2.2 s) 0) (fun _=>some (e2.2,(TBuffer.mk p0.Limit p0.Stay e2.1 r14),0)) some) some) some))
noncomputable def body25d:List AV->Nat->AR
 | [v0,v1],_=>.pure (aK 4 uA v0/\iK .i64 v1/\(F25 (zY (aL v0)) (iA v1)).isSome=true) (.tup [.ro 41 (((gt (F25 (zY (aL v0)) (iA v1))).1).length) false (enR yD ((gt (F25 (zY (aL v0)) (iA v1))).1)),.agg [.int .i64 (((gt (F25 (zY (aL v0)) (iA v1))).2.1).Limit),.int .i64 (((gt (F25 (zY (aL v0)) (iA v1))).2.1).Stay),.ro 3 ((((gt (F25 (zY (aL v0)) (iA v1))).2.1).List).length) false (enR zT (((gt (F25 (zY (aL v0)) (iA v1))).2.1).List)),.ro 43 ((((gt (F25 (zY (aL v0)) (iA v1))).2.1).Group).length) false (enR zJ (((gt (F25 (zY (aL v0)) (iA v1))).2.1).Group))],.int .i64 ((gt (F25 (zY (aL v0)) (iA v1))).2.2)])
 | _,_=>.fail
set_option maxHeartbeats 4000000 in
set_option maxRecDepth 20000 in
theorem ok25d:yU Try.prog 25 (xN body25d):=by
 refine eN body25d (rs:=[.cell 4 52,.cell 5 25,.tmp 6]) Try.func25 (by kernel_rfl) rfl rfl ?_
 intro l s ob v ns hb hob
 rcases hb with ⟨hb,rfl⟩|hb
 ·unfold body25d at hb
  split at hb
  ·rename_i v0 v1
   injection hb with q1 q2;subst q1 q2
   obtain ⟨hk0_0,hk1_0,hob⟩:=hob
   obtain ⟨r,H⟩:=oE.1 hob
   rw [H,gt_some]
   have hw0:=fK hk0_0
   have hw1:=yB hk1_0
   generalize zY (aL v0)=p0 at H hw0
   generalize iA v1=p1 at H hw1
   refine ⟨[.agg [.int .i64 p0.Limit,.int .i64 p0.Stay,.ro 3 p0.List.length false (enR zC p0.List),.ro 43 p0.Group.length false (enR zD p0.Group)],.int .i64 p1],.tup [.ro 41 r.1.length false (enR yD r.1),.agg [.int .i64 r.2.1.Limit,.int .i64 r.2.1.Stay,.ro 3 r.2.1.List.length false (enR zT r.2.1.List),.ro 43 r.2.1.Group.length false (enR zJ r.2.1.Group)],.int .i64 r.2.2],[],(fun E vs F=>tR hw0.1 F (fun vs F=>tR hw1.1 F (fun vs F=>F))),by simp only [ren,tO],trivial,?_⟩
   rw [Try.ntmps25]
   simp only [lCl,lNl,Nat.reduceAdd,Nat.reduceSub,rS,rZ,aC,aN]
   unfold F25 at H
   try dsimp only at H
   refine sq zA ?_
   simp only [go_sem,Nat.reduceAdd]
   refine zZ ?_
   refine zZ ?_
   obtain ⟨r1,e2,H⟩:=bsi H
   refine rg ct25dt0_ok ?_
   simp only [go_sem,Nat.reduceLT,Nat.reduceAdd,ct25dt0_18,jQ,e2]
   repeat ((with_reducible refine aI ?_ ?_);exact an0)
   refine sq zA ?_
   simp only [go_sem]
   refine yX rfl trivial (fun hc=>?_) (fun hc=>?_)
   ·have hk3:(bEq r1 0)=false:=by simpa using hc
    replace H:=xH hc H
    refine sq zA ?_
    simp only [go_sem,Nat.reduceAdd]
    repeat ((with_reducible refine aI ?_ ?_);exact an5)
    refine rg zA ?_
    simp only [go_sem,Nat.reduceLT,Nat.reduceAdd]
    obtain rfl:=Option.some.inj H
    refine ⟨[0,1,2,3],?_,?_,[],?_,?_,rfl⟩
    ·simp only [go_sem]
     try exact at0
    ·simp only [go_sem]
     try exact at0
    ·simp only [go_sem]
     exact qC (zM (yV (α:=TFrame)) (zM (qB (zM xF (zM xF (zM (yV (α:=TSleeper)) (zM (yV (α:=TStored)) xO))))) (zM xF xO)))
    ·simp only [go_sem,CvH]
   have hk3:(bEq r1 0)=true:=by simpa using hc
   replace H:=yM hc H
   refine rg zA ?_
   simp only [go_sem]
   refine zZ ?_
   refine zZ ?_
   obtain ⟨r4,e5,H⟩:=bsi H
   refine rg ct25dt1_ok ?_
   simp only [go_sem,Nat.reduceLT,ct25dt1_61,bY,e5]
   repeat ((with_reducible refine aI ?_ ?_);exact an0)
   refine yX rfl trivial (fun hc=>?_) (fun hc=>?_)
   ·have hk6:(r4)=false:=by simpa using hc
    replace H:=xH hc H
    refine sq zA ?_
    simp only [go_sem,Nat.reduceAdd]
    repeat ((with_reducible refine aI ?_ ?_);exact an5)
    refine rg zA ?_
    simp only [go_sem,Nat.reduceLT,Nat.reduceAdd]
    obtain rfl:=Option.some.inj H
    refine ⟨[0,1,2,3],?_,?_,[],?_,?_,rfl⟩
    ·simp only [go_sem]
     try exact at0
    ·simp only [go_sem]
     try exact at0
    ·simp only [go_sem]
     exact qC (zM (yV (α:=TFrame)) (zM (qB (zM xF (zM xF (zM (yV (α:=TSleeper)) (zM (yV (α:=TStored)) xO))))) (zM xF xO)))
    ·simp only [go_sem,CvH]
   have hk6:(r4)=true:=by simpa using hc
   replace H:=yM hc H
   refine rg zA ?_
   simp only [go_sem]
   refine inP (f:=zJ) (e:=61) (es:=43) ?_
   refine seqPP ?_
   refine regP ?_
   refine cutPO zO zA zV 1 ?_
   simp only [fC,tS,tZ,dSl,dZ,go_sem,Nat.reduceLT,Nat.reduceAdd]
   repeat ((with_reducible refine aI ?_ ?_);exact an0)
   refine inlPO (rs:=[.cell 2 25]) Try.func65 (by kernel_rfl) rfl rfl Try.ntmps65 (caps:=[]) (tc:=[.agg [.int .i64 p0.Limit,.int .i64 p0.Stay,.ro 3 p0.List.length false (enR zC p0.List),.ro 43 p0.Group.length false (enR zD p0.Group)]]) rfl (by simp only [go_sem]) rfl ?_
   simp only [lCl,lNl,Nat.reduceAdd,Nat.reduceSub,rS,rZ,aC,aN]
   try simp only [xY]
   refine seqP zV ?_
   refine rg zA ?_
   simp only [go_sem,Nat.reduceAdd]
   try simp only [xY]
   refine seqP zV ?_
   obtain ⟨r7,e8,H⟩:=bsi H
   refine rg ct25dt2_ok ?_
   simp only [go_sem,Nat.reduceLeDiff,Nat.reduceLT,Nat.reduceAdd,ct25dt2_92,jR,e8]
   repeat ((with_reducible refine aI ?_ ?_);exact an0)
   try simp only [xY]
   refine seqPP ?_
   try simp only [xY]
   refine seqP zV ?_
   refine rg zA ?_
   simp only [go_sem,Nat.reduceLeDiff,Nat.reduceLT,Nat.reduceAdd]
   repeat ((with_reducible refine aI ?_ ?_);exact an0)
   try simp only [xY]
   refine blkP ?_
   refine initP (n:=r7.length) ?_
   refine loop_denP zV 6 57 3 2 7 (fun s:Int × (List TSleeper)=>(.top::.ptr 4 0 0 0::.ptr 5 0 0 0::tp 7 (.int .i64 (r7.length:Nat)::.int .i64 s.1::tp 20 []))) (fun (s:Int × (List TSleeper)) C=>[.lit 25 [.int .i64 p0.Limit,.int .i64 p0.Stay,.ro 3 p0.List.length false (enR zC p0.List),.ro 43 p0.Group.length false (enR zD p0.Group)],.lit 3 [.int .i64 p1],.lit 52 [.ro 0 0 true (fun _ _=>.top)],.lit 25 [.int .i64 0,.int .i64 0,.ro 0 0 true (fun _ _=>.top),.ro 0 0 true (fun _ _=>.top)],.lit 25 [.int .i64 p0.Limit,.int .i64 p0.Stay,.sl 6 3 0 s.2.length false,.ro 43 p0.Group.length false (enR zD p0.Group)],.lit 25 [.int .i64 0,.int .i64 0,.ro 0 0 true (fun _ _=>.top),.ro 0 0 true (fun _ _=>.top)],.row 57 3 s.2.length C]) (fun s:Int × (List TSleeper)=>s.2.length) (fun (s:Int × (List TSleeper)) V=>pcC zC 2 (ltB s.1.toNat) s.2 V) (fun s:Int × (List TSleeper)=>pkl (fun x=>x.Held) (ltB s.1.toNat) s.2) (fun e:List TSleeper=>(.top::.ptr 4 0 0 0::.ptr 5 0 0 0::tp 29 [])) (fun (e:List TSleeper) V=>[.lit 25 [.int .i64 p0.Limit,.int .i64 p0.Stay,.ro 3 p0.List.length false (enR zC p0.List),.ro 43 p0.Group.length false (enR zD p0.Group)],.lit 3 [.int .i64 p1],.lit 52 [.ro 0 0 true (fun _ _=>.top)],.lit 25 [.int .i64 0,.int .i64 0,.ro 0 0 true (fun _ _=>.top),.ro 0 0 true (fun _ _=>.top)],.lit 25 [.int .i64 p0.Limit,.int .i64 p0.Stay,.sl 6 3 0 e.length false,.ro 43 p0.Group.length false (enR zD p0.Group)],.lit 25 [.int .i64 0,.int .i64 0,.ro 0 0 true (fun _ _=>.top),.ro 0 0 true (fun _ _=>.top)],.row 57 3 e.length (pcC zC 2 tV e V)]) (fun e:List TSleeper=>pkl (fun x=>x.Held) tV e) H (fun _ _=>rfl) (fun _ _ _=>rfl) (fun _ _=>rfl) (Nat.le_of_ble_eq_true rfl) (by omega) (fun s=>by simp [nrL,nr,tp]) (fun s C hC=>⟨(by simp [nrB,nrL,nr]),(by simp [nrB,nrL,nr]),(by simp [nrB,nrL,nr]),(by simp [nrB,nrL,nr]),(by simp [nrB,nrL,nr]),(by simp [nrB,nrL,nr]),hC,trivial⟩) pkl_zero ?_ (fun s o V hV H hn1_1 hn2_1=>?_) (fun w1_1 V H hVe=>?_)
   ·refine yH ⟨[some 0,some 1,some 2,some 3,some 4,some 5,some 6],?_,?_,by rfl,by rfl⟩
    ·simp [CvL,Cv,zQ,tp]
    ·exact ⟨cv,cv,cv,cv,cv,cv,(CvB_pc0 zG cl (fun _ _ _ _=>rfl)),trivial⟩
   ·obtain ⟨v1_1,v1_2⟩:=s
    replace hV:=hV.trans kB
    unfold bQ at H
    try dsimp only at H hV ⊢
    try simp only [tp]
    refine frP zV ?_
    refine sq zA ?_
    simp only [go_sem,Nat.reduceAdd]
    refine zZ ?_
    refine condM' rfl trivial (fun hc=>?_) (fun hc=>?_)
    ·have hk9:(bLt v1_1 (r7.length:Nat))=false:=by simpa using hc
     replace H:=yM hc H
     refine rg zA ?_
     simp only [go_sem]
     obtain ⟨hz,H⟩:=zN.1 H
     have hz:v1_2.length <= v1_1.toNat:=by have:=bLe_iff.1 hz;omega
     refine ⟨_,(Option.some.inj H).symm,pkl_all hz,?_⟩
     refine yH ⟨[some 0,some 1,some 2,some 3,some 4,some 5,some 6],?_,?_,by rfl,by rfl⟩
     ·simp [CvL,Cv,zQ]
     ·exact ⟨cv,cv,cv,cv,cv,cv,(CvB_pcx zG hz),trivial⟩
    have hk9:(bLt v1_1 (r7.length:Nat))=true:=by simpa using hc
    replace H:=xH hc H
    refine rg zA ?_
    simp only [go_sem]
    refine zZ ?_
    refine uJ ?_
    refine sq zA ?_
    simp only [go_sem]
    obtain ⟨f10,H⟩:=zN.1 H
    replace f10:=xD.1 f10
    obtain ⟨r11,e12,H⟩:=bsi H
    obtain ⟨f13,H⟩:=zN.1 H
    replace f13:=xD.1 f13
    refine yW zO ct25dt3_ok 1 (by kernel_rfl) (by kernel_rfl) ?_
    intro an han
    simp only [vZ,wV,qS,xrD,xoD,qT,uC,List.append_nil,xJ,refs,vC,mask,wY,place,xV,wZ,xZ,hit,inL,xK,ren,rnN,nrH,nrB,rZ,rS,Nat.sub_self,Nat.add_zero,Nat.zero_add,Nat.reduceSub,Nat.lt_add_one,go_sem,Nat.reduceLeDiff,Nat.reduceLT,Nat.reduceAdd,Nat.reduceSub,Nat.reduceBEq,ct25dt3_93,uR,f10,e12]
    repeat ((with_reducible refine aI ?_ ?_);exact an3)
    refine rg zA ?_
    simp only [go_sem]
    obtain ⟨hz,H⟩:=zN.1 H
    have hz:v1_1 < 1000000:=by simpa [bLt] using hz
    have hwr:(wr .i64 (v1_1+1)).toNat=v1_1.toNat+1:=by rw [wr_in (by omega)];omega
    refine kLP_next1 (g:=zC) (held:=fun x=>x.Held) (L:=v1_2) (i:=v1_1.toNat) (a:=(TSleeper.mk ((gd v1_2 v1_1.toNat).Aid) ((gd v1_2 v1_1.toNat).Asleep) r11)) zG (Option.some.inj H).symm (by omega) hV List.length_set (fun V=>by show pcC _ _ (ltB (wr .i64 (v1_1+1)).toNat) _ _=_;rw [hwr]) (by show pkl _ (ltB (wr .i64 (v1_1+1)).toNat) _=_;rw [hwr]) (fun y h1 h2=>match y,h1,h2 with|0,_,_=>rfl|1,_,_=>rfl|2,h,_=>absurd rfl h|(y+3),_,h=>absurd h nlt) ?_
    refine yH ⟨[some 0,some 1,some 2,some 3,some 4,some 5,some 6,some 7],?_,?_,by rfl,by rfl⟩
    ·simp [CvL,Cv,zQ]
    ·exact ⟨cv,cv,cv,cv,cv,cv,(tX (i:=v1_1.toNat) (C:=pcC zC 2 (ltB v1_1.toNat) v1_2 V) cl (yC zG) (fun x y hx=>by simp only [yP hx]) (fun x y hx=>by simp only [yP hx]) (fun y hy=>match y,hy with|0,_=>(by simp only [wH,and_false,if_false,reduceCtorEq];first|exact yJ _ (yC zG _ _)|(simp [Cv,zQ];done)|(simp [Cv,zQ];omega))|1,_=>(by simp only [wH,and_false,if_false,Nat.reduceEqDiff];first|exact yJ _ (yC zG _ _)|(simp [Cv,zQ];done)|(simp [Cv,zQ];omega))|2,_=>(by simp only [wH,and_true,if_true];first|exact yJ _ (yC zG _ _)|(simp [Cv,zQ];done)|(simp [Cv,zQ];omega))|(y+3),h=>absurd h nlt)),zW zV cl (fun _ _ _ _=>rfl),trivial⟩
   ·try dsimp only at H ⊢
    try simp only [tp]
    try simp only [xY]
    refine seqP zV ?_
    obtain ⟨r14,e15,H⟩:=bsi H
    refine rg ct25dt3_ok ?_
    simp only [go_sem,Nat.reduceLT,Nat.reduceAdd,ct25dt3_93,uR,e15]
    repeat ((with_reducible refine aI ?_ ?_);exact an0)
    try simp only [xY]
    refine seqP zV ?_
    refine rg zA ?_
    simp only [go_sem,Nat.reduceLT,Nat.reduceAdd]
    repeat ((with_reducible refine aI ?_ ?_);exact an5)
    try simp only [xY]
    refine frP zV ?_
    refine rg zA ?_
    simp only [go_sem,Nat.reduceLT,Nat.reduceAdd]
    refine cutPO zO zA zV 1 ?_
    simp only [fC,tS,tZ,dSl,dZ,go_sem,Nat.reduceAdd]
    repeat ((with_reducible refine aI ?_ ?_);exact an0)
    refine endP ?_
    try simp only [xY]
    refine seqP zV ?_
    refine rg zA ?_
    simp only [go_sem]
    try simp only [xY]
    refine seqPP ?_
    try simp only [xY]
    refine seqP zV ?_
    refine rg zA ?_
    simp only [go_sem,Nat.reduceLeDiff,Nat.reduceLT,Nat.reduceAdd]
    repeat ((with_reducible refine aI ?_ ?_);exact an0)
    try simp only [xY]
    refine blkP ?_
    refine loop_denP zV 6 57 3 2 9 (fun s:Int × (List TSleeper) × (List TFrame)=>(.top::.top::.ptr 0 0 0 0::.top::.ptr 2 0 0 0::.ptr 3 0 0 0::.top::.top::.fn 66 [.ptr 0 0 0 0,.ptr 1 0 0 0,.ptr 2 0 0 0]::tp 16 (.int .i64 (w1_1.length:Nat)::.int .i64 s.1::tp 15 []))) (fun (s:Int × (List TSleeper) × (List TFrame)) C=>[.lit 25 [.int .i64 p0.Limit,.int .i64 p0.Stay,.sl 6 3 0 s.2.1.length false,.sl 7 43 0 r14.length false],.lit 3 [.int .i64 p1],.lit 52 [.sl 8 41 0 s.2.2.length false],.lit 25 [.int .i64 0,.int .i64 0,.ro 0 0 true (fun _ _=>.top),.ro 0 0 true (fun _ _=>.top)],.dead,.dead,.row 57 3 s.2.1.length C,.row 61 43 r14.length (enR zJ r14),.row 33 41 s.2.2.length (enR yD s.2.2)]) (fun s:Int × (List TSleeper) × (List TFrame)=>s.2.1.length) (fun (s:Int × (List TSleeper) × (List TFrame)) V=>pcC zC 2 (tV) s.2.1 V) (fun s:Int × (List TSleeper) × (List TFrame)=>pkl (fun x=>x.Held) (tV) s.2.1) (fun e:(List TSleeper) × (List TFrame)=>(.top::.top::.ptr 0 0 0 0::.top::.ptr 2 0 0 0::.ptr 3 0 0 0::.top::.top::.fn 66 [.ptr 0 0 0 0,.ptr 1 0 0 0,.ptr 2 0 0 0]::tp 33 [])) (fun (e:(List TSleeper) × (List TFrame)) V=>[.lit 25 [.int .i64 p0.Limit,.int .i64 p0.Stay,.sl 6 3 0 e.1.length false,.sl 7 43 0 r14.length false],.lit 3 [.int .i64 p1],.lit 52 [.sl 8 41 0 e.2.length false],.lit 25 [.int .i64 0,.int .i64 0,.ro 0 0 true (fun _ _=>.top),.ro 0 0 true (fun _ _=>.top)],.dead,.dead,.row 57 3 e.1.length (pcC zC 2 tV e.1 V),.row 61 43 r14.length (enR zJ r14),.row 33 41 e.2.length (enR yD e.2)]) (fun e:(List TSleeper) × (List TFrame)=>pkl (fun x=>x.Held) tV e.1) H (fun _ _=>rfl) (fun _ _ _=>rfl) (fun _ _=>rfl) (Nat.le_of_ble_eq_true rfl) (by omega) (fun s=>by simp [nrL,nr,tp]) (fun s C hC=>⟨(by simp [nrB,nrL,nr]),(by simp [nrB,nrL,nr]),(by simp [nrB,nrL,nr]),(by simp [nrB,nrL,nr]),(by simp [nrB]),(by simp [nrB]),hC,(fun _ _ _ _=>nrR_en zV),(fun _ _ _ _=>nrR_en vH),trivial⟩) rfl ?_ (fun s o V hV H hn1_2 hn2_2=>?_) (fun e V H hVe=>?_)
    ·refine yH ⟨[some 0,some 1,some 2,some 3,some 4,some 5,some 6,some 7,none],?_,?_,by rfl,by rfl⟩
     ·simp [CvL,Cv,zQ,tp]
     ·exact ⟨cv,cv,cv,cv,zH,zH,(CvB_pcs zG),(yI nfA),qU,trivial⟩
    ·obtain ⟨v2_1,v2_2,v2_3⟩:=s
     replace hV:=hV.trans kB
     unfold dX at H
     try dsimp only at H hV ⊢
     try simp only [tp]
     cases hb:(bLt v2_1 (w1_1.length:Nat))
     ·replace H:=yM hb H
      refine frP zV ?_
      refine sq zA ?_
      simp only [go_sem,Nat.reduceAdd]
      refine zZ ?_
      refine yX rfl trivial (fun hc=>?_) (fun hc=>?_)
      ·simp [hb] at hc
      refine rg zA ?_
      simp only [go_sem]
      refine ⟨_,(Option.some.inj H).symm,rfl,?_⟩
      refine yH ⟨[some 0,some 1,some 2,some 3,some 4,some 5,some 6,some 7,some 8],?_,?_,by rfl,by rfl⟩
      ·simp [CvL,Cv,zQ]
      ·exact ⟨cv,cv,cv,cv,zH,zH,(CvB_pcs zG),(yI nfA),zW vH cl (fun _ _ _ _=>rfl),trivial⟩
     replace H:=xH hb H
     obtain ⟨hin,H⟩:=zN.1 H
     replace hin:=xD.1 hin
     refine unparkP zV v2_1.toNat 2 6 (l:=(gd v2_2 v2_1.toNat).Held) (by rw [cT (by omega)];rfl) (by rfl) (fun v hv=>by simp [pcC,tV,valAt_get hv]) ?_
     simp only [aC,aN,List.set_cons_succ,List.set_cons_zero,lCl,lNl,Nat.reduceAdd]
     refine frP zV ?_
     refine sq zA ?_
     simp only [go_sem]
     refine zZ ?_
     refine yX rfl trivial (fun hc=>?_) (fun hc=>?_)
     rotate_left
     ·simp [hb] at hc
     refine rg zA ?_
     simp only [go_sem]
     refine zZ ?_
     refine uJ ?_
     refine sq zA ?_
     simp only [go_sem]
     refine jB ?_
     obtain ⟨f16,H⟩:=zN.1 H
     replace f16:=xD.1 f16
     refine xS zO zA 6 ?_
     simp only [zK,tS,tZ,dSl,dZ,go_sem,Nat.reduceLeDiff,Nat.reduceLT,Nat.reduceAdd,f16]
     repeat ((with_reducible refine aI ?_ ?_);exact an0)
     refine cM (rs:=[]) Try.func66 (by kernel_rfl) rfl rfl Try.ntmps66 (caps:=[.ptr 0 0 0 0,.ptr 1 0 0 0,.ptr 2 0 0 0]) (tc:=[.ptr 6 3 v2_1.toNat 2,.ptr 0 0 0 0,.ptr 1 0 0 0,.ptr 2 0 0 0]) rfl (by simp only [go_sem]) rfl ?_
     simp only [lCl,lNl,Nat.reduceAdd,Nat.reduceSub,rS,rZ,aC,aN]
     refine jB ?_
     refine xS zO zA 5 ?_
     simp only [zK,tS,tZ,dSl,dZ,go_sem,Nat.reduceLT,Nat.reduceAdd,Nat.reduceSub]
     repeat ((with_reducible refine aI ?_ ?_);exact an0)
     refine cM (rs:=[.tmp 4]) Try.func67 (by kernel_rfl) rfl rfl Try.ntmps67 (caps:=[]) (tc:=[.sl 9 43 0 ((gd v2_2 v2_1.toNat).Held.length) false,.fn 68 [.ptr 0 0 0 0,.ptr 1 0 0 0,.ptr 2 0 0 0]]) rfl (by simp only [go_sem]) rfl ?_
     simp only [lCl,lNl,Nat.reduceAdd,Nat.reduceSub,rS,rZ,aC,aN]
     refine sq zA ?_
     simp only [go_sem]
     refine zZ ?_
     refine jB ?_
     refine xS zO zA 2 ?_
     simp only [zK,tS,tZ,dSl,dZ,go_sem]
     repeat ((with_reducible refine aI ?_ ?_);exact an0)
     refine cM (rs:=[.tmp 4]) Try.func58 (by kernel_rfl) rfl rfl Try.ntmps58 (caps:=[]) (tc:=[.sl 9 43 0 ((gd v2_2 v2_1.toNat).Held.length) false,.fn 68 [.ptr 0 0 0 0,.ptr 1 0 0 0,.ptr 2 0 0 0]]) rfl (by simp only [go_sem]) rfl ?_
     simp only [lCl,lNl,Nat.reduceAdd,Nat.reduceSub,rS,rZ,aC,aN]
     refine sq zA ?_
     simp only [go_sem]
     refine zZ ?_
     refine sq zA ?_
     simp only [go_sem]
     repeat ((with_reducible refine aI ?_ ?_);exact an0)
     refine uJ ?_
     refine wX (fun s:Int=>(.sl 9 43 0 ((gd v2_2 v2_1.toNat).Held.length) false::.fn 68 [.ptr 0 0 0 0,.ptr 1 0 0 0,.ptr 2 0 0 0]::tp 5 (.int .i64 ((gd v2_2 v2_1.toNat).Held.length:Nat)::.int .i64 s::tp 10 []))) (fun s=>[.lit 25 [.int .i64 p0.Limit,.int .i64 p0.Stay,.sl 6 3 0 v2_2.length false,.sl 7 43 0 r14.length false],.lit 3 [.int .i64 p1],.lit 52 [.sl 8 41 0 v2_3.length false],.lit 25 [.int .i64 0,.int .i64 0,.ro 0 0 true (fun _ _=>.top),.ro 0 0 true (fun _ _=>.top)],.dead,.dead,.row 57 3 v2_2.length (upc (pcC zC 2 tV v2_2 V) v2_1.toNat 2 [.sl 9 43 0 ((gd v2_2 v2_1.toNat).Held.length) false]),.row 61 43 r14.length (enR zJ r14),.row 33 41 v2_3.length (enR yD v2_3),.row 61 43 ((gd v2_2 v2_1.toNat).Held.length) (enR zJ ((gd v2_2 v2_1.toNat).Held))]) (fun e:Unit=>(tp 19 [])) (fun e=>[.lit 25 [.int .i64 p0.Limit,.int .i64 p0.Stay,.sl 6 3 0 v2_2.length false,.sl 7 43 0 r14.length false],.lit 3 [.int .i64 p1],.lit 52 [.sl 8 41 0 v2_3.length false],.lit 25 [.int .i64 0,.int .i64 0,.ro 0 0 true (fun _ _=>.top),.ro 0 0 true (fun _ _=>.top)],.dead,.dead,.row 57 3 v2_2.length (upc (pcC zC 2 tV v2_2 V) v2_1.toNat 2 [.sl 9 43 0 ((gd v2_2 v2_1.toNat).Held.length) false]),.row 61 43 r14.length (enR zJ r14),.row 33 41 v2_3.length (enR yD v2_3),.row 61 43 ((gd v2_2 v2_1.toNat).Held.length) (enR zJ ((gd v2_2 v2_1.toNat).Held))]) H ?_ (fun v3_1 o H hn1_3 hn2_3=>?_) (fun e H=>?_)
     ·refine yH ⟨[some 0,some 1,some 2,some 3,some 4,some 5,some 6,some 7,some 8,some 9],?_,?_,by rfl,by rfl⟩
      ·simp [CvL,Cv,zQ,tp]
      ·exact ⟨cv,cv,cv,cv,zH,zH,(tX (i:=v2_1.toNat) (C:=pcC zC 2 tV v2_2 V) cl (yC zG) (fun x y hx=>by simp only [yP hx]) (fun x y hx=>by simp only [yP hx]) (fun y hy=>match y,hy with|0,_=>(by simp only [wH,and_false,if_false,reduceCtorEq];first|exact yJ _ (yC zG _ _)|(simp [Cv,zQ];done)|(simp [Cv,zQ];omega))|1,_=>(by simp only [wH,and_false,if_false,Nat.reduceEqDiff];first|exact yJ _ (yC zG _ _)|(simp [Cv,zQ];done)|(simp [Cv,zQ];omega))|2,_=>(by simp only [wH,and_true,if_true];first|exact yJ _ (yC zG _ _)|(simp [Cv,zQ];done)|(simp [Cv,zQ];omega))|(y+3),h=>absurd h nlt)),(yI nfA),(yI nfA),(yI nfA),trivial⟩
     ·unfold dY at H
      try dsimp only at H ⊢
      try simp only [tp]
      refine sq zA ?_
      simp only [go_sem,Nat.reduceAdd]
      refine zZ ?_
      refine condM' rfl trivial (fun hc=>?_) (fun hc=>?_)
      ·have hk17:(bLt v3_1 ((gd v2_2 v2_1.toNat).Held.length:Nat))=false:=by simpa using hc
       replace H:=yM hc H
       refine rg zA ?_
       simp only [go_sem]
       refine ⟨_,(Option.some.inj H).symm,?_⟩
       refine yH ⟨[some 0,some 1,some 2,some 3,some 4,some 5,some 6,some 7,some 8,some 9],?_,?_,by rfl,by rfl⟩
       ·simp [CvL,Cv]
       ·exact ⟨cv,cv,cv,cv,zH,zH,(tX (i:=v2_1.toNat) (C:=pcC zC 2 tV v2_2 V) cl (yC zG) (fun x y hx=>by simp only [yP hx]) (fun x y hx=>by simp only [yP hx]) (fun y hy=>match y,hy with|0,_=>(by simp only [wH,and_false,if_false,reduceCtorEq];first|exact yJ _ (yC zG _ _)|(simp [Cv,zQ];done)|(simp [Cv,zQ];omega))|1,_=>(by simp only [wH,and_false,if_false,Nat.reduceEqDiff];first|exact yJ _ (yC zG _ _)|(simp [Cv,zQ];done)|(simp [Cv,zQ];omega))|2,_=>(by simp only [wH,and_true,if_true];first|exact yJ _ (yC zG _ _)|(simp [Cv,zQ];done)|(simp [Cv,zQ];omega))|(y+3),h=>absurd h nlt)),(yI nfA),(yI nfA),(yI nfA),trivial⟩
      have hk17:(bLt v3_1 ((gd v2_2 v2_1.toNat).Held.length:Nat))=true:=by simpa using hc
      replace H:=xH hc H
      refine rg zA ?_
      simp only [go_sem]
      refine zZ ?_
      refine uJ ?_
      refine sq zA ?_
      simp only [go_sem]
      refine zZ ?_
      refine jB ?_
      obtain ⟨f18,H⟩:=zN.1 H
      replace f18:=xD.1 f18
      refine xS zO zA 5 ?_
      simp only [zK,tS,tZ,dSl,dZ,go_sem,Nat.reduceLT,Nat.reduceAdd,f18]
      repeat ((with_reducible refine aI ?_ ?_);exact an0)
      refine cM (rs:=[.tmp 5]) Try.func68 (by kernel_rfl) rfl rfl Try.ntmps68 (caps:=[.ptr 0 0 0 0,.ptr 1 0 0 0,.ptr 2 0 0 0]) (tc:=[.agg (.int .u8 ((gd ((gd v2_2 v2_1.toNat).Held) v3_1.toNat).Cat)::.int .i64 ((gd ((gd v2_2 v2_1.toNat).Held) v3_1.toNat).At)::hC (((gd ((gd v2_2 v2_1.toNat).Held) v3_1.toNat).Frame).Head) (.ro 1 ((((gd ((gd v2_2 v2_1.toNat).Held) v3_1.toNat).Frame).Body).length) false (enR qD (((gd ((gd v2_2 v2_1.toNat).Held) v3_1.toNat).Frame).Body))::[])),.ptr 0 0 0 0,.ptr 1 0 0 0,.ptr 2 0 0 0]) rfl (by simp only [go_sem]) rfl ?_
      simp only [lCl,lNl,Nat.reduceAdd,Nat.reduceSub,rS,rZ,aC,aN]
      refine sq zA ?_
      simp only [go_sem,Nat.reduceAdd]
      refine sq zA ?_
      simp only [go_sem,Nat.reduceLeDiff,Nat.reduceLT,Nat.reduceAdd]
      repeat ((with_reducible refine aI ?_ ?_);exact an5)
      refine zZ ?_
      refine sq zA ?_
      simp only [go_sem]
      refine condM' rfl trivial (fun hc=>?_) (fun hc=>?_)
      ·have hk19:(bLe (wr .i64 (((gd ((gd v2_2 v2_1.toNat).Held) v3_1.toNat).At)+p0.Stay)) p1)=false:=by simpa using hc
       replace H:=yM hc H
       refine rg zA ?_
       simp only [go_sem]
       refine sq zA ?_
       simp only [go_sem]
       refine rg zA ?_
       simp only [go_sem]
       refine xS zO zA 0 ?_
       simp only [zK,tZ,dZ,go_sem]
       repeat ((with_reducible refine aI ?_ ?_);exact an0)
       refine vN ?_
       refine yX rfl trivial (fun hc=>?_) (fun hc=>?_)
       ·simp [hk19] at hc
       refine rg zA ?_
       simp only [go_sem]
       refine rg zA ?_
       simp only [go_sem]
       refine ⟨_,(Option.some.inj H).symm,?_⟩
       refine yH ⟨[some 0,some 1,some 2,some 3,some 4,some 5,some 6,some 7,some 8,some 9],?_,?_,by rfl,by rfl⟩
       ·simp [CvL,Cv,zQ]
       ·exact ⟨cv,cv,cv,cv,zH,zH,(tX (i:=v2_1.toNat) (C:=pcC zC 2 tV v2_2 V) cl (yC zG) (fun x y hx=>by simp only [yP hx]) (fun x y hx=>by simp only [yP hx]) (fun y hy=>match y,hy with|0,_=>(by simp only [wH,and_false,if_false,reduceCtorEq];first|exact yJ _ (yC zG _ _)|(simp [Cv,zQ];done)|(simp [Cv,zQ];omega))|1,_=>(by simp only [wH,and_false,if_false,Nat.reduceEqDiff];first|exact yJ _ (yC zG _ _)|(simp [Cv,zQ];done)|(simp [Cv,zQ];omega))|2,_=>(by simp only [wH,and_true,if_true];first|exact yJ _ (yC zG _ _)|(simp [Cv,zQ];done)|(simp [Cv,zQ];omega))|(y+3),h=>absurd h nlt)),(yI nfA),(yI nfA),(yI nfA),trivial⟩
      have hk19:(bLe (wr .i64 (((gd ((gd v2_2 v2_1.toNat).Held) v3_1.toNat).At)+p0.Stay)) p1)=true:=by simpa using hc
      replace H:=xH hc H
      obtain ⟨f20,H⟩:=zN.1 H
      replace f20:=capb_iff.1 f20
      refine rg zA ?_
      simp only [go_sem,Nat.reduceLeDiff,Nat.reduceLT,Nat.reduceAdd,Nat.reduceBEq,reduceCtorEq,f20]
      repeat ((with_reducible refine aI ?_ ?_);exact an1)
      refine sq zA ?_
      simp only [go_sem]
      refine rg zA ?_
      simp only [go_sem]
      refine xS zO zA 0 ?_
      simp only [zK,tZ,dZ,go_sem]
      repeat ((with_reducible refine aI ?_ ?_);exact an1)
      refine vN ?_
      refine yX rfl trivial (fun hc=>?_) (fun hc=>?_)
      rotate_left
      ·simp [hk19] at hc
      refine sq zA ?_
      simp only [go_sem]
      refine rg zA ?_
      simp only [go_sem]
      obtain ⟨q29,H,hq30⟩:=bsi H
      replace hq30:=hn2_3 _ (Option.some.inj hq30).symm
      obtain rfl:=(Option.some.inj hq30).symm
      refine xS zO zA 1 ?_
      simp only [zK,tS,tZ,dSl,dZ,go_sem]
      repeat ((with_reducible refine aI ?_ ?_);exact an1)
      refine vN ?_
      refine zZ ?_
      refine sq zA ?_
      simp only [go_sem]
      refine yX rfl trivial (fun hc=>?_) (fun hc=>?_)
      ·have hk21:(bEq v3_1 (-1))=true:=by simpa using hc
       replace H:=xH hc H
       refine sq zA ?_
       simp only [go_sem]
       refine rg zA ?_
       simp only [go_sem]
       refine xS zO zA 2 ?_
       simp only [zK,tS,tZ,dSl,dZ,go_sem,Nat.reduceAdd]
       repeat ((with_reducible refine aI ?_ ?_);exact an1)
       refine vN ?_
       try simp only [go_sem]
       refine xS zO zA 0 ?_
       simp only [zK,tZ,dZ,go_sem]
       repeat ((with_reducible refine aI ?_ ?_);exact an1)
       refine vN ?_
       refine rg zA ?_
       simp only [go_sem]
       obtain ⟨hz,H⟩:=zN.1 H
       have hz:v2_1 < 1000000:=by simpa [bLt] using hz
       have hwr:(wr .i64 (v2_1+1)).toNat=v2_1.toNat+1:=by rw [wr_in (by omega)];omega
       refine kLP_next2 (g:=zC) (held:=fun x=>x.Held) (L:=v2_2) (i:=v2_1.toNat) (a:=(gd v2_2 v2_1.toNat)) zG (Option.some.inj H).symm (by omega) hV List.length_set (fun V=>rfl) rfl (fun y h1 h2=>match y,h1,h2 with|0,_,_=>rfl|1,_,_=>rfl|2,h,_=>absurd rfl h|(y+3),_,h=>absurd h nlt) ?_
       refine yH ⟨[some 0,some 1,some 2,some 3,some 4,some 5,some 6,some 7,some 12,some 9],?_,?_,by rfl,by rfl⟩
       ·simp [CvL,Cv,zQ]
       ·exact ⟨cv,cv,cv,cv,zH,zH,(tX (i:=v2_1.toNat) (C:=pcC zC 2 tV v2_2 V) cl (yC zG) (fun x y hx=>by simp only [yP hx]) (fun x y hx=>by simp only [yP hx]) (fun y hy=>match y,hy with|0,_=>(by simp only [wH,and_false,if_false,reduceCtorEq];first|exact yJ _ (yC zG _ _)|(simp [Cv,zQ];done)|(simp [Cv,zQ];omega))|1,_=>(by simp only [wH,and_false,if_false,Nat.reduceEqDiff];first|exact yJ _ (yC zG _ _)|(simp [Cv,zQ];done)|(simp [Cv,zQ];omega))|2,_=>(by simp only [wH,and_true,if_true];first|exact yJ _ (yC zG _ _)|(simp [Cv,zQ];done)|(simp [Cv,zQ];omega))|(y+3),h=>absurd h nlt)),(yI nfA),zW vH cl (vQ (f:=yD) v2_3 [(eF ((gd ((gd v2_2 v2_1.toNat).Held) v3_1.toNat).Frame))] (fun _ _ _ _=>rfl) (dS ds_TFrame (xR (f:=tG) [(eF ((gd ((gd v2_2 v2_1.toNat).Held) v3_1.toNat).Frame))] (fun _ _=>rfl) rfl))),zW zV cl (fun _ _ _ _=>rfl),trivial⟩
      have hk21:(bEq v3_1 (-1))=false:=by simpa using hc
      replace H:=yM hc H
      refine rg zA ?_
      simp only [go_sem]
      refine zZ ?_
      refine sq zA ?_
      simp only [go_sem]
      refine uJ ?_
      refine wX (fun s:Int × (List TFrame) × (List TStored) × Int=>(.sl 14 43 0 s.2.2.1.length false::.fn 68 [.ptr 0 0 0 0,.ptr 1 0 0 0,.ptr 2 0 0 0]::.top::.top::.top::.int .i64 s.2.2.2::.int .i64 s.1::tp 35 [])) (fun s=>[.lit 25 [.int .i64 p0.Limit,.int .i64 p0.Stay,.sl 6 3 0 v2_2.length false,.sl 7 43 0 r14.length false],.lit 3 [.int .i64 p1],.lit 52 [.sl 13 41 0 s.2.1.length false],.lit 25 [.int .i64 0,.int .i64 0,.ro 0 0 true (fun _ _=>.top),.ro 0 0 true (fun _ _=>.top)],.dead,.dead,.row 57 3 v2_2.length (upc (pcC zC 2 tV v2_2 V) v2_1.toNat 2 [.sl 14 43 0 s.2.2.1.length false]),.row 61 43 r14.length (enR zJ r14),.dead,.dead,.dead,.dead,.dead,.row 33 41 s.2.1.length (enR yD s.2.1),.row 61 43 s.2.2.1.length (enR zJ s.2.2.1)]) (fun e:(List TStored) × Int × (List TFrame)=>(.sl 13 43 0 e.1.length false::tp 4 (.int .i64 e.2.1::tp 36 []))) (fun e=>[.lit 25 [.int .i64 p0.Limit,.int .i64 p0.Stay,.sl 6 3 0 v2_2.length false,.sl 7 43 0 r14.length false],.lit 3 [.int .i64 p1],.lit 52 [.sl 14 41 0 e.2.2.length false],.lit 25 [.int .i64 0,.int .i64 0,.ro 0 0 true (fun _ _=>.top),.ro 0 0 true (fun _ _=>.top)],.dead,.dead,.row 57 3 v2_2.length (upc (pcC zC 2 tV v2_2 V) v2_1.toNat 2 [.sl 13 43 0 e.1.length false]),.row 61 43 r14.length (enR zJ r14),.dead,.dead,.dead,.dead,.dead,.row 61 43 e.1.length (enR zJ e.1),.row 33 41 e.2.2.length (enR yD e.2.2)]) H ?_ (fun s o H hn1_4 hn2_4=>?_) (fun e H=>?_)
      ·refine yH ⟨[some 0,some 1,some 2,some 3,some 4,some 5,some 6,some 7,some 8,some 9,some 10,some 11,some 12,some 12,some 9],?_,?_,by rfl,by rfl⟩
       ·simp [CvL,Cv,zQ,tp]
       ·exact ⟨cv,cv,cv,cv,zH,zH,(tX (i:=v2_1.toNat) (C:=pcC zC 2 tV v2_2 V) cl (yC zG) (fun x y hx=>by simp only [yP hx]) (fun x y hx=>by simp only [yP hx]) (fun y hy=>match y,hy with|0,_=>(by simp only [wH,and_false,if_false,reduceCtorEq];first|exact yJ _ (yC zG _ _)|(simp [Cv,zQ];done)|(simp [Cv,zQ];omega))|1,_=>(by simp only [wH,and_false,if_false,Nat.reduceEqDiff];first|exact yJ _ (yC zG _ _)|(simp [Cv,zQ];done)|(simp [Cv,zQ];omega))|2,_=>(by simp only [wH,and_true,if_true];first|exact yJ _ (yC zG _ _)|(simp [Cv,zQ];done)|(simp [Cv,zQ];omega))|(y+3),h=>absurd h nlt)),(yI nfA),zH,zH,zH,zH,zH,zW vH cl (vQ (f:=yD) v2_3 [(eF ((gd ((gd v2_2 v2_1.toNat).Held) v3_1.toNat).Frame))] (fun _ _ _ _=>rfl) (dS ds_TFrame (xR (f:=tG) [(eF ((gd ((gd v2_2 v2_1.toNat).Held) v3_1.toNat).Frame))] (fun _ _=>rfl) rfl))),zW zV cl (fun _ _ _ _=>rfl),trivial⟩
      ·obtain ⟨v4_1,v4_2,v4_3,v4_4⟩:=s
       unfold bR at H
       try dsimp only at H ⊢
       try simp only [tp]
       refine zZ ?_
       refine sq zA ?_
       simp only [go_sem,Nat.reduceAdd]
       repeat ((with_reducible refine aI ?_ ?_);exact an0)
       refine condM' rfl trivial (fun hc=>?_) (fun hc=>?_)
       ·have hk22:(bLt v4_1 (v4_3.length:Nat))=false:=by simpa using hc
        replace H:=yM hc H
        refine rg zA ?_
        simp only [go_sem]
        refine ⟨_,(Option.some.inj H).symm,?_⟩
        refine yH ⟨[some 0,some 1,some 2,some 3,some 4,some 5,some 6,some 7,some 8,some 9,some 10,some 11,some 12,some 14,some 13],?_,?_,by rfl,by rfl⟩
        ·simp [CvL,Cv,zQ]
        ·exact ⟨cv,cv,cv,cv,zH,zH,(tX (i:=v2_1.toNat) (C:=pcC zC 2 tV v2_2 V) cl (yC zG) (fun x y hx=>by simp only [yP hx]) (fun x y hx=>by simp only [yP hx]) (fun y hy=>match y,hy with|0,_=>(by simp only [wH,and_false,if_false,reduceCtorEq];first|exact yJ _ (yC zG _ _)|(simp [Cv,zQ];done)|(simp [Cv,zQ];omega))|1,_=>(by simp only [wH,and_false,if_false,Nat.reduceEqDiff];first|exact yJ _ (yC zG _ _)|(simp [Cv,zQ];done)|(simp [Cv,zQ];omega))|2,_=>(by simp only [wH,and_true,if_true];first|exact yJ _ (yC zG _ _)|(simp [Cv,zQ];done)|(simp [Cv,zQ];omega))|(y+3),h=>absurd h nlt)),(yI nfA),zH,zH,zH,zH,zH,zW zV cl (fun _ _ _ _=>rfl),zW vH cl (fun _ _ _ _=>rfl),trivial⟩
       have hk22:(bLt v4_1 (v4_3.length:Nat))=true:=by simpa using hc
       replace H:=xH hc H
       refine rg zA ?_
       simp only [go_sem]
       refine zZ ?_
       refine uJ ?_
       refine zZ ?_
       obtain ⟨f23,H⟩:=zN.1 H
       replace f23:=xD.1 f23
       refine rg zA ?_
       simp only [go_sem,Nat.reduceLT,Nat.reduceAdd,f23]
       repeat ((with_reducible refine aI ?_ ?_);exact an5)
       refine zZ ?_
       refine jB ?_
       refine xS zO zA 2 ?_
       simp only [zK,tS,tZ,dSl,dZ,go_sem,Nat.reduceLT,Nat.reduceAdd]
       repeat ((with_reducible refine aI ?_ ?_);exact an0)
       refine cM (rs:=[.tmp 5]) Try.func68 (by kernel_rfl) rfl rfl Try.ntmps68 (caps:=[.ptr 0 0 0 0,.ptr 1 0 0 0,.ptr 2 0 0 0]) (tc:=[.agg (.int .u8 ((gd v4_3 v4_1.toNat).Cat)::.int .i64 ((gd v4_3 v4_1.toNat).At)::hC (((gd v4_3 v4_1.toNat).Frame).Head) (.ro 1 ((((gd v4_3 v4_1.toNat).Frame).Body).length) false (enR qD (((gd v4_3 v4_1.toNat).Frame).Body))::[])),.ptr 0 0 0 0,.ptr 1 0 0 0,.ptr 2 0 0 0]) rfl (by simp only [go_sem]) rfl ?_
       simp only [lCl,lNl,Nat.reduceAdd,Nat.reduceSub,rS,rZ,aC,aN]
       refine sq zA ?_
       simp only [go_sem,Nat.reduceAdd]
       refine sq zA ?_
       simp only [go_sem,Nat.reduceLeDiff,Nat.reduceLT,Nat.reduceAdd]
       repeat ((with_reducible refine aI ?_ ?_);exact an5)
       refine zZ ?_
       refine sq zA ?_
       simp only [go_sem]
       refine yX rfl trivial (fun hc=>?_) (fun hc=>?_)
       ·have hk24:(bLe (wr .i64 (((gd v4_3 v4_1.toNat).At)+p0.Stay)) p1)=true:=by simpa using hc
        replace H:=xH hc H
        obtain ⟨f25,H⟩:=zN.1 H
        replace f25:=capb_iff.1 f25
        refine rg zA ?_
        simp only [go_sem,Nat.reduceLeDiff,Nat.reduceLT,Nat.reduceAdd,Nat.reduceBEq,reduceCtorEq,f25]
        repeat ((with_reducible refine aI ?_ ?_);exact an1)
        refine sq zA ?_
        simp only [go_sem]
        refine rg zA ?_
        simp only [go_sem]
        refine xS zO zA 1 ?_
        simp only [zK,tS,tZ,dSl,dZ,go_sem]
        repeat ((with_reducible refine aI ?_ ?_);exact an1)
        refine vN ?_
        refine yX rfl trivial (fun hc=>?_) (fun hc=>?_)
        ·simp [hk24] at hc
        refine rg zA ?_
        simp only [go_sem]
        refine rg zA ?_
        simp only [go_sem]
        refine ⟨_,(Option.some.inj H).symm,?_⟩
        refine yH ⟨[some 0,some 1,some 2,some 3,some 4,some 5,some 6,some 7,some 8,some 9,some 10,some 11,some 12,some 18,some 14],?_,?_,by rfl,by rfl⟩
        ·simp [CvL,Cv,zQ]
        ·exact ⟨cv,cv,cv,cv,zH,zH,(tX (i:=v2_1.toNat) (C:=pcC zC 2 tV v2_2 V) cl (yC zG) (fun x y hx=>by simp only [yP hx]) (fun x y hx=>by simp only [yP hx]) (fun y hy=>match y,hy with|0,_=>(by simp only [wH,and_false,if_false,reduceCtorEq];first|exact yJ _ (yC zG _ _)|(simp [Cv,zQ];done)|(simp [Cv,zQ];omega))|1,_=>(by simp only [wH,and_false,if_false,Nat.reduceEqDiff];first|exact yJ _ (yC zG _ _)|(simp [Cv,zQ];done)|(simp [Cv,zQ];omega))|2,_=>(by simp only [wH,and_true,if_true];first|exact yJ _ (yC zG _ _)|(simp [Cv,zQ];done)|(simp [Cv,zQ];omega))|(y+3),h=>absurd h nlt)),(yI nfA),zH,zH,zH,zH,zH,zW vH cl (vQ (f:=yD) v4_2 [(eF ((gd v4_3 v4_1.toNat).Frame))] (fun _ _ _ _=>rfl) (dS ds_TFrame (xR (f:=tG) [(eF ((gd v4_3 v4_1.toNat).Frame))] (fun _ _=>rfl) rfl))),zW zV cl (fun _ _ _ _=>rfl),trivial⟩
       have hk24:(bLe (wr .i64 (((gd v4_3 v4_1.toNat).At)+p0.Stay)) p1)=false:=by simpa using hc
       replace H:=yM hc H
       refine rg zA ?_
       simp only [go_sem]
       refine sq zA ?_
       simp only [go_sem]
       refine rg zA ?_
       simp only [go_sem]
       refine xS zO zA 1 ?_
       simp only [zK,tS,tZ,dSl,dZ,go_sem]
       repeat ((with_reducible refine aI ?_ ?_);exact an0)
       refine vN ?_
       refine yX rfl trivial (fun hc=>?_) (fun hc=>?_)
       rotate_left
       ·simp [hk24] at hc
       refine zZ ?_
       obtain ⟨f26,H⟩:=zN.1 H
       replace f26:=xD.1 f26
       refine rg zA ?_
       simp only [go_sem,Nat.reduceLT,Nat.reduceAdd,f26]
       repeat ((with_reducible refine aI ?_ ?_);exact an5)
       refine rg zA ?_
       simp only [go_sem]
       refine rg zA ?_
       simp only [go_sem]
       refine ⟨_,(Option.some.inj H).symm,?_⟩
       refine yH ⟨[some 0,some 1,some 2,some 3,some 4,some 5,some 6,some 7,some 8,some 9,some 10,some 11,some 12,some 13,some 14],?_,?_,by rfl,by rfl⟩
       ·simp [CvL,Cv,zQ]
       ·exact ⟨cv,cv,cv,cv,zH,zH,(tX (i:=v2_1.toNat) (C:=pcC zC 2 tV v2_2 V) cl (yC zG) (fun x y hx=>by simp only [yP hx]) (fun x y hx=>by simp only [yP hx]) (fun y hy=>match y,hy with|0,_=>(by simp only [wH,and_false,if_false,reduceCtorEq];first|exact yJ _ (yC zG _ _)|(simp [Cv,zQ];done)|(simp [Cv,zQ];omega))|1,_=>(by simp only [wH,and_false,if_false,Nat.reduceEqDiff];first|exact yJ _ (yC zG _ _)|(simp [Cv,zQ];done)|(simp [Cv,zQ];omega))|2,_=>(by simp only [wH,and_true,if_true];first|exact yJ _ (yC zG _ _)|(simp [Cv,zQ];done)|(simp [Cv,zQ];omega))|(y+3),h=>absurd h nlt)),(yI nfA),zH,zH,zH,zH,zH,zW vH cl (fun _ _ _ _=>rfl),zW zV cl (cY (f:=zJ) v4_3 v4_4.toNat 0 (TStored.mk ((gd v4_3 v4_1.toNat).Cat) ((gd v4_3 v4_1.toNat).At) (eF ((gd v4_3 v4_1.toNat).Frame))) (fun _ _ _ _=>rfl) (fun y hy=>match y,hy with|0,_=>rfl|1,_=>rfl|2,_=>rfl|3,_=>rfl|4,_=>rfl|5,_=>rfl|6,_=>rfl|7,_=>rfl|8,_=>rfl|9,_=>rfl|10,_=>rfl|11,_=>rfl|12,_=>rfl|13,_=>rfl|14,_=>rfl|15,_=>rfl|16,_=>rfl|17,_=>rfl|18,_=>rfl|19,_=>rfl|20,_=>rfl|21,_=>rfl|22,_=>rfl|23,_=>rfl|24,_=>rfl|25,_=>rfl|26,_=>rfl|27,_=>rfl|28,_=>rfl|29,_=>rfl|30,_=>rfl|31,_=>rfl|32,_=>rfl|33,_=>rfl|34,_=>rfl|35,_=>rfl|36,_=>rfl|37,_=>rfl|38,_=>rfl|39,_=>rfl|40,_=>rfl|41,_=>rfl|42,_=>rfl|(y+43),h=>absurd h nlt)),trivial⟩
      ·obtain ⟨w4_5,w4_6,w4_9⟩:=e
       try dsimp only at H ⊢
       try simp only [tp]
       try simp only [wJ]
       refine zZ ?_
       obtain ⟨f27,H⟩:=zN.1 H
       replace f27:=slb_iff.1 f27
       refine rg zA ?_
       simp only [go_sem,Nat.reduceLeDiff,Nat.reduceAdd,f27]
       repeat ((with_reducible refine aI ?_ ?_);exact an4)
       refine zZ ?_
       obtain ⟨f28,H⟩:=zN.1 H
       replace f28:=slb_iff.1 f28
       refine rg zA ?_
       simp only [go_sem,f28]
       repeat ((with_reducible refine aI ?_ ?_);exact an5)
       refine rg zA ?_
       simp only [go_sem]
       refine xS zO zA 2 ?_
       simp only [zK,tS,tZ,dSl,dZ,go_sem,Nat.reduceAdd]
       repeat ((with_reducible refine aI ?_ ?_);exact an4)
       refine vN ?_
       try simp only [go_sem]
       refine xS zO zA 0 ?_
       simp only [zK,tZ,dZ,go_sem]
       repeat ((with_reducible refine aI ?_ ?_);exact an4)
       refine vN ?_
       refine rg zA ?_
       simp only [go_sem]
       obtain ⟨hz,H⟩:=zN.1 H
       have hz:v2_1 < 1000000:=by simpa [bLt] using hz
       have hwr:(wr .i64 (v2_1+1)).toNat=v2_1.toNat+1:=by rw [wr_in (by omega)];omega
       refine kLP_next2 (g:=zC) (held:=fun x=>x.Held) (L:=v2_2) (i:=v2_1.toNat) (a:=(TSleeper.mk ((gd v2_2 v2_1.toNat).Aid) ((gd v2_2 v2_1.toNat).Asleep) (List.take w4_6.toNat w4_5))) zG (Option.some.inj H).symm (by omega) hV List.length_set (fun V=>rfl) rfl (fun y h1 h2=>match y,h1,h2 with|0,_,_=>rfl|1,_,_=>rfl|2,h,_=>absurd rfl h|(y+3),_,h=>absurd h nlt) ?_
       refine yH ⟨[some 0,some 1,some 2,some 3,some 4,some 5,some 6,some 7,some 14,some 13],?_,?_,by rfl,by rfl⟩
       ·simp [CvL,Cv,zQ]
       ·exact ⟨cv,cv,cv,cv,zH,zH,(tX (i:=v2_1.toNat) (C:=pcC zC 2 tV v2_2 V) cl (yC zG) (fun x y hx=>by simp only [yP hx]) (fun x y hx=>by simp only [yP hx]) (fun y hy=>match y,hy with|0,_=>(by simp only [wH,and_false,if_false,reduceCtorEq];first|exact yJ _ (yC zG _ _)|(simp [Cv,zQ,(show (List.take w4_6.toNat w4_5).length=w4_6.toNat from tI (n:=w4_5.length) cl (by omega))];done)|(simp [Cv,zQ,(show (List.take w4_6.toNat w4_5).length=w4_6.toNat from tI (n:=w4_5.length) cl (by omega))];omega))|1,_=>(by simp only [wH,and_false,if_false,Nat.reduceEqDiff];first|exact yJ _ (yC zG _ _)|(simp [Cv,zQ,(show (List.take w4_6.toNat w4_5).length=w4_6.toNat from tI (n:=w4_5.length) cl (by omega))];done)|(simp [Cv,zQ,(show (List.take w4_6.toNat w4_5).length=w4_6.toNat from tI (n:=w4_5.length) cl (by omega))];omega))|2,_=>(by simp only [wH,and_true,if_true];first|exact yJ _ (yC zG _ _)|(simp [Cv,zQ,(show (List.take w4_6.toNat w4_5).length=w4_6.toNat from tI (n:=w4_5.length) cl (by omega))];done)|(simp [Cv,zQ,(show (List.take w4_6.toNat w4_5).length=w4_6.toNat from tI (n:=w4_5.length) cl (by omega))];omega))|(y+3),h=>absurd h nlt)),(yI nfA),zW vH cl (fun _ _ _ _=>rfl),(CvB_pre zV (by rw [show (List.take w4_6.toNat w4_5).length=w4_6.toNat from tI (n:=w4_5.length) cl (by omega)];omega) (clr_row (fun _ _ _ _=>rfl))),trivial⟩
     ·try dsimp only at H ⊢
      try simp only [tp]
      try simp only [wJ]
      refine sq zA ?_
      simp only [go_sem]
      refine rg zA ?_
      simp only [go_sem]
      refine xS zO zA 1 ?_
      simp only [zK,tS,tZ,dSl,dZ,go_sem]
      repeat ((with_reducible refine aI ?_ ?_);exact an0)
      refine vN ?_
      refine zZ ?_
      refine sq zA ?_
      simp only [go_sem,(by decide:bEq ((-1)) ((-1))=true)]
      refine yX rfl trivial (fun hc=>?_) (fun hc=>?_)
      rotate_left
      ·cases hc
      refine sq zA ?_
      simp only [go_sem]
      refine rg zA ?_
      simp only [go_sem]
      refine xS zO zA 2 ?_
      simp only [zK,tS,tZ,dSl,dZ,go_sem,Nat.reduceAdd]
      repeat ((with_reducible refine aI ?_ ?_);exact an0)
      refine vN ?_
      try simp only [go_sem]
      refine xS zO zA 0 ?_
      simp only [zK,tZ,dZ,go_sem]
      repeat ((with_reducible refine aI ?_ ?_);exact an0)
      refine vN ?_
      refine rg zA ?_
      simp only [go_sem]
      obtain ⟨hz,H⟩:=zN.1 H
      have hz:v2_1 < 1000000:=by simpa [bLt] using hz
      have hwr:(wr .i64 (v2_1+1)).toNat=v2_1.toNat+1:=by rw [wr_in (by omega)];omega
      refine kLP_next2 (g:=zC) (held:=fun x=>x.Held) (L:=v2_2) (i:=v2_1.toNat) (a:=(gd v2_2 v2_1.toNat)) zG (Option.some.inj H).symm (by omega) hV List.length_set (fun V=>rfl) rfl (fun y h1 h2=>match y,h1,h2 with|0,_,_=>rfl|1,_,_=>rfl|2,h,_=>absurd rfl h|(y+3),_,h=>absurd h nlt) ?_
      refine yH ⟨[some 0,some 1,some 2,some 3,some 4,some 5,some 6,some 7,some 8,some 9],?_,?_,by rfl,by rfl⟩
      ·simp [CvL,Cv,zQ]
      ·exact ⟨cv,cv,cv,cv,zH,zH,(tX (i:=v2_1.toNat) (C:=pcC zC 2 tV v2_2 V) cl (yC zG) (fun x y hx=>by simp only [yP hx]) (fun x y hx=>by simp only [yP hx]) (fun y hy=>match y,hy with|0,_=>(by simp only [wH,and_false,if_false,reduceCtorEq];first|exact yJ _ (yC zG _ _)|(simp [Cv,zQ];done)|(simp [Cv,zQ];omega))|1,_=>(by simp only [wH,and_false,if_false,Nat.reduceEqDiff];first|exact yJ _ (yC zG _ _)|(simp [Cv,zQ];done)|(simp [Cv,zQ];omega))|2,_=>(by simp only [wH,and_true,if_true];first|exact yJ _ (yC zG _ _)|(simp [Cv,zQ];done)|(simp [Cv,zQ];omega))|(y+3),h=>absurd h nlt)),(yI nfA),zW vH cl (fun _ _ _ _=>rfl),zW zV cl (fun _ _ _ _=>rfl),trivial⟩
    ·obtain ⟨w2_1,w2_2⟩:=e
     try dsimp only at H ⊢
     try simp only [tp]
     try simp only [xY]
     refine thawP zV 2 6 (enR zT w2_1) (by rfl) (by rw [kB];exact Nat.le_refl _) (fun x v hx hv=>by simp [pcC,tV,valAt_get hv]) (fun x y l hx hy hl=>by rw [cT hx] at hl;simp only [tV,cond_true,Option.some.injEq] at hl;subst hl;exact match y,hy with|0,_=>(by simp [pcC,enR,zL,zC,zT,uI,aC,aN])|1,_=>(by simp [pcC,enR,zL,zC,zT,uI,aC,aN])|2,_=>(by simp [enR,zL,zT,uI,aC,aN])|(y+3),h=>absurd h nlt) ?_
     simp only [List.set_cons_succ,List.set_cons_zero]
     refine rb ?_
     simp only [rL0,rL1,rH0,rH1,rB0,rBl,dE,bH,bI,r_sl,bG,bJ,r_fn,r_z,rBs,rBq,rBf,vJ,xP,xW]
     refine zZ ?_
     refine jB ?_
     refine xS zO zA 2 ?_
     simp only [zK,tS,tZ,dSl,dZ,go_sem]
     repeat ((with_reducible refine aI ?_ ?_);exact an0)
     refine cM (rs:=[]) Try.func66 (by kernel_rfl) rfl rfl Try.ntmps66 (caps:=[.ptr 0 0 0 0,.ptr 1 0 0 0,.ptr 2 0 0 0]) (tc:=[.ptr 0 0 0 3,.ptr 0 0 0 0,.ptr 1 0 0 0,.ptr 2 0 0 0]) rfl (by simp only [go_sem]) rfl ?_
     simp only [lCl,lNl,Nat.reduceAdd,Nat.reduceSub,rS,rZ,aC,aN]
     refine jB ?_
     refine xS zO zA 5 ?_
     simp only [zK,tS,tZ,dSl,dZ,go_sem,Nat.reduceLT,Nat.reduceAdd]
     repeat ((with_reducible refine aI ?_ ?_);exact an0)
     refine cM (rs:=[.tmp 4]) Try.func67 (by kernel_rfl) rfl rfl Try.ntmps67 (caps:=[]) (tc:=[.sl 7 43 0 r14.length false,.fn 68 [.ptr 0 0 0 0,.ptr 1 0 0 0,.ptr 2 0 0 0]]) rfl (by simp only [go_sem]) rfl ?_
     simp only [lCl,lNl,Nat.reduceAdd,Nat.reduceSub,rS,rZ,aC,aN]
     refine sq zA ?_
     simp only [go_sem]
     refine zZ ?_
     refine jB ?_
     refine xS zO zA 2 ?_
     simp only [zK,tS,tZ,dSl,dZ,go_sem]
     repeat ((with_reducible refine aI ?_ ?_);exact an0)
     refine cM (rs:=[.tmp 4]) Try.func58 (by kernel_rfl) rfl rfl Try.ntmps58 (caps:=[]) (tc:=[.sl 7 43 0 r14.length false,.fn 68 [.ptr 0 0 0 0,.ptr 1 0 0 0,.ptr 2 0 0 0]]) rfl (by simp only [go_sem]) rfl ?_
     simp only [lCl,lNl,Nat.reduceAdd,Nat.reduceSub,rS,rZ,aC,aN]
     refine sq zA ?_
     simp only [go_sem]
     refine zZ ?_
     refine sq zA ?_
     simp only [go_sem]
     repeat ((with_reducible refine aI ?_ ?_);exact an0)
     refine uJ ?_
     refine wX (fun s:Int=>(.sl 7 43 0 r14.length false::.fn 68 [.ptr 0 0 0 0,.ptr 1 0 0 0,.ptr 2 0 0 0]::tp 5 (.int .i64 (r14.length:Nat)::.int .i64 s::tp 10 []))) (fun s=>[.lit 25 [.int .i64 p0.Limit,.int .i64 p0.Stay,.sl 6 3 0 w2_1.length false,.sl 7 43 0 r14.length false],.lit 3 [.int .i64 p1],.lit 52 [.sl 8 41 0 w2_2.length false],.lit 25 [.int .i64 0,.int .i64 0,.ro 0 0 true (fun _ _=>.top),.ro 0 0 true (fun _ _=>.top)],.dead,.dead,.row 57 3 w2_1.length (enR zC w2_1),.row 61 43 r14.length (enR zD r14),.row 33 41 w2_2.length (enR zI w2_2)]) (fun e:Unit=>(tp 19 [])) (fun e=>[.lit 25 [.int .i64 p0.Limit,.int .i64 p0.Stay,.sl 6 3 0 w2_1.length false,.sl 7 43 0 r14.length false],.lit 3 [.int .i64 p1],.lit 52 [.sl 8 41 0 w2_2.length false],.lit 25 [.int .i64 0,.int .i64 0,.ro 0 0 true (fun _ _=>.top),.ro 0 0 true (fun _ _=>.top)],.dead,.dead,.row 57 3 w2_1.length (enR zC w2_1),.row 61 43 r14.length (enR zD r14),.row 33 41 w2_2.length (enR zI w2_2)]) H ?_ (fun v5_1 o H hn1_5 hn2_5=>?_) (fun e H=>?_)
     ·refine yH ⟨[some 0,some 1,some 2,some 3,some 4,some 5,some 6,some 7,some 8],?_,?_,by rfl,by rfl⟩
      ·simp [CvL,Cv,zQ,tp]
      ·exact ⟨cv,cv,cv,cv,zH,zH,(yI nfA),(yI nfA),(yI nfA),trivial⟩
     ·unfold eE at H
      try dsimp only at H ⊢
      try simp only [tp]
      refine sq zA ?_
      simp only [go_sem,Nat.reduceAdd]
      refine zZ ?_
      refine condM' rfl trivial (fun hc=>?_) (fun hc=>?_)
      ·have hk31:(bLt v5_1 (r14.length:Nat))=false:=by simpa using hc
       replace H:=yM hc H
       refine rg zA ?_
       simp only [go_sem]
       refine ⟨_,(Option.some.inj H).symm,?_⟩
       refine yH ⟨[some 0,some 1,some 2,some 3,some 4,some 5,some 6,some 7,some 8],?_,?_,by rfl,by rfl⟩
       ·simp [CvL,Cv]
       ·exact ⟨cv,cv,cv,cv,zH,zH,(yI nfA),(yI nfA),(yI nfA),trivial⟩
      have hk31:(bLt v5_1 (r14.length:Nat))=true:=by simpa using hc
      replace H:=xH hc H
      refine rg zA ?_
      simp only [go_sem]
      refine zZ ?_
      refine uJ ?_
      refine sq zA ?_
      simp only [go_sem]
      refine zZ ?_
      refine jB ?_
      obtain ⟨f32,H⟩:=zN.1 H
      replace f32:=xD.1 f32
      refine xS zO zA 5 ?_
      simp only [zK,tS,tZ,dSl,dZ,go_sem,Nat.reduceLT,Nat.reduceAdd,f32]
      repeat ((with_reducible refine aI ?_ ?_);exact an0)
      refine cM (rs:=[.tmp 5]) Try.func68 (by kernel_rfl) rfl rfl Try.ntmps68 (caps:=[.ptr 0 0 0 0,.ptr 1 0 0 0,.ptr 2 0 0 0]) (tc:=[.agg (.int .u8 ((gd r14 v5_1.toNat).Cat)::.int .i64 ((gd r14 v5_1.toNat).At)::hC (((gd r14 v5_1.toNat).Frame).Head) (.ro 1 ((((gd r14 v5_1.toNat).Frame).Body).length) false (enR xA (((gd r14 v5_1.toNat).Frame).Body))::[])),.ptr 0 0 0 0,.ptr 1 0 0 0,.ptr 2 0 0 0]) rfl (by simp only [go_sem]) rfl ?_
      simp only [lCl,lNl,Nat.reduceAdd,Nat.reduceSub,rS,rZ,aC,aN]
      refine sq zA ?_
      simp only [go_sem,Nat.reduceAdd]
      refine sq zA ?_
      simp only [go_sem,Nat.reduceLeDiff,Nat.reduceLT,Nat.reduceAdd]
      repeat ((with_reducible refine aI ?_ ?_);exact an5)
      refine zZ ?_
      refine sq zA ?_
      simp only [go_sem]
      refine condM' rfl trivial (fun hc=>?_) (fun hc=>?_)
      ·have hk33:(bLe (wr .i64 (((gd r14 v5_1.toNat).At)+p0.Stay)) p1)=false:=by simpa using hc
       replace H:=yM hc H
       refine rg zA ?_
       simp only [go_sem]
       refine sq zA ?_
       simp only [go_sem]
       refine rg zA ?_
       simp only [go_sem]
       refine xS zO zA 0 ?_
       simp only [zK,tZ,dZ,go_sem]
       repeat ((with_reducible refine aI ?_ ?_);exact an0)
       refine vN ?_
       refine yX rfl trivial (fun hc=>?_) (fun hc=>?_)
       ·simp [hk33] at hc
       refine rg zA ?_
       simp only [go_sem]
       refine rg zA ?_
       simp only [go_sem]
       refine ⟨_,(Option.some.inj H).symm,?_⟩
       refine yH ⟨[some 0,some 1,some 2,some 3,some 4,some 5,some 6,some 7,some 8],?_,?_,by rfl,by rfl⟩
       ·simp [CvL,Cv,zQ]
       ·exact ⟨cv,cv,cv,cv,zH,zH,(yI nfA),(yI nfA),(yI nfA),trivial⟩
      have hk33:(bLe (wr .i64 (((gd r14 v5_1.toNat).At)+p0.Stay)) p1)=true:=by simpa using hc
      replace H:=xH hc H
      obtain ⟨f34,H⟩:=zN.1 H
      replace f34:=capb_iff.1 f34
      refine rg zA ?_
      simp only [go_sem,Nat.reduceLeDiff,Nat.reduceLT,Nat.reduceAdd,Nat.reduceBEq,reduceCtorEq,f34]
      repeat ((with_reducible refine aI ?_ ?_);exact an1)
      refine sq zA ?_
      simp only [go_sem]
      refine rg zA ?_
      simp only [go_sem]
      refine xS zO zA 0 ?_
      simp only [zK,tZ,dZ,go_sem]
      repeat ((with_reducible refine aI ?_ ?_);exact an1)
      refine vN ?_
      refine yX rfl trivial (fun hc=>?_) (fun hc=>?_)
      rotate_left
      ·simp [hk33] at hc
      refine sq zA ?_
      simp only [go_sem]
      refine rg zA ?_
      simp only [go_sem]
      obtain ⟨q43,H,hq44⟩:=bsi H
      replace hq44:=hn2_5 _ (Option.some.inj hq44).symm
      obtain rfl:=(Option.some.inj hq44).symm
      refine xS zO zA 1 ?_
      simp only [zK,tS,tZ,dSl,dZ,go_sem]
      repeat ((with_reducible refine aI ?_ ?_);exact an1)
      refine vN ?_
      refine zZ ?_
      refine sq zA ?_
      simp only [go_sem]
      refine yX rfl trivial (fun hc=>?_) (fun hc=>?_)
      ·have hk35:(bEq v5_1 (-1))=true:=by simpa using hc
       replace H:=xH hc H
       refine sq zA ?_
       simp only [go_sem]
       refine rg zA ?_
       simp only [go_sem]
       refine xS zO zA 2 ?_
       simp only [zK,tS,tZ,dSl,dZ,go_sem,Nat.reduceAdd]
       repeat ((with_reducible refine aI ?_ ?_);exact an1)
       refine vN ?_
       try simp only [go_sem]
       refine xS zO zA 0 ?_
       simp only [zK,tZ,dZ,go_sem]
       repeat ((with_reducible refine aI ?_ ?_);exact an1)
       refine vN ?_
       refine zZ ?_
       refine yW zO zA 0 (by kernel_rfl) (by kernel_rfl) ?_
       intro an han
       simp only [vZ,wV,qS,xrD,xoD,qT,uC,List.append_nil,xJ,refs,mask,wY,place,xV,wZ,xZ,hit,inL,xK,nrH,nrB,nrL,nr,rZ,Nat.sub_self,Nat.add_zero,Nat.zero_add,Nat.reduceSub,Nat.lt_add_one,go_sem,Nat.reduceLeDiff,Nat.reduceLT,Nat.reduceAdd,Nat.reduceSub,Nat.reduceBEq]
       repeat ((with_reducible refine aI ?_ ?_);exact an2)
       refine rg zA ?_
       simp only [go_sem,Nat.reduceLT,Nat.reduceAdd]
       obtain rfl:=Option.some.inj H
       refine ⟨[11,6,7,0,1,2,3,9],?_,?_,[],?_,?_,rfl⟩
       ·simp only [go_sem,Nat.reduceBEq]
        try exact at0
       ·simp only [go_sem,Nat.reduceBEq]
        try exact at0
       ·simp only [go_sem,Nat.reduceBEq]
        exact qC (zM (vT (by first|rfl|simp) (vQ (f:=zI) w2_2 [(eF ((gd r14 v5_1.toNat).Frame))] (fun _ _ _ _=>rfl) (xR (f:=zI) [(eF ((gd r14 v5_1.toNat).Frame))] (fun _ _=>rfl) rfl))) (zM (qB (zM xF (zM xF (zM (vT (by first|rfl|simp) (fun _ _ _ _=>rfl)) (zM (vT (by first|rfl|simp) (fun _ _ _ _=>rfl)) xO))))) (zM xF xO)))
       ·simp only [go_sem,CvH]
      have hk35:(bEq v5_1 (-1))=false:=by simpa using hc
      replace H:=yM hc H
      refine rg zA ?_
      simp only [go_sem]
      refine zZ ?_
      refine sq zA ?_
      simp only [go_sem]
      refine uJ ?_
      refine wX (fun s:Int × (List TFrame) × (List TStored) × Int=>(.sl 13 43 0 s.2.2.1.length false::.fn 68 [.ptr 0 0 0 0,.ptr 1 0 0 0,.ptr 2 0 0 0]::.top::.top::.top::.int .i64 s.2.2.2::.int .i64 s.1::tp 35 [])) (fun s=>[.lit 25 [.int .i64 p0.Limit,.int .i64 p0.Stay,.sl 6 3 0 w2_1.length false,.sl 13 43 0 s.2.2.1.length false],.lit 3 [.int .i64 p1],.lit 52 [.sl 12 41 0 s.2.1.length false],.lit 25 [.int .i64 0,.int .i64 0,.ro 0 0 true (fun _ _=>.top),.ro 0 0 true (fun _ _=>.top)],.dead,.dead,.row 57 3 w2_1.length (enR zC w2_1),.dead,.dead,.dead,.dead,.dead,.row 33 41 s.2.1.length (enR zI s.2.1),.row 61 43 s.2.2.1.length (enR zD s.2.2.1)]) (fun e:(List TStored) × Int × (List TFrame)=>(.sl 12 43 0 e.1.length false::tp 4 (.int .i64 e.2.1::tp 36 []))) (fun e=>[.lit 25 [.int .i64 p0.Limit,.int .i64 p0.Stay,.sl 6 3 0 w2_1.length false,.sl 12 43 0 e.1.length false],.dead,.lit 52 [.sl 13 41 0 e.2.2.length false],.lit 25 [.int .i64 0,.int .i64 0,.ro 0 0 true (fun _ _=>.top),.ro 0 0 true (fun _ _=>.top)],.dead,.dead,.row 57 3 w2_1.length (enR zC w2_1),.dead,.dead,.dead,.dead,.dead,.row 61 43 e.1.length (enR zD e.1),.row 33 41 e.2.2.length (enR zI e.2.2)]) H ?_ (fun s o H hn1_6 hn2_6=>?_) (fun e H=>?_)
      ·refine yH ⟨[some 0,some 1,some 2,some 3,some 4,some 5,some 6,some 7,some 8,some 9,some 10,some 11,some 11,some 7],?_,?_,by rfl,by rfl⟩
       ·simp [CvL,Cv,zQ,tp]
       ·exact ⟨cv,cv,cv,cv,zH,zH,(yI nfA),zH,zH,zH,zH,zH,zW wR cl (vQ (f:=zI) w2_2 [(eF ((gd r14 v5_1.toNat).Frame))] (fun _ _ _ _=>rfl) (xR (f:=zI) [(eF ((gd r14 v5_1.toNat).Frame))] (fun _ _=>rfl) rfl)),zW yQ cl (fun _ _ _ _=>rfl),trivial⟩
      ·obtain ⟨v6_1,v6_2,v6_3,v6_4⟩:=s
       unfold F25_L6 at H
       try dsimp only at H ⊢
       try simp only [tp]
       refine zZ ?_
       refine sq zA ?_
       simp only [go_sem,Nat.reduceAdd]
       repeat ((with_reducible refine aI ?_ ?_);exact an0)
       refine condM' rfl trivial (fun hc=>?_) (fun hc=>?_)
       ·have hk36:(bLt v6_1 (v6_3.length:Nat))=false:=by simpa using hc
        replace H:=yM hc H
        refine rg zA ?_
        simp only [go_sem]
        refine ⟨_,(Option.some.inj H).symm,?_⟩
        refine yH ⟨[some 0,some 1,some 2,some 3,some 4,some 5,some 6,some 7,some 8,some 9,some 10,some 11,some 13,some 12],?_,?_,by rfl,by rfl⟩
        ·simp [CvL,Cv,zQ]
        ·exact ⟨cv,zH,cv,cv,zH,zH,(yI nfA),zH,zH,zH,zH,zH,zW yQ cl (fun _ _ _ _=>rfl),zW wR cl (fun _ _ _ _=>rfl),trivial⟩
       have hk36:(bLt v6_1 (v6_3.length:Nat))=true:=by simpa using hc
       replace H:=xH hc H
       refine rg zA ?_
       simp only [go_sem]
       refine zZ ?_
       refine uJ ?_
       refine zZ ?_
       obtain ⟨f37,H⟩:=zN.1 H
       replace f37:=xD.1 f37
       refine rg zA ?_
       simp only [go_sem,Nat.reduceLT,Nat.reduceAdd,f37]
       repeat ((with_reducible refine aI ?_ ?_);exact an5)
       refine zZ ?_
       refine jB ?_
       refine xS zO zA 2 ?_
       simp only [zK,tS,tZ,dSl,dZ,go_sem,Nat.reduceLT,Nat.reduceAdd]
       repeat ((with_reducible refine aI ?_ ?_);exact an0)
       refine cM (rs:=[.tmp 5]) Try.func68 (by kernel_rfl) rfl rfl Try.ntmps68 (caps:=[.ptr 0 0 0 0,.ptr 1 0 0 0,.ptr 2 0 0 0]) (tc:=[.agg (.int .u8 ((gd v6_3 v6_1.toNat).Cat)::.int .i64 ((gd v6_3 v6_1.toNat).At)::hC (((gd v6_3 v6_1.toNat).Frame).Head) (.ro 1 ((((gd v6_3 v6_1.toNat).Frame).Body).length) false (enR xA (((gd v6_3 v6_1.toNat).Frame).Body))::[])),.ptr 0 0 0 0,.ptr 1 0 0 0,.ptr 2 0 0 0]) rfl (by simp only [go_sem]) rfl ?_
       simp only [lCl,lNl,Nat.reduceAdd,Nat.reduceSub,rS,rZ,aC,aN]
       refine sq zA ?_
       simp only [go_sem,Nat.reduceAdd]
       refine sq zA ?_
       simp only [go_sem,Nat.reduceLeDiff,Nat.reduceLT,Nat.reduceAdd]
       repeat ((with_reducible refine aI ?_ ?_);exact an5)
       refine zZ ?_
       refine sq zA ?_
       simp only [go_sem]
       refine yX rfl trivial (fun hc=>?_) (fun hc=>?_)
       ·have hk38:(bLe (wr .i64 (((gd v6_3 v6_1.toNat).At)+p0.Stay)) p1)=true:=by simpa using hc
        replace H:=xH hc H
        obtain ⟨f39,H⟩:=zN.1 H
        replace f39:=capb_iff.1 f39
        refine rg zA ?_
        simp only [go_sem,Nat.reduceLeDiff,Nat.reduceLT,Nat.reduceAdd,Nat.reduceBEq,reduceCtorEq,f39]
        repeat ((with_reducible refine aI ?_ ?_);exact an1)
        refine sq zA ?_
        simp only [go_sem]
        refine rg zA ?_
        simp only [go_sem]
        refine xS zO zA 1 ?_
        simp only [zK,tS,tZ,dSl,dZ,go_sem]
        repeat ((with_reducible refine aI ?_ ?_);exact an1)
        refine vN ?_
        refine yX rfl trivial (fun hc=>?_) (fun hc=>?_)
        ·simp [hk38] at hc
        refine rg zA ?_
        simp only [go_sem]
        refine rg zA ?_
        simp only [go_sem]
        refine ⟨_,(Option.some.inj H).symm,?_⟩
        refine yH ⟨[some 0,some 1,some 2,some 3,some 4,some 5,some 6,some 7,some 8,some 9,some 10,some 11,some 17,some 13],?_,?_,by rfl,by rfl⟩
        ·simp [CvL,Cv,zQ]
        ·exact ⟨cv,cv,cv,cv,zH,zH,(yI nfA),zH,zH,zH,zH,zH,zW wR cl (vQ (f:=zI) v6_2 [(eF ((gd v6_3 v6_1.toNat).Frame))] (fun _ _ _ _=>rfl) (xR (f:=zI) [(eF ((gd v6_3 v6_1.toNat).Frame))] (fun _ _=>rfl) rfl)),zW yQ cl (fun _ _ _ _=>rfl),trivial⟩
       have hk38:(bLe (wr .i64 (((gd v6_3 v6_1.toNat).At)+p0.Stay)) p1)=false:=by simpa using hc
       replace H:=yM hc H
       refine rg zA ?_
       simp only [go_sem]
       refine sq zA ?_
       simp only [go_sem]
       refine rg zA ?_
       simp only [go_sem]
       refine xS zO zA 1 ?_
       simp only [zK,tS,tZ,dSl,dZ,go_sem]
       repeat ((with_reducible refine aI ?_ ?_);exact an0)
       refine vN ?_
       refine yX rfl trivial (fun hc=>?_) (fun hc=>?_)
       rotate_left
       ·simp [hk38] at hc
       refine zZ ?_
       obtain ⟨f40,H⟩:=zN.1 H
       replace f40:=xD.1 f40
       refine rg zA ?_
       simp only [go_sem,Nat.reduceLT,Nat.reduceAdd,f40]
       repeat ((with_reducible refine aI ?_ ?_);exact an5)
       refine rg zA ?_
       simp only [go_sem]
       refine rg zA ?_
       simp only [go_sem]
       refine ⟨_,(Option.some.inj H).symm,?_⟩
       refine yH ⟨[some 0,some 1,some 2,some 3,some 4,some 5,some 6,some 7,some 8,some 9,some 10,some 11,some 12,some 13],?_,?_,by rfl,by rfl⟩
       ·simp [CvL,Cv,zQ]
       ·exact ⟨cv,cv,cv,cv,zH,zH,(yI nfA),zH,zH,zH,zH,zH,zW wR cl (fun _ _ _ _=>rfl),zW yQ cl (cY (f:=zD) v6_3 v6_4.toNat 0 (TStored.mk ((gd v6_3 v6_1.toNat).Cat) ((gd v6_3 v6_1.toNat).At) (eF ((gd v6_3 v6_1.toNat).Frame))) (fun _ _ _ _=>rfl) (fun y hy=>match y,hy with|0,_=>rfl|1,_=>rfl|2,_=>rfl|3,_=>rfl|4,_=>rfl|5,_=>rfl|6,_=>rfl|7,_=>rfl|8,_=>rfl|9,_=>rfl|10,_=>rfl|11,_=>rfl|12,_=>rfl|13,_=>rfl|14,_=>rfl|15,_=>rfl|16,_=>rfl|17,_=>rfl|18,_=>rfl|19,_=>rfl|20,_=>rfl|21,_=>rfl|22,_=>rfl|23,_=>rfl|24,_=>rfl|25,_=>rfl|26,_=>rfl|27,_=>rfl|28,_=>rfl|29,_=>rfl|30,_=>rfl|31,_=>rfl|32,_=>rfl|33,_=>rfl|34,_=>rfl|35,_=>rfl|36,_=>rfl|37,_=>rfl|38,_=>rfl|39,_=>rfl|40,_=>rfl|41,_=>rfl|42,_=>rfl|(y+43),h=>absurd h nlt)),trivial⟩
      ·obtain ⟨w6_5,w6_6,w6_9⟩:=e
       try dsimp only at H ⊢
       try simp only [tp]
       try simp only [wJ]
       refine zZ ?_
       obtain ⟨f41,H⟩:=zN.1 H
       replace f41:=slb_iff.1 f41
       refine rg zA ?_
       simp only [go_sem,Nat.reduceLeDiff,Nat.reduceAdd,f41]
       repeat ((with_reducible refine aI ?_ ?_);exact an4)
       refine zZ ?_
       obtain ⟨f42,H⟩:=zN.1 H
       replace f42:=slb_iff.1 f42
       refine rg zA ?_
       simp only [go_sem,f42]
       repeat ((with_reducible refine aI ?_ ?_);exact an5)
       refine rg zA ?_
       simp only [go_sem]
       refine xS zO zA 2 ?_
       simp only [zK,tS,tZ,dSl,dZ,go_sem,Nat.reduceAdd]
       repeat ((with_reducible refine aI ?_ ?_);exact an4)
       refine vN ?_
       try simp only [go_sem]
       refine xS zO zA 0 ?_
       simp only [zK,tZ,dZ,go_sem]
       repeat ((with_reducible refine aI ?_ ?_);exact an4)
       refine vN ?_
       refine zZ ?_
       refine yW zO zA 0 (by kernel_rfl) (by kernel_rfl) ?_
       intro an han
       simp only [vZ,wV,qS,xrD,xoD,qT,uC,List.append_nil,xJ,refs,mask,wY,place,xV,wZ,xZ,hit,inL,xK,nrH,nrB,nrL,nr,rZ,Nat.sub_self,Nat.add_zero,Nat.zero_add,Nat.reduceSub,Nat.lt_add_one,go_sem,Nat.reduceLeDiff,Nat.reduceLT,Nat.reduceAdd,Nat.reduceSub,Nat.reduceBEq]
       repeat ((with_reducible refine aI ?_ ?_);exact an6)
       refine rg zA ?_
       simp only [go_sem,Nat.reduceLT,Nat.reduceAdd]
       obtain rfl:=Option.some.inj H
       refine ⟨[13,6,12,0,2,3],?_,?_,[],?_,?_,rfl⟩
       ·simp only [go_sem,Nat.reduceBEq]
        try exact at0
       ·simp only [go_sem,Nat.reduceBEq]
        try exact at0
       ·simp only [go_sem,Nat.reduceBEq]
        exact qC (zM (vT (by first|rfl|simp) (fun _ _ _ _=>rfl)) (zM (qB (zM xF (zM xF (zM (vT (by first|rfl|simp) (fun _ _ _ _=>rfl)) (zM (vT (show (List.take w6_6.toNat w6_5).length=w6_6.toNat from tI (n:=w6_5.length) cl (by omega)) (clr_row (fun _ _ _ _=>rfl))) xO))))) (zM xF xO)))
       ·simp only [go_sem,CvH]
     ·try dsimp only at H ⊢
      try simp only [tp]
      try simp only [wJ]
      refine sq zA ?_
      simp only [go_sem]
      refine rg zA ?_
      simp only [go_sem]
      refine xS zO zA 1 ?_
      simp only [zK,tS,tZ,dSl,dZ,go_sem]
      repeat ((with_reducible refine aI ?_ ?_);exact an0)
      refine vN ?_
      refine zZ ?_
      refine sq zA ?_
      simp only [go_sem,(by decide:bEq ((-1)) ((-1))=true)]
      refine yX rfl trivial (fun hc=>?_) (fun hc=>?_)
      rotate_left
      ·cases hc
      refine sq zA ?_
      simp only [go_sem]
      refine rg zA ?_
      simp only [go_sem]
      refine xS zO zA 2 ?_
      simp only [zK,tS,tZ,dSl,dZ,go_sem,Nat.reduceAdd]
      repeat ((with_reducible refine aI ?_ ?_);exact an0)
      refine vN ?_
      try simp only [go_sem]
      refine xS zO zA 0 ?_
      simp only [zK,tZ,dZ,go_sem]
      repeat ((with_reducible refine aI ?_ ?_);exact an0)
      refine vN ?_
      refine zZ ?_
      refine yW zO zA 0 (by kernel_rfl) (by kernel_rfl) ?_
      intro an han
      simp only [vZ,wV,qS,xrD,xoD,qT,uC,List.append_nil,xJ,refs,mask,wY,place,xV,wZ,xZ,hit,inL,xK,nrH,nrB,nrL,nr,rZ,Nat.sub_self,Nat.add_zero,Nat.zero_add,Nat.reduceSub,Nat.lt_add_one,go_sem,Nat.reduceLeDiff,Nat.reduceLT,Nat.reduceAdd,Nat.reduceSub,Nat.reduceBEq]
      repeat ((with_reducible refine aI ?_ ?_);exact an3)
      refine rg zA ?_
      simp only [go_sem,Nat.reduceLT,Nat.reduceAdd]
      obtain rfl:=Option.some.inj H
      refine ⟨[8,6,7,0,1,2,3],?_,?_,[],?_,?_,rfl⟩
      ·simp only [go_sem,Nat.reduceBEq]
       try exact at0
      ·simp only [go_sem,Nat.reduceBEq]
       try exact at0
      ·simp only [go_sem,Nat.reduceBEq]
       exact qC (zM (vT (by first|rfl|simp) (fun _ _ _ _=>rfl)) (zM (qB (zM xF (zM xF (zM (vT (by first|rfl|simp) (fun _ _ _ _=>rfl)) (zM (vT (by first|rfl|simp) (fun _ _ _ _=>rfl)) xO))))) (zM xF xO)))
      ·simp only [go_sem,CvH]
  ·cases hb
 ·unfold body25d at hb
  split at hb<;>cases hb
attribute [go_sem] body25d
end Go.Proofs.Ytefiemaoacmdkaa
