/-
  What BufferOnce reaches.
-/
import Derived.Test.YtefiemaoacmdkaaY8p4
namespace Go.Proofs.Ytefiemaoacmdkaa
open Go.Am
set_option linter.unusedVariables false
set_option linter.unusedSimpArgs false
noncomputable def ct25t0:Ct:=tab [(18,yF wP)]
theorem ct25t0_ok:yZ Try.prog ct25t0:=zR ok18 <| zY
theorem ct25t0_18 (l:List AV) (h:List ABlk):ct25t0 18 l h=yF wP l h:=rfl
noncomputable def ct25t1:Ct:=tab [(61,yF qF)]
theorem ct25t1_ok:yZ Try.prog ct25t1:=zR ok61 <| zY
theorem ct25t1_61 (l:List AV) (h:List ABlk):ct25t1 61 l h=yF qF l h:=rfl
noncomputable def ct25t2:Ct:=tab [(92,xU gG)]
theorem ct25t2_ok:yZ Try.prog ct25t2:=zR ok92 <| zY
theorem ct25t2_92 (l:List AV) (h:List ABlk):ct25t2 92 l h=xU gG l h:=rfl
noncomputable def ct25t3:Ct:=tab [(93,xU kG)]
theorem ct25t3_ok:yZ Try.prog ct25t3:=zR ok93 <| zY
theorem ct25t3_93 (l:List AV) (h:List ABlk):ct25t3 93 l h=xU kG l h:=rfl
noncomputable def cD (r7:List TSleeper) (v1_1:Int) (v1_2:List TSleeper):Option (Lp (Int × (List TSleeper)) ((List TSleeper) ⊕ ((List TFrame) × TBuffer × Int))) :=
 bif (bLt v1_1 (r7.length:Nat)) then (need (inb v1_1 v1_2.length) <| (F93 ((gd v1_2 v1_1.toNat).Held)).bind fun r11=>need (inb v1_1 v1_2.length) <| need (bLt v1_1 1000000) <| some (.next (wr .i64 (v1_1+1),(v1_2.set v1_1.toNat (TSleeper.mk ((gd v1_2 v1_1.toNat).Aid) ((gd v1_2 v1_1.toNat).Asleep) r11))))) else (need (bLe (v1_2.length:Nat) v1_1) <| some (.done (.inl v1_2)))
noncomputable def cE (p0:TBuffer) (p1:Int) (v4_1:Int) (v4_2:List TFrame) (v4_3:List TStored) (v4_4:Int):Option (Lp (Int × (List TFrame) × (List TStored) × Int) (((List TStored) × Int × (List TFrame)) ⊕ ((List TFrame) × TBuffer × Int))) :=
 bif (bLt v4_1 (v4_3.length:Nat)) then (need (inb v4_1 v4_3.length) <| bif (bLe (wr .i64 (((gd v4_3 v4_1.toNat).At)+p0.Stay)) p1) then (need (capb 104 (v4_2.length+1)) <| some (.next (wr .i64 (v4_1+1),(v4_2 ++ [(eF ((gd v4_3 v4_1.toNat).Frame))]),v4_3,v4_4))) else (need (inb v4_4 v4_3.length) <| some (.next (wr .i64 (v4_1+1),v4_2,(v4_3.set v4_4.toNat (TStored.mk ((gd v4_3 v4_1.toNat).Cat) ((gd v4_3 v4_1.toNat).At) (eF ((gd v4_3 v4_1.toNat).Frame)))),wr .i64 (v4_4+1))))) else (some (.done (.inl (v4_3,v4_4,v4_2))))
noncomputable def eY (p0:TBuffer) (p1:Int) (v2_1:Int) (v2_2:List TSleeper) (v2_3:List TFrame) (v3_1:Int):Option (Lp (Int) ((Unit) ⊕ (Lp (Int × (List TSleeper) × (List TFrame)) (((List TSleeper) × (List TFrame)) ⊕ ((List TFrame) × TBuffer × Int))))) :=
 bif (bLt v3_1 ((gd v2_2 v2_1.toNat).Held.length:Nat)) then (need (inb v3_1 ((gd v2_2 v2_1.toNat).Held.length)) <| bif (bLe (wr .i64 (((gd ((gd v2_2 v2_1.toNat).Held) v3_1.toNat).At)+p0.Stay)) p1) then (need (capb 104 (v2_3.length+1)) <| (bif (bEq v3_1 (-1)) then (need (bLt v2_1 1000000) <| some (.next (wr .i64 (v2_1+1),(v2_2.set v2_1.toNat (gd v2_2 v2_1.toNat)),(v2_3 ++ [(eF ((gd ((gd v2_2 v2_1.toNat).Held) v3_1.toNat).Frame))])))) else (lp (xC (fun s=>cE p0 p1 s.1 s.2.1 s.2.2.1 s.2.2.2) (wr .i64 (v3_1+1),(v2_3 ++ [(eF ((gd ((gd v2_2 v2_1.toNat).Held) v3_1.toNat).Frame))]),(gd v2_2 v2_1.toNat).Held,v3_1)) (fun e4=>need (slb e4.2.1 (e4.1.length:Nat) e4.1.length) <| need (slb 0 e4.2.1 e4.1.length) <| need (bLt v2_1 1000000) <| some (.next (wr .i64 (v2_1+1),(v2_2.set v2_1.toNat (TSleeper.mk ((gd v2_2 v2_1.toNat).Aid) ((gd v2_2 v2_1.toNat).Asleep) (List.take e4.2.1.toNat e4.1))),e4.2.2))) (fun r=>some (.done (.inr r))))).bind fun q29=>some (.done (.inr q29))) else (some (.next (wr .i64 (v3_1+1))))) else (some (.done (.inl ())))
noncomputable def eX (p0:TBuffer) (p1:Int) (w1_1:List TSleeper) (v2_1:Int) (v2_2:List TSleeper) (v2_3:List TFrame):Option (Lp (Int × (List TSleeper) × (List TFrame)) (((List TSleeper) × (List TFrame)) ⊕ ((List TFrame) × TBuffer × Int))) :=
 bif (bLt v2_1 (w1_1.length:Nat)) then (need (inb v2_1 v2_2.length) <| need (inb v2_1 v2_2.length) <| lp (xC (fun s=>eY p0 p1 v2_1 v2_2 v2_3 s) 0) (fun _=>need (bLt v2_1 1000000) <| some (.next (wr .i64 (v2_1+1),(v2_2.set v2_1.toNat (gd v2_2 v2_1.toNat)),v2_3))) some) else (some (.done (.inl (v2_2,v2_3))))
noncomputable def F25_L6 (p0:TBuffer) (p1:Int) (v6_1:Int) (v6_2:List TFrame) (v6_3:List TStored) (v6_4:Int):Option (Lp (Int × (List TFrame) × (List TStored) × Int) (((List TStored) × Int × (List TFrame)) ⊕ ((List TFrame) × TBuffer × Int))) :=
 bif (bLt v6_1 (v6_3.length:Nat)) then (need (inb v6_1 v6_3.length) <| bif (bLe (wr .i64 (((gd v6_3 v6_1.toNat).At)+p0.Stay)) p1) then (need (capb 104 (v6_2.length+1)) <| some (.next (wr .i64 (v6_1+1),(v6_2 ++ [(eF ((gd v6_3 v6_1.toNat).Frame))]),v6_3,v6_4))) else (need (inb v6_4 v6_3.length) <| some (.next (wr .i64 (v6_1+1),v6_2,(v6_3.set v6_4.toNat (TStored.mk ((gd v6_3 v6_1.toNat).Cat) ((gd v6_3 v6_1.toNat).At) (eF ((gd v6_3 v6_1.toNat).Frame)))),wr .i64 (v6_4+1))))) else (some (.done (.inl (v6_3,v6_4,v6_2))))
noncomputable def fI (p0:TBuffer) (p1:Int) (r14:List TStored) (w2_1:List TSleeper) (w2_2:List TFrame) (v5_1:Int):Option (Lp (Int) ((Unit) ⊕ ((List TFrame) × TBuffer × Int))) :=
 bif (bLt v5_1 (r14.length:Nat)) then (need (inb v5_1 r14.length) <| bif (bLe (wr .i64 (((gd r14 v5_1.toNat).At)+p0.Stay)) p1) then (need (capb 104 (w2_2.length+1)) <| (bif (bEq v5_1 (-1)) then (some ((w2_2 ++ [(eF ((gd r14 v5_1.toNat).Frame))]),(TBuffer.mk p0.Limit p0.Stay w2_1 r14),0)) else (lp (xC (fun s=>F25_L6 p0 p1 s.1 s.2.1 s.2.2.1 s.2.2.2) (wr .i64 (v5_1+1),(w2_2 ++ [(eF ((gd r14 v5_1.toNat).Frame))]),r14,v5_1)) (fun e6=>need (slb e6.2.1 (e6.1.length:Nat) e6.1.length) <| need (slb 0 e6.2.1 e6.1.length) <| some (e6.2.2,(TBuffer.mk p0.Limit p0.Stay w2_1 (List.take e6.2.1.toNat e6.1)),0)) some)).bind fun q43=>some (.done (.inr q43))) else (some (.next (wr .i64 (v5_1+1))))) else (some (.done (.inl ())))
noncomputable def F25 (p0:TBuffer) (p1:Int):Option ((List TFrame) × TBuffer × Int) :=
 (F18 p0).bind fun r1=>bif (!bEq r1 0) then (some ([],(TBuffer.mk 0 0 [] []),r1)) else ((F61 p1).bind fun r4=>bif (!r4) then (some ([],(TBuffer.mk 0 0 [] []),2)) else ((F92 p0.List).bind fun r7=>lp (xC (fun s=>cD r7 s.1 s.2) (0,r7)) (fun w1_1=>(F93 p0.Group).bind fun r14=>lp (xC (fun s=>eX p0 p1 w1_1 s.1 s.2.1 s.2.2) (0,w1_1,[])) (fun e2=>lp (xC (fun s=>fI p0 p1 r14 e2.1 e2.2 s) 0) (fun _=>some (e2.2,(TBuffer.mk p0.Limit p0.Stay e2.1 r14),0)) some) some) some))
noncomputable def body25:List AV->Nat->AR
 | [v0,v1],_=>.pure (aK 4 wC v0/\iK .i64 v1/\(F25 (zG (aL v0)) (iA v1)).isSome=true) (.tup [.ro 41 (((gt (F25 (zG (aL v0)) (iA v1))).1).length) false (enR zI ((gt (F25 (zG (aL v0)) (iA v1))).1)),.agg [.int .i64 (((gt (F25 (zG (aL v0)) (iA v1))).2.1).Limit),.int .i64 (((gt (F25 (zG (aL v0)) (iA v1))).2.1).Stay),.ro 3 ((((gt (F25 (zG (aL v0)) (iA v1))).2.1).List).length) false (enR zC (((gt (F25 (zG (aL v0)) (iA v1))).2.1).List)),.ro 43 ((((gt (F25 (zG (aL v0)) (iA v1))).2.1).Group).length) false (enR zE (((gt (F25 (zG (aL v0)) (iA v1))).2.1).Group))],.int .i64 ((gt (F25 (zG (aL v0)) (iA v1))).2.2)])
 | _,_=>.fail
set_option maxHeartbeats 4000000 in
set_option maxRecDepth 20000 in
theorem ok25:wM Try.prog 25 (xU body25):=by
 refine uZ body25 (rs:=[.cell 4 52,.cell 5 25,.tmp 6]) Try.func25 (by kernel_rfl) rfl rfl ?_
 intro l s ob v ns hb hob
 rcases hb with ⟨hb,rfl⟩|hb
 ·unfold body25 at hb
  split at hb
  ·rename_i v0 v1
   injection hb with q1 q2;subst q1 q2
   obtain ⟨hk0_0,hk1_0,hob⟩:=hob
   obtain ⟨r,H⟩:=oE.1 hob
   rw [H,yQ]
   have hw0:=wU hk0_0
   have hw1:=yI hk1_0
   generalize zG (aL v0)=p0 at H hw0
   generalize iA v1=p1 at H hw1
   refine ⟨[.agg [.int .i64 p0.Limit,.int .i64 p0.Stay,.ro 3 p0.List.length false (enR zC p0.List),.ro 43 p0.Group.length false (enR zE p0.Group)],.int .i64 p1],.tup [.ro 41 r.1.length false (enR zI r.1),.agg [.int .i64 r.2.1.Limit,.int .i64 r.2.1.Stay,.ro 3 r.2.1.List.length false (enR zC r.2.1.List),.ro 43 r.2.1.Group.length false (enR zE r.2.1.Group)],.int .i64 r.2.2],[],(fun E vs F=>yO hw0.1 F (fun vs F=>yO hw1.1 F (fun vs F=>F))),by simp only [ren,uS],trivial,?_⟩
   rw [Try.ntmps25]
   simp only [lC,lN,Nat.reduceAdd,Nat.reduceSub,rS,rZ,aC,aN]
   unfold F25 at H
   try dsimp only at H
   refine sq zA ?_
   simp only [go_sem,Nat.reduceAdd]
   refine zK ?_
   refine zK ?_
   obtain ⟨r1,e2,H⟩:=bsi H
   refine rg ct25t0_ok ?_
   simp only [go_sem,Nat.reduceLT,Nat.reduceAdd,ct25t0_18,wP,e2]
   repeat ((with_reducible refine aI ?_ ?_);exact an0)
   refine sq zA ?_
   simp only [go_sem]
   refine yM rfl trivial (fun hc=>?_) (fun hc=>?_)
   ·have hk3:(bEq r1 0)=false:=by simpa using hc
    replace H:=yA hc H
    refine sq zA ?_
    simp only [go_sem,Nat.reduceAdd]
    repeat ((with_reducible refine aI ?_ ?_);exact an5)
    refine rg zA ?_
    simp only [go_sem,Nat.reduceLT,Nat.reduceAdd]
    obtain rfl:=Option.some.inj H
    refine ⟨[0,1,2,3],?_,?_,[],?_,?_,rfl⟩
    ·simp only [go_sem]
     try exact at0
    ·simp only [go_sem]
     try exact at0
    ·simp only [go_sem]
     exact yY (zB (zJ (α:=TFrame)) (zB (yV (zB zF (zB zF (zB (zJ (α:=TSleeper)) (zB (zJ (α:=TStored)) zO))))) (zB zF zO)))
    ·simp only [go_sem,CvH]
   have hk3:(bEq r1 0)=true:=by simpa using hc
   replace H:=zZ hc H
   refine rg zA ?_
   simp only [go_sem]
   refine zK ?_
   refine zK ?_
   obtain ⟨r4,e5,H⟩:=bsi H
   refine rg ct25t1_ok ?_
   simp only [go_sem,Nat.reduceLT,ct25t1_61,qF,e5]
   repeat ((with_reducible refine aI ?_ ?_);exact an0)
   refine yM rfl trivial (fun hc=>?_) (fun hc=>?_)
   ·have hk6:(r4)=false:=by simpa using hc
    replace H:=yA hc H
    refine sq zA ?_
    simp only [go_sem,Nat.reduceAdd]
    repeat ((with_reducible refine aI ?_ ?_);exact an5)
    refine rg zA ?_
    simp only [go_sem,Nat.reduceLT,Nat.reduceAdd]
    obtain rfl:=Option.some.inj H
    refine ⟨[0,1,2,3],?_,?_,[],?_,?_,rfl⟩
    ·simp only [go_sem]
     try exact at0
    ·simp only [go_sem]
     try exact at0
    ·simp only [go_sem]
     exact yY (zB (zJ (α:=TFrame)) (zB (yV (zB zF (zB zF (zB (zJ (α:=TSleeper)) (zB (zJ (α:=TStored)) zO))))) (zB zF zO)))
    ·simp only [go_sem,CvH]
   have hk6:(r4)=true:=by simpa using hc
   replace H:=zZ hc H
   refine rg zA ?_
   simp only [go_sem]
   refine inP (f:=zE) (e:=61) (es:=43) ?_
   refine seqPP ?_
   refine regP ?_
   refine cutPO zQ zA zV 1 ?_
   simp only [kOP_normal,tS,tZ,dS,dZ,go_sem,Nat.reduceLT,Nat.reduceAdd]
   repeat ((with_reducible refine aI ?_ ?_);exact an0)
   refine inlPO (rs:=[.cell 2 25]) Try.func65 (by kernel_rfl) rfl rfl Try.ntmps65 (caps:=[]) (tc:=[.agg [.int .i64 p0.Limit,.int .i64 p0.Stay,.ro 3 p0.List.length false (enR zC p0.List),.ro 43 p0.Group.length false (enR zE p0.Group)]]) rfl (by simp only [go_sem]) rfl ?_
   simp only [lC,lN,Nat.reduceAdd,Nat.reduceSub,rS,rZ,aC,aN]
   try simp only [wX]
   refine seqP zV ?_
   refine rg zA ?_
   simp only [go_sem,Nat.reduceAdd]
   try simp only [wX]
   refine seqP zV ?_
   obtain ⟨r7,e8,H⟩:=bsi H
   refine rg ct25t2_ok ?_
   simp only [go_sem,Nat.reduceLeDiff,Nat.reduceLT,Nat.reduceAdd,ct25t2_92,gG,e8]
   repeat ((with_reducible refine aI ?_ ?_);exact an0)
   try simp only [wX]
   refine seqPP ?_
   try simp only [wX]
   refine seqP zV ?_
   refine rg zA ?_
   simp only [go_sem,Nat.reduceLeDiff,Nat.reduceLT,Nat.reduceAdd]
   repeat ((with_reducible refine aI ?_ ?_);exact an0)
   try simp only [wX]
   refine blkP ?_
   refine initP (n:=r7.length) ?_
   refine loop_denP zV 6 57 3 2 7 (fun s:Int × (List TSleeper)=>(.top::.ptr 4 0 0 0::.ptr 5 0 0 0::tp 7 (.int .i64 (r7.length:Nat)::.int .i64 s.1::tp 20 []))) (fun (s:Int × (List TSleeper)) C=>[.lit 25 [.int .i64 p0.Limit,.int .i64 p0.Stay,.ro 3 p0.List.length false (enR zC p0.List),.ro 43 p0.Group.length false (enR zE p0.Group)],.lit 3 [.int .i64 p1],.lit 52 [.ro 0 0 true (fun _ _=>.top)],.lit 25 [.int .i64 0,.int .i64 0,.ro 0 0 true (fun _ _=>.top),.ro 0 0 true (fun _ _=>.top)],.lit 25 [.int .i64 p0.Limit,.int .i64 p0.Stay,.sl 6 3 0 s.2.length false,.ro 43 p0.Group.length false (enR zE p0.Group)],.lit 25 [.int .i64 0,.int .i64 0,.ro 0 0 true (fun _ _=>.top),.ro 0 0 true (fun _ _=>.top)],.row 57 3 s.2.length C]) (fun s:Int × (List TSleeper)=>s.2.length) (fun (s:Int × (List TSleeper)) V=>pcC zC 2 (ltB s.1.toNat) s.2 V) (fun s:Int × (List TSleeper)=>pkl (fun x=>x.Held) (ltB s.1.toNat) s.2) (fun e:List TSleeper=>(.top::.ptr 4 0 0 0::.ptr 5 0 0 0::tp 29 [])) (fun (e:List TSleeper) V=>[.lit 25 [.int .i64 p0.Limit,.int .i64 p0.Stay,.ro 3 p0.List.length false (enR zC p0.List),.ro 43 p0.Group.length false (enR zE p0.Group)],.lit 3 [.int .i64 p1],.lit 52 [.ro 0 0 true (fun _ _=>.top)],.lit 25 [.int .i64 0,.int .i64 0,.ro 0 0 true (fun _ _=>.top),.ro 0 0 true (fun _ _=>.top)],.lit 25 [.int .i64 p0.Limit,.int .i64 p0.Stay,.sl 6 3 0 e.length false,.ro 43 p0.Group.length false (enR zE p0.Group)],.lit 25 [.int .i64 0,.int .i64 0,.ro 0 0 true (fun _ _=>.top),.ro 0 0 true (fun _ _=>.top)],.row 57 3 e.length (pcC zC 2 tY e V)]) (fun e:List TSleeper=>pkl (fun x=>x.Held) tY e) H (fun _ _=>rfl) (fun _ _ _=>rfl) (fun _ _=>rfl) (Nat.le_of_ble_eq_true rfl) (by omega) (fun s=>by simp [nrL,nr,tp]) (fun s C hC=>⟨(by simp [nrB,nrL,nr]),(by simp [nrB,nrL,nr]),(by simp [nrB,nrL,nr]),(by simp [nrB,nrL,nr]),(by simp [nrB,nrL,nr]),(by simp [nrB,nrL,nr]),hC,trivial⟩) pkl_zero ?_ (fun s o V hV H hn1_1 hn2_1=>?_) (fun w1_1 V H hVe=>?_)
   ·refine zT ⟨[some 0,some 1,some 2,some 3,some 4,some 5,some 6],?_,?_,by rfl,by rfl⟩
    ·simp [CvL,Cv,zX,tp]
    ·exact ⟨cv,cv,cv,cv,cv,cv,(CvB_pc0 zH cl (fun _ _ _ _=>rfl)),trivial⟩
   ·obtain ⟨v1_1,v1_2⟩:=s
    replace hV:=hV.trans qY
    unfold cD at H
    try dsimp only at H hV ⊢
    try simp only [tp]
    refine frP zV ?_
    refine sq zA ?_
    simp only [go_sem,Nat.reduceAdd]
    refine zK ?_
    refine condM' rfl trivial (fun hc=>?_) (fun hc=>?_)
    ·have hk9:(bLt v1_1 (r7.length:Nat))=false:=by simpa using hc
     replace H:=zZ hc H
     refine rg zA ?_
     simp only [go_sem]
     obtain ⟨hz,H⟩:=yT.1 H
     have hz:v1_2.length <= v1_1.toNat:=by have:=bLe_iff.1 hz;omega
     refine ⟨_,(Option.some.inj H).symm,pkl_all hz,?_⟩
     refine zT ⟨[some 0,some 1,some 2,some 3,some 4,some 5,some 6],?_,?_,by rfl,by rfl⟩
     ·simp [CvL,Cv,zX]
     ·exact ⟨cv,cv,cv,cv,cv,cv,(CvB_pcx zH hz),trivial⟩
    have hk9:(bLt v1_1 (r7.length:Nat))=true:=by simpa using hc
    replace H:=yA hc H
    refine rg zA ?_
    simp only [go_sem]
    refine zK ?_
    refine wN ?_
    refine sq zA ?_
    simp only [go_sem]
    obtain ⟨f10,H⟩:=nI H
    obtain ⟨r11,e12,H⟩:=bsi H
    obtain ⟨f13,H⟩:=nI H
    refine yL zQ ct25t3_ok 1 (by kernel_rfl) (by kernel_rfl) ?_
    intro an han
    simp only [wK,xR,vL,xrD,xoD,vM,wY,List.append_nil,xA,refs,vF,mask,xZ,place,xI,wA,xK,hit,inL,xD,ren,rnN,nrH,nrB,rZ,rS,Nat.sub_self,Nat.add_zero,Nat.zero_add,Nat.reduceSub,Nat.lt_add_one,go_sem,Nat.reduceLeDiff,Nat.reduceLT,Nat.reduceAdd,Nat.reduceSub,Nat.reduceBEq,ct25t3_93,kG,f10,e12]
    repeat ((with_reducible refine aI ?_ ?_);exact an4)
    refine rg zA ?_
    simp only [go_sem]
    obtain ⟨hz,H⟩:=yT.1 H
    have hz:v1_1 < 1000000:=by simpa [bLt] using hz
    have hwr:(wr .i64 (v1_1+1)).toNat=v1_1.toNat+1:=by rw [qB (by omega)];omega
    refine kLP_next1 (g:=zC) (held:=fun x=>x.Held) (L:=v1_2) (i:=v1_1.toNat) (a:=(TSleeper.mk ((gd v1_2 v1_1.toNat).Aid) ((gd v1_2 v1_1.toNat).Asleep) r11)) zH (Option.some.inj H).symm (by omega) hV List.length_set (fun V=>by show pcC _ _ (ltB (wr .i64 (v1_1+1)).toNat) _ _=_;rw [hwr]) (by show pkl _ (ltB (wr .i64 (v1_1+1)).toNat) _=_;rw [hwr]) (fun y h1 h2=>match y,h1,h2 with|0,_,_=>rfl|1,_,_=>rfl|2,h,_=>absurd rfl h|(y+3),_,h=>absurd h nlt) ?_
    refine zT ⟨[some 0,some 1,some 2,some 3,some 4,some 5,some 6,some 7],?_,?_,by rfl,by rfl⟩
    ·simp [CvL,Cv,zX]
    ·exact ⟨cv,cv,cv,cv,cv,cv,(qP (i:=v1_1.toNat) (C:=pcC zC 2 (ltB v1_1.toNat) v1_2 V) cl (yS zH) (fun x y hx=>by simp only [xG hx]) (fun x y hx=>by simp only [xG hx]) (fun y hy=>match y,hy with|0,_=>(by simp only [vV,and_false,if_false,reduceCtorEq];first|exact yW _ (yS zH _ _)|(simp [Cv,zX];done)|(simp [Cv,zX];omega))|1,_=>(by simp only [vV,and_false,if_false,Nat.reduceEqDiff];first|exact yW _ (yS zH _ _)|(simp [Cv,zX];done)|(simp [Cv,zX];omega))|2,_=>(by simp only [vV,and_true,if_true];first|exact yW _ (yS zH _ _)|(simp [Cv,zX];done)|(simp [Cv,zX];omega))|(y+3),h=>absurd h nlt)),zS zV cl (fun _ _ _ _=>rfl),trivial⟩
   ·try dsimp only at H ⊢
    try simp only [tp]
    try simp only [wX]
    refine seqP zV ?_
    obtain ⟨r14,e15,H⟩:=bsi H
    refine rg ct25t3_ok ?_
    simp only [go_sem,Nat.reduceLT,Nat.reduceAdd,ct25t3_93,kG,e15]
    repeat ((with_reducible refine aI ?_ ?_);exact an0)
    try simp only [wX]
    refine seqP zV ?_
    refine rg zA ?_
    simp only [go_sem,Nat.reduceLT,Nat.reduceAdd]
    repeat ((with_reducible refine aI ?_ ?_);exact an5)
    try simp only [wX]
    refine frP zV ?_
    refine rg zA ?_
    simp only [go_sem,Nat.reduceLT,Nat.reduceAdd]
    refine cutPO zQ zA zV 1 ?_
    simp only [kOP_normal,tS,tZ,dS,dZ,go_sem,Nat.reduceAdd]
    repeat ((with_reducible refine aI ?_ ?_);exact an0)
    refine endP ?_
    try simp only [wX]
    refine seqP zV ?_
    refine rg zA ?_
    simp only [go_sem]
    try simp only [wX]
    refine seqPP ?_
    try simp only [wX]
    refine seqP zV ?_
    refine rg zA ?_
    simp only [go_sem,Nat.reduceLeDiff,Nat.reduceLT,Nat.reduceAdd]
    repeat ((with_reducible refine aI ?_ ?_);exact an0)
    try simp only [wX]
    refine blkP ?_
    refine loop_denP zV 6 57 3 2 9 (fun s:Int × (List TSleeper) × (List TFrame)=>(.top::.top::.ptr 0 0 0 0::.top::.ptr 2 0 0 0::.ptr 3 0 0 0::.top::.top::.fn 66 [.ptr 0 0 0 0,.ptr 1 0 0 0,.ptr 2 0 0 0]::tp 16 (.int .i64 (w1_1.length:Nat)::.int .i64 s.1::tp 15 []))) (fun (s:Int × (List TSleeper) × (List TFrame)) C=>[.lit 25 [.int .i64 p0.Limit,.int .i64 p0.Stay,.sl 6 3 0 s.2.1.length false,.sl 7 43 0 r14.length false],.lit 3 [.int .i64 p1],.lit 52 [.sl 8 41 0 s.2.2.length false],.lit 25 [.int .i64 0,.int .i64 0,.ro 0 0 true (fun _ _=>.top),.ro 0 0 true (fun _ _=>.top)],.dead,.dead,.row 57 3 s.2.1.length C,.row 61 43 r14.length (enR zE r14),.row 33 41 s.2.2.length (enR zI s.2.2)]) (fun s:Int × (List TSleeper) × (List TFrame)=>s.2.1.length) (fun (s:Int × (List TSleeper) × (List TFrame)) V=>pcC zC 2 (tY) s.2.1 V) (fun s:Int × (List TSleeper) × (List TFrame)=>pkl (fun x=>x.Held) (tY) s.2.1) (fun e:(List TSleeper) × (List TFrame)=>(.top::.top::.ptr 0 0 0 0::.top::.ptr 2 0 0 0::.ptr 3 0 0 0::.top::.top::.fn 66 [.ptr 0 0 0 0,.ptr 1 0 0 0,.ptr 2 0 0 0]::tp 33 [])) (fun (e:(List TSleeper) × (List TFrame)) V=>[.lit 25 [.int .i64 p0.Limit,.int .i64 p0.Stay,.sl 6 3 0 e.1.length false,.sl 7 43 0 r14.length false],.lit 3 [.int .i64 p1],.lit 52 [.sl 8 41 0 e.2.length false],.lit 25 [.int .i64 0,.int .i64 0,.ro 0 0 true (fun _ _=>.top),.ro 0 0 true (fun _ _=>.top)],.dead,.dead,.row 57 3 e.1.length (pcC zC 2 tY e.1 V),.row 61 43 r14.length (enR zE r14),.row 33 41 e.2.length (enR zI e.2)]) (fun e:(List TSleeper) × (List TFrame)=>pkl (fun x=>x.Held) tY e.1) H (fun _ _=>rfl) (fun _ _ _=>rfl) (fun _ _=>rfl) (Nat.le_of_ble_eq_true rfl) (by omega) (fun s=>by simp [nrL,nr,tp]) (fun s C hC=>⟨(by simp [nrB,nrL,nr]),(by simp [nrB,nrL,nr]),(by simp [nrB,nrL,nr]),(by simp [nrB,nrL,nr]),(by simp [nrB]),(by simp [nrB]),hC,(fun _ _ _ _=>nrR_en zV),(fun _ _ _ _=>nrR_en xE),trivial⟩) rfl ?_ (fun s o V hV H hn1_2 hn2_2=>?_) (fun e V H hVe=>?_)
    ·refine zT ⟨[some 0,some 1,some 2,some 3,some 4,some 5,some 6,some 7,none],?_,?_,by rfl,by rfl⟩
     ·simp [CvL,Cv,zX,tp]
     ·exact ⟨cv,cv,cv,cv,zD,zD,(CvB_pcs zH),(zW nfA),qO,trivial⟩
    ·obtain ⟨v2_1,v2_2,v2_3⟩:=s
     replace hV:=hV.trans qY
     unfold eX at H
     try dsimp only at H hV ⊢
     try simp only [tp]
     cases hb:(bLt v2_1 (w1_1.length:Nat))
     ·replace H:=zZ hb H
      refine frP zV ?_
      refine sq zA ?_
      simp only [go_sem,Nat.reduceAdd]
      refine zK ?_
      refine yM rfl trivial (fun hc=>?_) (fun hc=>?_)
      ·simp [hb] at hc
      refine rg zA ?_
      simp only [go_sem]
      refine ⟨_,(Option.some.inj H).symm,rfl,?_⟩
      refine zT ⟨[some 0,some 1,some 2,some 3,some 4,some 5,some 6,some 7,some 8],?_,?_,by rfl,by rfl⟩
      ·simp [CvL,Cv,zX]
      ·exact ⟨cv,cv,cv,cv,zD,zD,(CvB_pcs zH),(zW nfA),zS xE cl (fun _ _ _ _=>rfl),trivial⟩
     replace H:=yA hb H
     obtain ⟨hin,H⟩:=nI H
     refine unparkP zV v2_1.toNat 2 6 (l:=(gd v2_2 v2_1.toNat).Held) (by rw [dN (by omega)];rfl) (by rfl) (fun v hv=>by simp [pcC,tY,valAt_get hv]) ?_
     simp only [aC,aN,List.set_cons_succ,List.set_cons_zero,lC,lN,Nat.reduceAdd]
     refine frP zV ?_
     refine sq zA ?_
     simp only [go_sem]
     refine zK ?_
     refine yM rfl trivial (fun hc=>?_) (fun hc=>?_)
     rotate_left
     ·simp [hb] at hc
     refine rg zA ?_
     simp only [go_sem]
     refine zK ?_
     refine wN ?_
     refine sq zA ?_
     simp only [go_sem]
     refine qZ ?_
     obtain ⟨f16,H⟩:=nI H
     refine xQ zQ zA 6 ?_
     simp only [zM,tS,tZ,dS,dZ,go_sem,Nat.reduceLeDiff,Nat.reduceLT,Nat.reduceAdd,f16]
     repeat ((with_reducible refine aI ?_ ?_);exact an0)
     refine gX (rs:=[]) Try.func66 (by kernel_rfl) rfl rfl Try.ntmps66 (caps:=[.ptr 0 0 0 0,.ptr 1 0 0 0,.ptr 2 0 0 0]) (tc:=[.ptr 6 3 v2_1.toNat 2,.ptr 0 0 0 0,.ptr 1 0 0 0,.ptr 2 0 0 0]) rfl (by simp only [go_sem]) rfl ?_
     simp only [lC,lN,Nat.reduceAdd,Nat.reduceSub,rS,rZ,aC,aN]
     refine qZ ?_
     refine xQ zQ zA 5 ?_
     simp only [zM,tS,tZ,dS,dZ,go_sem,Nat.reduceLT,Nat.reduceAdd,Nat.reduceSub]
     repeat ((with_reducible refine aI ?_ ?_);exact an0)
     refine gX (rs:=[.tmp 4]) Try.func67 (by kernel_rfl) rfl rfl Try.ntmps67 (caps:=[]) (tc:=[.sl 9 43 0 ((gd v2_2 v2_1.toNat).Held.length) false,.fn 68 [.ptr 0 0 0 0,.ptr 1 0 0 0,.ptr 2 0 0 0]]) rfl (by simp only [go_sem]) rfl ?_
     simp only [lC,lN,Nat.reduceAdd,Nat.reduceSub,rS,rZ,aC,aN]
     refine sq zA ?_
     simp only [go_sem]
     refine zK ?_
     refine qZ ?_
     refine xQ zQ zA 2 ?_
     simp only [zM,tS,tZ,dS,dZ,go_sem]
     repeat ((with_reducible refine aI ?_ ?_);exact an0)
     refine gX (rs:=[.tmp 4]) Try.func58 (by kernel_rfl) rfl rfl Try.ntmps58 (caps:=[]) (tc:=[.sl 9 43 0 ((gd v2_2 v2_1.toNat).Held.length) false,.fn 68 [.ptr 0 0 0 0,.ptr 1 0 0 0,.ptr 2 0 0 0]]) rfl (by simp only [go_sem]) rfl ?_
     simp only [lC,lN,Nat.reduceAdd,Nat.reduceSub,rS,rZ,aC,aN]
     refine sq zA ?_
     simp only [go_sem]
     refine zK ?_
     refine sq zA ?_
     simp only [go_sem]
     repeat ((with_reducible refine aI ?_ ?_);exact an0)
     refine wN ?_
     refine xX (fun s:Int=>(.sl 9 43 0 ((gd v2_2 v2_1.toNat).Held.length) false::.fn 68 [.ptr 0 0 0 0,.ptr 1 0 0 0,.ptr 2 0 0 0]::tp 5 (.int .i64 ((gd v2_2 v2_1.toNat).Held.length:Nat)::.int .i64 s::tp 10 []))) (fun s=>[.lit 25 [.int .i64 p0.Limit,.int .i64 p0.Stay,.sl 6 3 0 v2_2.length false,.sl 7 43 0 r14.length false],.lit 3 [.int .i64 p1],.lit 52 [.sl 8 41 0 v2_3.length false],.lit 25 [.int .i64 0,.int .i64 0,.ro 0 0 true (fun _ _=>.top),.ro 0 0 true (fun _ _=>.top)],.dead,.dead,.row 57 3 v2_2.length (upc (pcC zC 2 tY v2_2 V) v2_1.toNat 2 [.sl 9 43 0 ((gd v2_2 v2_1.toNat).Held.length) false]),.row 61 43 r14.length (enR zE r14),.row 33 41 v2_3.length (enR zI v2_3),.row 61 43 ((gd v2_2 v2_1.toNat).Held.length) (enR zE ((gd v2_2 v2_1.toNat).Held))]) (fun e:Unit=>(tp 19 [])) (fun e=>[.lit 25 [.int .i64 p0.Limit,.int .i64 p0.Stay,.sl 6 3 0 v2_2.length false,.sl 7 43 0 r14.length false],.lit 3 [.int .i64 p1],.lit 52 [.sl 8 41 0 v2_3.length false],.lit 25 [.int .i64 0,.int .i64 0,.ro 0 0 true (fun _ _=>.top),.ro 0 0 true (fun _ _=>.top)],.dead,.dead,.row 57 3 v2_2.length (upc (pcC zC 2 tY v2_2 V) v2_1.toNat 2 [.sl 9 43 0 ((gd v2_2 v2_1.toNat).Held.length) false]),.row 61 43 r14.length (enR zE r14),.row 33 41 v2_3.length (enR zI v2_3),.row 61 43 ((gd v2_2 v2_1.toNat).Held.length) (enR zE ((gd v2_2 v2_1.toNat).Held))]) H ?_ (fun v3_1 o H hn1_3 hn2_3=>?_) (fun e H=>?_)
     ·refine zT ⟨[some 0,some 1,some 2,some 3,some 4,some 5,some 6,some 7,some 8,some 9],?_,?_,by rfl,by rfl⟩
      ·simp [CvL,Cv,zX,tp]
      ·exact ⟨cv,cv,cv,cv,zD,zD,(qP (i:=v2_1.toNat) (C:=pcC zC 2 tY v2_2 V) cl (yS zH) (fun x y hx=>by simp only [xG hx]) (fun x y hx=>by simp only [xG hx]) (fun y hy=>match y,hy with|0,_=>(by simp only [vV,and_false,if_false,reduceCtorEq];first|exact yW _ (yS zH _ _)|(simp [Cv,zX];done)|(simp [Cv,zX];omega))|1,_=>(by simp only [vV,and_false,if_false,Nat.reduceEqDiff];first|exact yW _ (yS zH _ _)|(simp [Cv,zX];done)|(simp [Cv,zX];omega))|2,_=>(by simp only [vV,and_true,if_true];first|exact yW _ (yS zH _ _)|(simp [Cv,zX];done)|(simp [Cv,zX];omega))|(y+3),h=>absurd h nlt)),(zW nfA),(zW nfA),(zW nfA),trivial⟩
     ·unfold eY at H
      try dsimp only at H ⊢
      try simp only [tp]
      refine sq zA ?_
      simp only [go_sem,Nat.reduceAdd]
      refine zK ?_
      refine condM' rfl trivial (fun hc=>?_) (fun hc=>?_)
      ·have hk17:(bLt v3_1 ((gd v2_2 v2_1.toNat).Held.length:Nat))=false:=by simpa using hc
       replace H:=zZ hc H
       refine rg zA ?_
       simp only [go_sem]
       refine ⟨_,(Option.some.inj H).symm,?_⟩
       refine zT ⟨[some 0,some 1,some 2,some 3,some 4,some 5,some 6,some 7,some 8,some 9],?_,?_,by rfl,by rfl⟩
       ·simp [CvL,Cv]
       ·exact ⟨cv,cv,cv,cv,zD,zD,(qP (i:=v2_1.toNat) (C:=pcC zC 2 tY v2_2 V) cl (yS zH) (fun x y hx=>by simp only [xG hx]) (fun x y hx=>by simp only [xG hx]) (fun y hy=>match y,hy with|0,_=>(by simp only [vV,and_false,if_false,reduceCtorEq];first|exact yW _ (yS zH _ _)|(simp [Cv,zX];done)|(simp [Cv,zX];omega))|1,_=>(by simp only [vV,and_false,if_false,Nat.reduceEqDiff];first|exact yW _ (yS zH _ _)|(simp [Cv,zX];done)|(simp [Cv,zX];omega))|2,_=>(by simp only [vV,and_true,if_true];first|exact yW _ (yS zH _ _)|(simp [Cv,zX];done)|(simp [Cv,zX];omega))|(y+3),h=>absurd h nlt)),(zW nfA),(zW nfA),(zW nfA),trivial⟩
      have hk17:(bLt v3_1 ((gd v2_2 v2_1.toNat).Held.length:Nat))=true:=by simpa using hc
      replace H:=yA hc H
      refine rg zA ?_
      simp only [go_sem]
      refine zK ?_
      refine wN ?_
      refine sq zA ?_
      simp only [go_sem]
      refine zK ?_
      refine qZ ?_
      obtain ⟨f18,H⟩:=nI H
      refine xQ zQ zA 5 ?_
      simp only [zM,tS,tZ,dS,dZ,go_sem,Nat.reduceLT,Nat.reduceAdd,f18]
      repeat ((with_reducible refine aI ?_ ?_);exact an0)
      refine gX (rs:=[.tmp 5]) Try.func68 (by kernel_rfl) rfl rfl Try.ntmps68 (caps:=[.ptr 0 0 0 0,.ptr 1 0 0 0,.ptr 2 0 0 0]) (tc:=[.agg (.int .u8 ((gd ((gd v2_2 v2_1.toNat).Held) v3_1.toNat).Cat)::.int .i64 ((gd ((gd v2_2 v2_1.toNat).Held) v3_1.toNat).At)::.int .u8 ((((gd ((gd v2_2 v2_1.toNat).Held) v3_1.toNat).Frame).Head).Kind)::.int .u8 ((((gd ((gd v2_2 v2_1.toNat).Held) v3_1.toNat).Frame).Head).Sub)::.bool ((((gd ((gd v2_2 v2_1.toNat).Held) v3_1.toNat).Frame).Head).ToDs)::.bool ((((gd ((gd v2_2 v2_1.toNat).Held) v3_1.toNat).Frame).Head).FromDs)::.bool ((((gd ((gd v2_2 v2_1.toNat).Held) v3_1.toNat).Frame).Head).More)::.bool ((((gd ((gd v2_2 v2_1.toNat).Held) v3_1.toNat).Frame).Head).Retry)::.bool ((((gd ((gd v2_2 v2_1.toNat).Held) v3_1.toNat).Frame).Head).Sleep)::.bool ((((gd ((gd v2_2 v2_1.toNat).Held) v3_1.toNat).Frame).Head).MoreData)::.bool ((((gd ((gd v2_2 v2_1.toNat).Held) v3_1.toNat).Frame).Head).Protected)::.int .i64 ((((gd ((gd v2_2 v2_1.toNat).Held) v3_1.toNat).Frame).Head).Duration)::.int .u8 (((((gd ((gd v2_2 v2_1.toNat).Held) v3_1.toNat).Frame).Head).A1).x0)::.int .u8 (((((gd ((gd v2_2 v2_1.toNat).Held) v3_1.toNat).Frame).Head).A1).x1)::.int .u8 (((((gd ((gd v2_2 v2_1.toNat).Held) v3_1.toNat).Frame).Head).A1).x2)::.int .u8 (((((gd ((gd v2_2 v2_1.toNat).Held) v3_1.toNat).Frame).Head).A1).x3)::.int .u8 (((((gd ((gd v2_2 v2_1.toNat).Held) v3_1.toNat).Frame).Head).A1).x4)::.int .u8 (((((gd ((gd v2_2 v2_1.toNat).Held) v3_1.toNat).Frame).Head).A1).x5)::.int .u8 (((((gd ((gd v2_2 v2_1.toNat).Held) v3_1.toNat).Frame).Head).A2).x0)::.int .u8 (((((gd ((gd v2_2 v2_1.toNat).Held) v3_1.toNat).Frame).Head).A2).x1)::.int .u8 (((((gd ((gd v2_2 v2_1.toNat).Held) v3_1.toNat).Frame).Head).A2).x2)::.int .u8 (((((gd ((gd v2_2 v2_1.toNat).Held) v3_1.toNat).Frame).Head).A2).x3)::.int .u8 (((((gd ((gd v2_2 v2_1.toNat).Held) v3_1.toNat).Frame).Head).A2).x4)::.int .u8 (((((gd ((gd v2_2 v2_1.toNat).Held) v3_1.toNat).Frame).Head).A2).x5)::.int .u8 (((((gd ((gd v2_2 v2_1.toNat).Held) v3_1.toNat).Frame).Head).A3).x0)::.int .u8 (((((gd ((gd v2_2 v2_1.toNat).Held) v3_1.toNat).Frame).Head).A3).x1)::.int .u8 (((((gd ((gd v2_2 v2_1.toNat).Held) v3_1.toNat).Frame).Head).A3).x2)::.int .u8 (((((gd ((gd v2_2 v2_1.toNat).Held) v3_1.toNat).Frame).Head).A3).x3)::.int .u8 (((((gd ((gd v2_2 v2_1.toNat).Held) v3_1.toNat).Frame).Head).A3).x4)::.int .u8 (((((gd ((gd v2_2 v2_1.toNat).Held) v3_1.toNat).Frame).Head).A3).x5)::.int .u8 (((((gd ((gd v2_2 v2_1.toNat).Held) v3_1.toNat).Frame).Head).A4).x0)::.int .u8 (((((gd ((gd v2_2 v2_1.toNat).Held) v3_1.toNat).Frame).Head).A4).x1)::.int .u8 (((((gd ((gd v2_2 v2_1.toNat).Held) v3_1.toNat).Frame).Head).A4).x2)::.int .u8 (((((gd ((gd v2_2 v2_1.toNat).Held) v3_1.toNat).Frame).Head).A4).x3)::.int .u8 (((((gd ((gd v2_2 v2_1.toNat).Held) v3_1.toNat).Frame).Head).A4).x4)::.int .u8 (((((gd ((gd v2_2 v2_1.toNat).Held) v3_1.toNat).Frame).Head).A4).x5)::.int .i64 ((((gd ((gd v2_2 v2_1.toNat).Held) v3_1.toNat).Frame).Head).Seq)::.int .i64 ((((gd ((gd v2_2 v2_1.toNat).Held) v3_1.toNat).Frame).Head).Frag)::.int .i64 ((((gd ((gd v2_2 v2_1.toNat).Held) v3_1.toNat).Frame).Head).Tid)::.int .u8 ((((gd ((gd v2_2 v2_1.toNat).Held) v3_1.toNat).Frame).Head).Ack)::.bool ((((gd ((gd v2_2 v2_1.toNat).Held) v3_1.toNat).Frame).Head).Amsdu)::.bool ((((gd ((gd v2_2 v2_1.toNat).Held) v3_1.toNat).Frame).Head).Eosp)::.ro 1 ((((gd ((gd v2_2 v2_1.toNat).Held) v3_1.toNat).Frame).Body).length) false (enR xM (((gd ((gd v2_2 v2_1.toNat).Held) v3_1.toNat).Frame).Body))::[]),.ptr 0 0 0 0,.ptr 1 0 0 0,.ptr 2 0 0 0]) rfl (by simp only [go_sem]) rfl ?_
      simp only [lC,lN,Nat.reduceAdd,Nat.reduceSub,rS,rZ,aC,aN]
      refine sq zA ?_
      simp only [go_sem,Nat.reduceAdd]
      refine sq zA ?_
      simp only [go_sem,Nat.reduceLeDiff,Nat.reduceLT,Nat.reduceAdd]
      repeat ((with_reducible refine aI ?_ ?_);exact an5)
      refine zK ?_
      refine sq zA ?_
      simp only [go_sem]
      refine condM' rfl trivial (fun hc=>?_) (fun hc=>?_)
      ·have hk19:(bLe (wr .i64 (((gd ((gd v2_2 v2_1.toNat).Held) v3_1.toNat).At)+p0.Stay)) p1)=false:=by simpa using hc
       replace H:=zZ hc H
       refine rg zA ?_
       simp only [go_sem]
       refine sq zA ?_
       simp only [go_sem]
       refine rg zA ?_
       simp only [go_sem]
       refine xQ zQ zA 0 ?_
       simp only [zM,tZ,dZ,go_sem]
       repeat ((with_reducible refine aI ?_ ?_);exact an0)
       refine wS ?_
       refine yM rfl trivial (fun hc=>?_) (fun hc=>?_)
       ·simp [hk19] at hc
       refine rg zA ?_
       simp only [go_sem]
       refine rg zA ?_
       simp only [go_sem]
       refine ⟨_,(Option.some.inj H).symm,?_⟩
       refine zT ⟨[some 0,some 1,some 2,some 3,some 4,some 5,some 6,some 7,some 8,some 9],?_,?_,by rfl,by rfl⟩
       ·simp [CvL,Cv,zX]
       ·exact ⟨cv,cv,cv,cv,zD,zD,(qP (i:=v2_1.toNat) (C:=pcC zC 2 tY v2_2 V) cl (yS zH) (fun x y hx=>by simp only [xG hx]) (fun x y hx=>by simp only [xG hx]) (fun y hy=>match y,hy with|0,_=>(by simp only [vV,and_false,if_false,reduceCtorEq];first|exact yW _ (yS zH _ _)|(simp [Cv,zX];done)|(simp [Cv,zX];omega))|1,_=>(by simp only [vV,and_false,if_false,Nat.reduceEqDiff];first|exact yW _ (yS zH _ _)|(simp [Cv,zX];done)|(simp [Cv,zX];omega))|2,_=>(by simp only [vV,and_true,if_true];first|exact yW _ (yS zH _ _)|(simp [Cv,zX];done)|(simp [Cv,zX];omega))|(y+3),h=>absurd h nlt)),(zW nfA),(zW nfA),(zW nfA),trivial⟩
      have hk19:(bLe (wr .i64 (((gd ((gd v2_2 v2_1.toNat).Held) v3_1.toNat).At)+p0.Stay)) p1)=true:=by simpa using hc
      replace H:=yA hc H
      obtain ⟨f20,H⟩:=nC H
      refine rg zA ?_
      simp only [go_sem,Nat.reduceLeDiff,Nat.reduceLT,Nat.reduceAdd,Nat.reduceBEq,reduceCtorEq,f20]
      repeat ((with_reducible refine aI ?_ ?_);exact an1)
      refine sq zA ?_
      simp only [go_sem]
      refine rg zA ?_
      simp only [go_sem]
      refine xQ zQ zA 0 ?_
      simp only [zM,tZ,dZ,go_sem]
      repeat ((with_reducible refine aI ?_ ?_);exact an1)
      refine wS ?_
      refine yM rfl trivial (fun hc=>?_) (fun hc=>?_)
      rotate_left
      ·simp [hk19] at hc
      refine sq zA ?_
      simp only [go_sem]
      refine rg zA ?_
      simp only [go_sem]
      obtain ⟨q29,H,hq30⟩:=bsi H
      replace hq30:=hn2_3 _ (Option.some.inj hq30).symm
      obtain rfl:=(Option.some.inj hq30).symm
      refine xQ zQ zA 1 ?_
      simp only [zM,tS,tZ,dS,dZ,go_sem]
      repeat ((with_reducible refine aI ?_ ?_);exact an1)
      refine wS ?_
      refine zK ?_
      refine sq zA ?_
      simp only [go_sem]
      refine yM rfl trivial (fun hc=>?_) (fun hc=>?_)
      ·have hk21:(bEq v3_1 (-1))=true:=by simpa using hc
       replace H:=yA hc H
       refine sq zA ?_
       simp only [go_sem]
       refine rg zA ?_
       simp only [go_sem]
       refine xQ zQ zA 2 ?_
       simp only [zM,tS,tZ,dS,dZ,go_sem,Nat.reduceAdd]
       repeat ((with_reducible refine aI ?_ ?_);exact an1)
       refine wS ?_
       try simp only [go_sem]
       refine xQ zQ zA 0 ?_
       simp only [zM,tZ,dZ,go_sem]
       repeat ((with_reducible refine aI ?_ ?_);exact an1)
       refine wS ?_
       refine rg zA ?_
       simp only [go_sem]
       obtain ⟨hz,H⟩:=yT.1 H
       have hz:v2_1 < 1000000:=by simpa [bLt] using hz
       have hwr:(wr .i64 (v2_1+1)).toNat=v2_1.toNat+1:=by rw [qB (by omega)];omega
       refine kLP_next2 (g:=zC) (held:=fun x=>x.Held) (L:=v2_2) (i:=v2_1.toNat) (a:=(gd v2_2 v2_1.toNat)) zH (Option.some.inj H).symm (by omega) hV List.length_set (fun V=>rfl) rfl (fun y h1 h2=>match y,h1,h2 with|0,_,_=>rfl|1,_,_=>rfl|2,h,_=>absurd rfl h|(y+3),_,h=>absurd h nlt) ?_
       refine zT ⟨[some 0,some 1,some 2,some 3,some 4,some 5,some 6,some 7,some 12,some 9],?_,?_,by rfl,by rfl⟩
       ·simp [CvL,Cv,zX]
       ·exact ⟨cv,cv,cv,cv,zD,zD,(qP (i:=v2_1.toNat) (C:=pcC zC 2 tY v2_2 V) cl (yS zH) (fun x y hx=>by simp only [xG hx]) (fun x y hx=>by simp only [xG hx]) (fun y hy=>match y,hy with|0,_=>(by simp only [vV,and_false,if_false,reduceCtorEq];first|exact yW _ (yS zH _ _)|(simp [Cv,zX];done)|(simp [Cv,zX];omega))|1,_=>(by simp only [vV,and_false,if_false,Nat.reduceEqDiff];first|exact yW _ (yS zH _ _)|(simp [Cv,zX];done)|(simp [Cv,zX];omega))|2,_=>(by simp only [vV,and_true,if_true];first|exact yW _ (yS zH _ _)|(simp [Cv,zX];done)|(simp [Cv,zX];omega))|(y+3),h=>absurd h nlt)),(zW nfA),zS xE cl (wW (f:=zI) v2_3 [(eF ((gd ((gd v2_2 v2_1.toNat).Held) v3_1.toNat).Frame))] (fun _ _ _ _=>rfl) (wF (f:=zI) [(eF ((gd ((gd v2_2 v2_1.toNat).Held) v3_1.toNat).Frame))] (fun _ _=>rfl) rfl)),zS zV cl (fun _ _ _ _=>rfl),trivial⟩
      have hk21:(bEq v3_1 (-1))=false:=by simpa using hc
      replace H:=zZ hc H
      refine rg zA ?_
      simp only [go_sem]
      refine zK ?_
      refine sq zA ?_
      simp only [go_sem]
      refine wN ?_
      refine xX (fun s:Int × (List TFrame) × (List TStored) × Int=>(.sl 14 43 0 s.2.2.1.length false::.fn 68 [.ptr 0 0 0 0,.ptr 1 0 0 0,.ptr 2 0 0 0]::.top::.top::.top::.int .i64 s.2.2.2::.int .i64 s.1::tp 35 [])) (fun s=>[.lit 25 [.int .i64 p0.Limit,.int .i64 p0.Stay,.sl 6 3 0 v2_2.length false,.sl 7 43 0 r14.length false],.lit 3 [.int .i64 p1],.lit 52 [.sl 13 41 0 s.2.1.length false],.lit 25 [.int .i64 0,.int .i64 0,.ro 0 0 true (fun _ _=>.top),.ro 0 0 true (fun _ _=>.top)],.dead,.dead,.row 57 3 v2_2.length (upc (pcC zC 2 tY v2_2 V) v2_1.toNat 2 [.sl 14 43 0 s.2.2.1.length false]),.row 61 43 r14.length (enR zE r14),.dead,.dead,.dead,.dead,.dead,.row 33 41 s.2.1.length (enR zI s.2.1),.row 61 43 s.2.2.1.length (enR zE s.2.2.1)]) (fun e:(List TStored) × Int × (List TFrame)=>(.sl 13 43 0 e.1.length false::tp 4 (.int .i64 e.2.1::tp 36 []))) (fun e=>[.lit 25 [.int .i64 p0.Limit,.int .i64 p0.Stay,.sl 6 3 0 v2_2.length false,.sl 7 43 0 r14.length false],.lit 3 [.int .i64 p1],.lit 52 [.sl 14 41 0 e.2.2.length false],.lit 25 [.int .i64 0,.int .i64 0,.ro 0 0 true (fun _ _=>.top),.ro 0 0 true (fun _ _=>.top)],.dead,.dead,.row 57 3 v2_2.length (upc (pcC zC 2 tY v2_2 V) v2_1.toNat 2 [.sl 13 43 0 e.1.length false]),.row 61 43 r14.length (enR zE r14),.dead,.dead,.dead,.dead,.dead,.row 61 43 e.1.length (enR zE e.1),.row 33 41 e.2.2.length (enR zI e.2.2)]) H ?_ (fun s o H hn1_4 hn2_4=>?_) (fun e H=>?_)
      ·refine zT ⟨[some 0,some 1,some 2,some 3,some 4,some 5,some 6,some 7,some 8,some 9,some 10,some 11,some 12,some 12,some 9],?_,?_,by rfl,by rfl⟩
       ·simp [CvL,Cv,zX,tp]
       ·exact ⟨cv,cv,cv,cv,zD,zD,(qP (i:=v2_1.toNat) (C:=pcC zC 2 tY v2_2 V) cl (yS zH) (fun x y hx=>by simp only [xG hx]) (fun x y hx=>by simp only [xG hx]) (fun y hy=>match y,hy with|0,_=>(by simp only [vV,and_false,if_false,reduceCtorEq];first|exact yW _ (yS zH _ _)|(simp [Cv,zX];done)|(simp [Cv,zX];omega))|1,_=>(by simp only [vV,and_false,if_false,Nat.reduceEqDiff];first|exact yW _ (yS zH _ _)|(simp [Cv,zX];done)|(simp [Cv,zX];omega))|2,_=>(by simp only [vV,and_true,if_true];first|exact yW _ (yS zH _ _)|(simp [Cv,zX];done)|(simp [Cv,zX];omega))|(y+3),h=>absurd h nlt)),(zW nfA),zD,zD,zD,zD,zD,zS xE cl (wW (f:=zI) v2_3 [(eF ((gd ((gd v2_2 v2_1.toNat).Held) v3_1.toNat).Frame))] (fun _ _ _ _=>rfl) (wF (f:=zI) [(eF ((gd ((gd v2_2 v2_1.toNat).Held) v3_1.toNat).Frame))] (fun _ _=>rfl) rfl)),zS zV cl (fun _ _ _ _=>rfl),trivial⟩
      ·obtain ⟨v4_1,v4_2,v4_3,v4_4⟩:=s
       unfold cE at H
       delta eF at H
       try dsimp only at H ⊢
       try simp only [tp]
       refine zK ?_
       refine sq zA ?_
       simp only [go_sem,Nat.reduceAdd]
       repeat ((with_reducible refine aI ?_ ?_);exact an0)
       refine condM' rfl trivial (fun hc=>?_) (fun hc=>?_)
       ·have hk22:(bLt v4_1 (v4_3.length:Nat))=false:=by simpa using hc
        replace H:=zZ hc H
        refine rg zA ?_
        simp only [go_sem]
        refine ⟨_,(Option.some.inj H).symm,?_⟩
        refine zT ⟨[some 0,some 1,some 2,some 3,some 4,some 5,some 6,some 7,some 8,some 9,some 10,some 11,some 12,some 14,some 13],?_,?_,by rfl,by rfl⟩
        ·simp [CvL,Cv,zX]
        ·exact ⟨cv,cv,cv,cv,zD,zD,(qP (i:=v2_1.toNat) (C:=pcC zC 2 tY v2_2 V) cl (yS zH) (fun x y hx=>by simp only [xG hx]) (fun x y hx=>by simp only [xG hx]) (fun y hy=>match y,hy with|0,_=>(by simp only [vV,and_false,if_false,reduceCtorEq];first|exact yW _ (yS zH _ _)|(simp [Cv,zX];done)|(simp [Cv,zX];omega))|1,_=>(by simp only [vV,and_false,if_false,Nat.reduceEqDiff];first|exact yW _ (yS zH _ _)|(simp [Cv,zX];done)|(simp [Cv,zX];omega))|2,_=>(by simp only [vV,and_true,if_true];first|exact yW _ (yS zH _ _)|(simp [Cv,zX];done)|(simp [Cv,zX];omega))|(y+3),h=>absurd h nlt)),(zW nfA),zD,zD,zD,zD,zD,zS zV cl (fun _ _ _ _=>rfl),zS xE cl (fun _ _ _ _=>rfl),trivial⟩
       have hk22:(bLt v4_1 (v4_3.length:Nat))=true:=by simpa using hc
       replace H:=yA hc H
       refine rg zA ?_
       simp only [go_sem]
       refine zK ?_
       refine wN ?_
       refine zK ?_
       obtain ⟨f23,H⟩:=nI H
       refine rg zA ?_
       simp only [go_sem,Nat.reduceLT,Nat.reduceAdd,f23]
       repeat ((with_reducible refine aI ?_ ?_);exact an5)
       refine zK ?_
       refine qZ ?_
       refine xQ zQ zA 2 ?_
       simp only [zM,tS,tZ,dS,dZ,go_sem,Nat.reduceLT,Nat.reduceAdd]
       repeat ((with_reducible refine aI ?_ ?_);exact an0)
       refine gX (rs:=[.tmp 5]) Try.func68 (by kernel_rfl) rfl rfl Try.ntmps68 (caps:=[.ptr 0 0 0 0,.ptr 1 0 0 0,.ptr 2 0 0 0]) (tc:=[.agg (.int .u8 ((gd v4_3 v4_1.toNat).Cat)::.int .i64 ((gd v4_3 v4_1.toNat).At)::.int .u8 ((((gd v4_3 v4_1.toNat).Frame).Head).Kind)::.int .u8 ((((gd v4_3 v4_1.toNat).Frame).Head).Sub)::.bool ((((gd v4_3 v4_1.toNat).Frame).Head).ToDs)::.bool ((((gd v4_3 v4_1.toNat).Frame).Head).FromDs)::.bool ((((gd v4_3 v4_1.toNat).Frame).Head).More)::.bool ((((gd v4_3 v4_1.toNat).Frame).Head).Retry)::.bool ((((gd v4_3 v4_1.toNat).Frame).Head).Sleep)::.bool ((((gd v4_3 v4_1.toNat).Frame).Head).MoreData)::.bool ((((gd v4_3 v4_1.toNat).Frame).Head).Protected)::.int .i64 ((((gd v4_3 v4_1.toNat).Frame).Head).Duration)::.int .u8 (((((gd v4_3 v4_1.toNat).Frame).Head).A1).x0)::.int .u8 (((((gd v4_3 v4_1.toNat).Frame).Head).A1).x1)::.int .u8 (((((gd v4_3 v4_1.toNat).Frame).Head).A1).x2)::.int .u8 (((((gd v4_3 v4_1.toNat).Frame).Head).A1).x3)::.int .u8 (((((gd v4_3 v4_1.toNat).Frame).Head).A1).x4)::.int .u8 (((((gd v4_3 v4_1.toNat).Frame).Head).A1).x5)::.int .u8 (((((gd v4_3 v4_1.toNat).Frame).Head).A2).x0)::.int .u8 (((((gd v4_3 v4_1.toNat).Frame).Head).A2).x1)::.int .u8 (((((gd v4_3 v4_1.toNat).Frame).Head).A2).x2)::.int .u8 (((((gd v4_3 v4_1.toNat).Frame).Head).A2).x3)::.int .u8 (((((gd v4_3 v4_1.toNat).Frame).Head).A2).x4)::.int .u8 (((((gd v4_3 v4_1.toNat).Frame).Head).A2).x5)::.int .u8 (((((gd v4_3 v4_1.toNat).Frame).Head).A3).x0)::.int .u8 (((((gd v4_3 v4_1.toNat).Frame).Head).A3).x1)::.int .u8 (((((gd v4_3 v4_1.toNat).Frame).Head).A3).x2)::.int .u8 (((((gd v4_3 v4_1.toNat).Frame).Head).A3).x3)::.int .u8 (((((gd v4_3 v4_1.toNat).Frame).Head).A3).x4)::.int .u8 (((((gd v4_3 v4_1.toNat).Frame).Head).A3).x5)::.int .u8 (((((gd v4_3 v4_1.toNat).Frame).Head).A4).x0)::.int .u8 (((((gd v4_3 v4_1.toNat).Frame).Head).A4).x1)::.int .u8 (((((gd v4_3 v4_1.toNat).Frame).Head).A4).x2)::.int .u8 (((((gd v4_3 v4_1.toNat).Frame).Head).A4).x3)::.int .u8 (((((gd v4_3 v4_1.toNat).Frame).Head).A4).x4)::.int .u8 (((((gd v4_3 v4_1.toNat).Frame).Head).A4).x5)::.int .i64 ((((gd v4_3 v4_1.toNat).Frame).Head).Seq)::.int .i64 ((((gd v4_3 v4_1.toNat).Frame).Head).Frag)::.int .i64 ((((gd v4_3 v4_1.toNat).Frame).Head).Tid)::.int .u8 ((((gd v4_3 v4_1.toNat).Frame).Head).Ack)::.bool ((((gd v4_3 v4_1.toNat).Frame).Head).Amsdu)::.bool ((((gd v4_3 v4_1.toNat).Frame).Head).Eosp)::.ro 1 ((((gd v4_3 v4_1.toNat).Frame).Body).length) false (enR xM (((gd v4_3 v4_1.toNat).Frame).Body))::[]),.ptr 0 0 0 0,.ptr 1 0 0 0,.ptr 2 0 0 0]) rfl (by simp only [go_sem]) rfl ?_
       simp only [lC,lN,Nat.reduceAdd,Nat.reduceSub,rS,rZ,aC,aN]
       refine sq zA ?_
       simp only [go_sem,Nat.reduceAdd]
       refine sq zA ?_
       simp only [go_sem,Nat.reduceLeDiff,Nat.reduceLT,Nat.reduceAdd]
       repeat ((with_reducible refine aI ?_ ?_);exact an5)
       refine zK ?_
       refine sq zA ?_
       simp only [go_sem]
       refine yM rfl trivial (fun hc=>?_) (fun hc=>?_)
       ·have hk24:(bLe (wr .i64 (((gd v4_3 v4_1.toNat).At)+p0.Stay)) p1)=true:=by simpa using hc
        replace H:=yA hc H
        obtain ⟨f25,H⟩:=nC H
        refine rg zA ?_
        simp only [go_sem,Nat.reduceLeDiff,Nat.reduceLT,Nat.reduceAdd,Nat.reduceBEq,reduceCtorEq,f25]
        repeat ((with_reducible refine aI ?_ ?_);exact an1)
        refine sq zA ?_
        simp only [go_sem]
        refine rg zA ?_
        simp only [go_sem]
        refine xQ zQ zA 1 ?_
        simp only [zM,tS,tZ,dS,dZ,go_sem]
        repeat ((with_reducible refine aI ?_ ?_);exact an1)
        refine wS ?_
        refine yM rfl trivial (fun hc=>?_) (fun hc=>?_)
        ·simp [hk24] at hc
        refine rg zA ?_
        simp only [go_sem]
        refine rg zA ?_
        simp only [go_sem]
        refine ⟨_,(Option.some.inj H).symm,?_⟩
        refine zT ⟨[some 0,some 1,some 2,some 3,some 4,some 5,some 6,some 7,some 8,some 9,some 10,some 11,some 12,some 18,some 14],?_,?_,by rfl,by rfl⟩
        ·simp [CvL,Cv,zX]
        ·exact ⟨cv,cv,cv,cv,zD,zD,(qP (i:=v2_1.toNat) (C:=pcC zC 2 tY v2_2 V) cl (yS zH) (fun x y hx=>by simp only [xG hx]) (fun x y hx=>by simp only [xG hx]) (fun y hy=>match y,hy with|0,_=>(by simp only [vV,and_false,if_false,reduceCtorEq];first|exact yW _ (yS zH _ _)|(simp [Cv,zX];done)|(simp [Cv,zX];omega))|1,_=>(by simp only [vV,and_false,if_false,Nat.reduceEqDiff];first|exact yW _ (yS zH _ _)|(simp [Cv,zX];done)|(simp [Cv,zX];omega))|2,_=>(by simp only [vV,and_true,if_true];first|exact yW _ (yS zH _ _)|(simp [Cv,zX];done)|(simp [Cv,zX];omega))|(y+3),h=>absurd h nlt)),(zW nfA),zD,zD,zD,zD,zD,zS xE cl (wW (f:=zI) v4_2 [(eF ((gd v4_3 v4_1.toNat).Frame))] (fun _ _ _ _=>rfl) (wF (f:=zI) [(eF ((gd v4_3 v4_1.toNat).Frame))] (fun _ _=>rfl) rfl)),zS zV cl (fun _ _ _ _=>rfl),trivial⟩
       have hk24:(bLe (wr .i64 (((gd v4_3 v4_1.toNat).At)+p0.Stay)) p1)=false:=by simpa using hc
       replace H:=zZ hc H
       refine rg zA ?_
       simp only [go_sem]
       refine sq zA ?_
       simp only [go_sem]
       refine rg zA ?_
       simp only [go_sem]
       refine xQ zQ zA 1 ?_
       simp only [zM,tS,tZ,dS,dZ,go_sem]
       repeat ((with_reducible refine aI ?_ ?_);exact an0)
       refine wS ?_
       refine yM rfl trivial (fun hc=>?_) (fun hc=>?_)
       rotate_left
       ·simp [hk24] at hc
       refine zK ?_
       obtain ⟨f26,H⟩:=nI H
       refine rg zA ?_
       simp only [go_sem,Nat.reduceLT,Nat.reduceAdd,f26]
       repeat ((with_reducible refine aI ?_ ?_);exact an5)
       refine rg zA ?_
       simp only [go_sem]
       refine rg zA ?_
       simp only [go_sem]
       refine ⟨_,(Option.some.inj H).symm,?_⟩
       refine zT ⟨[some 0,some 1,some 2,some 3,some 4,some 5,some 6,some 7,some 8,some 9,some 10,some 11,some 12,some 13,some 14],?_,?_,by rfl,by rfl⟩
       ·simp [CvL,Cv,zX]
       ·exact ⟨cv,cv,cv,cv,zD,zD,(qP (i:=v2_1.toNat) (C:=pcC zC 2 tY v2_2 V) cl (yS zH) (fun x y hx=>by simp only [xG hx]) (fun x y hx=>by simp only [xG hx]) (fun y hy=>match y,hy with|0,_=>(by simp only [vV,and_false,if_false,reduceCtorEq];first|exact yW _ (yS zH _ _)|(simp [Cv,zX];done)|(simp [Cv,zX];omega))|1,_=>(by simp only [vV,and_false,if_false,Nat.reduceEqDiff];first|exact yW _ (yS zH _ _)|(simp [Cv,zX];done)|(simp [Cv,zX];omega))|2,_=>(by simp only [vV,and_true,if_true];first|exact yW _ (yS zH _ _)|(simp [Cv,zX];done)|(simp [Cv,zX];omega))|(y+3),h=>absurd h nlt)),(zW nfA),zD,zD,zD,zD,zD,zS xE cl (fun _ _ _ _=>rfl),zS zV cl (tD (f:=zE) v4_3 v4_4.toNat 0 (TStored.mk ((gd v4_3 v4_1.toNat).Cat) ((gd v4_3 v4_1.toNat).At) (eF ((gd v4_3 v4_1.toNat).Frame))) (fun _ _ _ _=>rfl) (fun y hy=>match y,hy with|0,_=>rfl|1,_=>rfl|2,_=>rfl|3,_=>rfl|4,_=>rfl|5,_=>rfl|6,_=>rfl|7,_=>rfl|8,_=>rfl|9,_=>rfl|10,_=>rfl|11,_=>rfl|12,_=>rfl|13,_=>rfl|14,_=>rfl|15,_=>rfl|16,_=>rfl|17,_=>rfl|18,_=>rfl|19,_=>rfl|20,_=>rfl|21,_=>rfl|22,_=>rfl|23,_=>rfl|24,_=>rfl|25,_=>rfl|26,_=>rfl|27,_=>rfl|28,_=>rfl|29,_=>rfl|30,_=>rfl|31,_=>rfl|32,_=>rfl|33,_=>rfl|34,_=>rfl|35,_=>rfl|36,_=>rfl|37,_=>rfl|38,_=>rfl|39,_=>rfl|40,_=>rfl|41,_=>rfl|42,_=>rfl|(y+43),h=>absurd h nlt)),trivial⟩
      ·obtain ⟨w4_5,w4_6,w4_9⟩:=e
       try dsimp only at H ⊢
       try simp only [tp]
       try simp only [xS]
       refine zK ?_
       obtain ⟨f27,H⟩:=nS H
       refine rg zA ?_
       simp only [go_sem,Nat.reduceLeDiff,Nat.reduceAdd,f27]
       repeat ((with_reducible refine aI ?_ ?_);exact an3)
       refine zK ?_
       obtain ⟨f28,H⟩:=nS H
       refine rg zA ?_
       simp only [go_sem,f28]
       repeat ((with_reducible refine aI ?_ ?_);exact an5)
       refine rg zA ?_
       simp only [go_sem]
       refine xQ zQ zA 2 ?_
       simp only [zM,tS,tZ,dS,dZ,go_sem,Nat.reduceAdd]
       repeat ((with_reducible refine aI ?_ ?_);exact an3)
       refine wS ?_
       try simp only [go_sem]
       refine xQ zQ zA 0 ?_
       simp only [zM,tZ,dZ,go_sem]
       repeat ((with_reducible refine aI ?_ ?_);exact an3)
       refine wS ?_
       refine rg zA ?_
       simp only [go_sem]
       obtain ⟨hz,H⟩:=yT.1 H
       have hz:v2_1 < 1000000:=by simpa [bLt] using hz
       have hwr:(wr .i64 (v2_1+1)).toNat=v2_1.toNat+1:=by rw [qB (by omega)];omega
       refine kLP_next2 (g:=zC) (held:=fun x=>x.Held) (L:=v2_2) (i:=v2_1.toNat) (a:=(TSleeper.mk ((gd v2_2 v2_1.toNat).Aid) ((gd v2_2 v2_1.toNat).Asleep) (List.take w4_6.toNat w4_5))) zH (Option.some.inj H).symm (by omega) hV List.length_set (fun V=>rfl) rfl (fun y h1 h2=>match y,h1,h2 with|0,_,_=>rfl|1,_,_=>rfl|2,h,_=>absurd rfl h|(y+3),_,h=>absurd h nlt) ?_
       refine zT ⟨[some 0,some 1,some 2,some 3,some 4,some 5,some 6,some 7,some 14,some 13],?_,?_,by rfl,by rfl⟩
       ·simp [CvL,Cv,zX]
       ·exact ⟨cv,cv,cv,cv,zD,zD,(qP (i:=v2_1.toNat) (C:=pcC zC 2 tY v2_2 V) cl (yS zH) (fun x y hx=>by simp only [xG hx]) (fun x y hx=>by simp only [xG hx]) (fun y hy=>match y,hy with|0,_=>(by simp only [vV,and_false,if_false,reduceCtorEq];first|exact yW _ (yS zH _ _)|(simp [Cv,zX,(show (List.take w4_6.toNat w4_5).length=w4_6.toNat from tM (n:=w4_5.length) cl (by omega))];done)|(simp [Cv,zX,(show (List.take w4_6.toNat w4_5).length=w4_6.toNat from tM (n:=w4_5.length) cl (by omega))];omega))|1,_=>(by simp only [vV,and_false,if_false,Nat.reduceEqDiff];first|exact yW _ (yS zH _ _)|(simp [Cv,zX,(show (List.take w4_6.toNat w4_5).length=w4_6.toNat from tM (n:=w4_5.length) cl (by omega))];done)|(simp [Cv,zX,(show (List.take w4_6.toNat w4_5).length=w4_6.toNat from tM (n:=w4_5.length) cl (by omega))];omega))|2,_=>(by simp only [vV,and_true,if_true];first|exact yW _ (yS zH _ _)|(simp [Cv,zX,(show (List.take w4_6.toNat w4_5).length=w4_6.toNat from tM (n:=w4_5.length) cl (by omega))];done)|(simp [Cv,zX,(show (List.take w4_6.toNat w4_5).length=w4_6.toNat from tM (n:=w4_5.length) cl (by omega))];omega))|(y+3),h=>absurd h nlt)),(zW nfA),zS xE cl (fun _ _ _ _=>rfl),(CvB_pre zV (by rw [show (List.take w4_6.toNat w4_5).length=w4_6.toNat from tM (n:=w4_5.length) cl (by omega)];omega) (clr_row (fun _ _ _ _=>rfl))),trivial⟩
     ·try dsimp only at H ⊢
      try simp only [tp]
      try simp only [xS]
      refine sq zA ?_
      simp only [go_sem]
      refine rg zA ?_
      simp only [go_sem]
      refine xQ zQ zA 1 ?_
      simp only [zM,tS,tZ,dS,dZ,go_sem]
      repeat ((with_reducible refine aI ?_ ?_);exact an0)
      refine wS ?_
      refine zK ?_
      refine sq zA ?_
      simp only [go_sem,(by decide:bEq ((-1)) ((-1))=true)]
      refine yM rfl trivial (fun hc=>?_) (fun hc=>?_)
      rotate_left
      ·cases hc
      refine sq zA ?_
      simp only [go_sem]
      refine rg zA ?_
      simp only [go_sem]
      refine xQ zQ zA 2 ?_
      simp only [zM,tS,tZ,dS,dZ,go_sem,Nat.reduceAdd]
      repeat ((with_reducible refine aI ?_ ?_);exact an0)
      refine wS ?_
      try simp only [go_sem]
      refine xQ zQ zA 0 ?_
      simp only [zM,tZ,dZ,go_sem]
      repeat ((with_reducible refine aI ?_ ?_);exact an0)
      refine wS ?_
      refine rg zA ?_
      simp only [go_sem]
      obtain ⟨hz,H⟩:=yT.1 H
      have hz:v2_1 < 1000000:=by simpa [bLt] using hz
      have hwr:(wr .i64 (v2_1+1)).toNat=v2_1.toNat+1:=by rw [qB (by omega)];omega
      refine kLP_next2 (g:=zC) (held:=fun x=>x.Held) (L:=v2_2) (i:=v2_1.toNat) (a:=(gd v2_2 v2_1.toNat)) zH (Option.some.inj H).symm (by omega) hV List.length_set (fun V=>rfl) rfl (fun y h1 h2=>match y,h1,h2 with|0,_,_=>rfl|1,_,_=>rfl|2,h,_=>absurd rfl h|(y+3),_,h=>absurd h nlt) ?_
      refine zT ⟨[some 0,some 1,some 2,some 3,some 4,some 5,some 6,some 7,some 8,some 9],?_,?_,by rfl,by rfl⟩
      ·simp [CvL,Cv,zX]
      ·exact ⟨cv,cv,cv,cv,zD,zD,(qP (i:=v2_1.toNat) (C:=pcC zC 2 tY v2_2 V) cl (yS zH) (fun x y hx=>by simp only [xG hx]) (fun x y hx=>by simp only [xG hx]) (fun y hy=>match y,hy with|0,_=>(by simp only [vV,and_false,if_false,reduceCtorEq];first|exact yW _ (yS zH _ _)|(simp [Cv,zX];done)|(simp [Cv,zX];omega))|1,_=>(by simp only [vV,and_false,if_false,Nat.reduceEqDiff];first|exact yW _ (yS zH _ _)|(simp [Cv,zX];done)|(simp [Cv,zX];omega))|2,_=>(by simp only [vV,and_true,if_true];first|exact yW _ (yS zH _ _)|(simp [Cv,zX];done)|(simp [Cv,zX];omega))|(y+3),h=>absurd h nlt)),(zW nfA),zS xE cl (fun _ _ _ _=>rfl),zS zV cl (fun _ _ _ _=>rfl),trivial⟩
    ·obtain ⟨w2_1,w2_2⟩:=e
     try dsimp only at H ⊢
     try simp only [tp]
     try simp only [wX]
     refine thawP zV 2 6 (enR zC w2_1) (by rfl) (by rw [qY];exact Nat.le_refl _) (fun x v hx hv=>by simp [pcC,tY,valAt_get hv]) (fun x y l hx hy hl=>by rw [dN hx] at hl;simp only [tY,cond_true,Option.some.injEq] at hl;subst hl;exact match y,hy with|0,_=>(by simp [pcC,enR,zL,zC])|1,_=>(by simp [pcC,enR,zL,zC])|2,_=>(by simp [enR,zL,zC])|(y+3),h=>absurd h nlt) ?_
     simp only [List.set_cons_succ,List.set_cons_zero]
     refine zK ?_
     refine qZ ?_
     refine xQ zQ zA 2 ?_
     simp only [zM,tS,tZ,dS,dZ,go_sem]
     repeat ((with_reducible refine aI ?_ ?_);exact an0)
     refine gX (rs:=[]) Try.func66 (by kernel_rfl) rfl rfl Try.ntmps66 (caps:=[.ptr 0 0 0 0,.ptr 1 0 0 0,.ptr 2 0 0 0]) (tc:=[.ptr 0 0 0 3,.ptr 0 0 0 0,.ptr 1 0 0 0,.ptr 2 0 0 0]) rfl (by simp only [go_sem]) rfl ?_
     simp only [lC,lN,Nat.reduceAdd,Nat.reduceSub,rS,rZ,aC,aN]
     refine qZ ?_
     refine xQ zQ zA 5 ?_
     simp only [zM,tS,tZ,dS,dZ,go_sem,Nat.reduceLT,Nat.reduceAdd]
     repeat ((with_reducible refine aI ?_ ?_);exact an0)
     refine gX (rs:=[.tmp 4]) Try.func67 (by kernel_rfl) rfl rfl Try.ntmps67 (caps:=[]) (tc:=[.sl 7 43 0 r14.length false,.fn 68 [.ptr 0 0 0 0,.ptr 1 0 0 0,.ptr 2 0 0 0]]) rfl (by simp only [go_sem]) rfl ?_
     simp only [lC,lN,Nat.reduceAdd,Nat.reduceSub,rS,rZ,aC,aN]
     refine sq zA ?_
     simp only [go_sem]
     refine zK ?_
     refine qZ ?_
     refine xQ zQ zA 2 ?_
     simp only [zM,tS,tZ,dS,dZ,go_sem]
     repeat ((with_reducible refine aI ?_ ?_);exact an0)
     refine gX (rs:=[.tmp 4]) Try.func58 (by kernel_rfl) rfl rfl Try.ntmps58 (caps:=[]) (tc:=[.sl 7 43 0 r14.length false,.fn 68 [.ptr 0 0 0 0,.ptr 1 0 0 0,.ptr 2 0 0 0]]) rfl (by simp only [go_sem]) rfl ?_
     simp only [lC,lN,Nat.reduceAdd,Nat.reduceSub,rS,rZ,aC,aN]
     refine sq zA ?_
     simp only [go_sem]
     refine zK ?_
     refine sq zA ?_
     simp only [go_sem]
     repeat ((with_reducible refine aI ?_ ?_);exact an0)
     refine wN ?_
     refine xX (fun s:Int=>(.sl 7 43 0 r14.length false::.fn 68 [.ptr 0 0 0 0,.ptr 1 0 0 0,.ptr 2 0 0 0]::tp 5 (.int .i64 (r14.length:Nat)::.int .i64 s::tp 10 []))) (fun s=>[.lit 25 [.int .i64 p0.Limit,.int .i64 p0.Stay,.sl 6 3 0 w2_1.length false,.sl 7 43 0 r14.length false],.lit 3 [.int .i64 p1],.lit 52 [.sl 8 41 0 w2_2.length false],.lit 25 [.int .i64 0,.int .i64 0,.ro 0 0 true (fun _ _=>.top),.ro 0 0 true (fun _ _=>.top)],.dead,.dead,.row 57 3 w2_1.length (enR zC w2_1),.row 61 43 r14.length (enR zE r14),.row 33 41 w2_2.length (enR zI w2_2)]) (fun e:Unit=>(tp 19 [])) (fun e=>[.lit 25 [.int .i64 p0.Limit,.int .i64 p0.Stay,.sl 6 3 0 w2_1.length false,.sl 7 43 0 r14.length false],.lit 3 [.int .i64 p1],.lit 52 [.sl 8 41 0 w2_2.length false],.lit 25 [.int .i64 0,.int .i64 0,.ro 0 0 true (fun _ _=>.top),.ro 0 0 true (fun _ _=>.top)],.dead,.dead,.row 57 3 w2_1.length (enR zC w2_1),.row 61 43 r14.length (enR zE r14),.row 33 41 w2_2.length (enR zI w2_2)]) H ?_ (fun v5_1 o H hn1_5 hn2_5=>?_) (fun e H=>?_)
     ·refine zT ⟨[some 0,some 1,some 2,some 3,some 4,some 5,some 6,some 7,some 8],?_,?_,by rfl,by rfl⟩
      ·simp [CvL,Cv,zX,tp]
      ·exact ⟨cv,cv,cv,cv,zD,zD,(zW nfA),(zW nfA),(zW nfA),trivial⟩
     ·unfold fI at H
      try dsimp only at H ⊢
      try simp only [tp]
      refine sq zA ?_
      simp only [go_sem,Nat.reduceAdd]
      refine zK ?_
      refine condM' rfl trivial (fun hc=>?_) (fun hc=>?_)
      ·have hk31:(bLt v5_1 (r14.length:Nat))=false:=by simpa using hc
       replace H:=zZ hc H
       refine rg zA ?_
       simp only [go_sem]
       refine ⟨_,(Option.some.inj H).symm,?_⟩
       refine zT ⟨[some 0,some 1,some 2,some 3,some 4,some 5,some 6,some 7,some 8],?_,?_,by rfl,by rfl⟩
       ·simp [CvL,Cv]
       ·exact ⟨cv,cv,cv,cv,zD,zD,(zW nfA),(zW nfA),(zW nfA),trivial⟩
      have hk31:(bLt v5_1 (r14.length:Nat))=true:=by simpa using hc
      replace H:=yA hc H
      refine rg zA ?_
      simp only [go_sem]
      refine zK ?_
      refine wN ?_
      refine sq zA ?_
      simp only [go_sem]
      refine zK ?_
      refine qZ ?_
      obtain ⟨f32,H⟩:=nI H
      refine xQ zQ zA 5 ?_
      simp only [zM,tS,tZ,dS,dZ,go_sem,Nat.reduceLT,Nat.reduceAdd,f32]
      repeat ((with_reducible refine aI ?_ ?_);exact an0)
      refine gX (rs:=[.tmp 5]) Try.func68 (by kernel_rfl) rfl rfl Try.ntmps68 (caps:=[.ptr 0 0 0 0,.ptr 1 0 0 0,.ptr 2 0 0 0]) (tc:=[.agg (.int .u8 ((gd r14 v5_1.toNat).Cat)::.int .i64 ((gd r14 v5_1.toNat).At)::.int .u8 ((((gd r14 v5_1.toNat).Frame).Head).Kind)::.int .u8 ((((gd r14 v5_1.toNat).Frame).Head).Sub)::.bool ((((gd r14 v5_1.toNat).Frame).Head).ToDs)::.bool ((((gd r14 v5_1.toNat).Frame).Head).FromDs)::.bool ((((gd r14 v5_1.toNat).Frame).Head).More)::.bool ((((gd r14 v5_1.toNat).Frame).Head).Retry)::.bool ((((gd r14 v5_1.toNat).Frame).Head).Sleep)::.bool ((((gd r14 v5_1.toNat).Frame).Head).MoreData)::.bool ((((gd r14 v5_1.toNat).Frame).Head).Protected)::.int .i64 ((((gd r14 v5_1.toNat).Frame).Head).Duration)::.int .u8 (((((gd r14 v5_1.toNat).Frame).Head).A1).x0)::.int .u8 (((((gd r14 v5_1.toNat).Frame).Head).A1).x1)::.int .u8 (((((gd r14 v5_1.toNat).Frame).Head).A1).x2)::.int .u8 (((((gd r14 v5_1.toNat).Frame).Head).A1).x3)::.int .u8 (((((gd r14 v5_1.toNat).Frame).Head).A1).x4)::.int .u8 (((((gd r14 v5_1.toNat).Frame).Head).A1).x5)::.int .u8 (((((gd r14 v5_1.toNat).Frame).Head).A2).x0)::.int .u8 (((((gd r14 v5_1.toNat).Frame).Head).A2).x1)::.int .u8 (((((gd r14 v5_1.toNat).Frame).Head).A2).x2)::.int .u8 (((((gd r14 v5_1.toNat).Frame).Head).A2).x3)::.int .u8 (((((gd r14 v5_1.toNat).Frame).Head).A2).x4)::.int .u8 (((((gd r14 v5_1.toNat).Frame).Head).A2).x5)::.int .u8 (((((gd r14 v5_1.toNat).Frame).Head).A3).x0)::.int .u8 (((((gd r14 v5_1.toNat).Frame).Head).A3).x1)::.int .u8 (((((gd r14 v5_1.toNat).Frame).Head).A3).x2)::.int .u8 (((((gd r14 v5_1.toNat).Frame).Head).A3).x3)::.int .u8 (((((gd r14 v5_1.toNat).Frame).Head).A3).x4)::.int .u8 (((((gd r14 v5_1.toNat).Frame).Head).A3).x5)::.int .u8 (((((gd r14 v5_1.toNat).Frame).Head).A4).x0)::.int .u8 (((((gd r14 v5_1.toNat).Frame).Head).A4).x1)::.int .u8 (((((gd r14 v5_1.toNat).Frame).Head).A4).x2)::.int .u8 (((((gd r14 v5_1.toNat).Frame).Head).A4).x3)::.int .u8 (((((gd r14 v5_1.toNat).Frame).Head).A4).x4)::.int .u8 (((((gd r14 v5_1.toNat).Frame).Head).A4).x5)::.int .i64 ((((gd r14 v5_1.toNat).Frame).Head).Seq)::.int .i64 ((((gd r14 v5_1.toNat).Frame).Head).Frag)::.int .i64 ((((gd r14 v5_1.toNat).Frame).Head).Tid)::.int .u8 ((((gd r14 v5_1.toNat).Frame).Head).Ack)::.bool ((((gd r14 v5_1.toNat).Frame).Head).Amsdu)::.bool ((((gd r14 v5_1.toNat).Frame).Head).Eosp)::.ro 1 ((((gd r14 v5_1.toNat).Frame).Body).length) false (enR xM (((gd r14 v5_1.toNat).Frame).Body))::[]),.ptr 0 0 0 0,.ptr 1 0 0 0,.ptr 2 0 0 0]) rfl (by simp only [go_sem]) rfl ?_
      simp only [lC,lN,Nat.reduceAdd,Nat.reduceSub,rS,rZ,aC,aN]
      refine sq zA ?_
      simp only [go_sem,Nat.reduceAdd]
      refine sq zA ?_
      simp only [go_sem,Nat.reduceLeDiff,Nat.reduceLT,Nat.reduceAdd]
      repeat ((with_reducible refine aI ?_ ?_);exact an5)
      refine zK ?_
      refine sq zA ?_
      simp only [go_sem]
      refine condM' rfl trivial (fun hc=>?_) (fun hc=>?_)
      ·have hk33:(bLe (wr .i64 (((gd r14 v5_1.toNat).At)+p0.Stay)) p1)=false:=by simpa using hc
       replace H:=zZ hc H
       refine rg zA ?_
       simp only [go_sem]
       refine sq zA ?_
       simp only [go_sem]
       refine rg zA ?_
       simp only [go_sem]
       refine xQ zQ zA 0 ?_
       simp only [zM,tZ,dZ,go_sem]
       repeat ((with_reducible refine aI ?_ ?_);exact an0)
       refine wS ?_
       refine yM rfl trivial (fun hc=>?_) (fun hc=>?_)
       ·simp [hk33] at hc
       refine rg zA ?_
       simp only [go_sem]
       refine rg zA ?_
       simp only [go_sem]
       refine ⟨_,(Option.some.inj H).symm,?_⟩
       refine zT ⟨[some 0,some 1,some 2,some 3,some 4,some 5,some 6,some 7,some 8],?_,?_,by rfl,by rfl⟩
       ·simp [CvL,Cv,zX]
       ·exact ⟨cv,cv,cv,cv,zD,zD,(zW nfA),(zW nfA),(zW nfA),trivial⟩
      have hk33:(bLe (wr .i64 (((gd r14 v5_1.toNat).At)+p0.Stay)) p1)=true:=by simpa using hc
      replace H:=yA hc H
      obtain ⟨f34,H⟩:=nC H
      refine rg zA ?_
      simp only [go_sem,Nat.reduceLeDiff,Nat.reduceLT,Nat.reduceAdd,Nat.reduceBEq,reduceCtorEq,f34]
      repeat ((with_reducible refine aI ?_ ?_);exact an1)
      refine sq zA ?_
      simp only [go_sem]
      refine rg zA ?_
      simp only [go_sem]
      refine xQ zQ zA 0 ?_
      simp only [zM,tZ,dZ,go_sem]
      repeat ((with_reducible refine aI ?_ ?_);exact an1)
      refine wS ?_
      refine yM rfl trivial (fun hc=>?_) (fun hc=>?_)
      rotate_left
      ·simp [hk33] at hc
      refine sq zA ?_
      simp only [go_sem]
      refine rg zA ?_
      simp only [go_sem]
      obtain ⟨q43,H,hq44⟩:=bsi H
      replace hq44:=hn2_5 _ (Option.some.inj hq44).symm
      obtain rfl:=(Option.some.inj hq44).symm
      refine xQ zQ zA 1 ?_
      simp only [zM,tS,tZ,dS,dZ,go_sem]
      repeat ((with_reducible refine aI ?_ ?_);exact an1)
      refine wS ?_
      refine zK ?_
      refine sq zA ?_
      simp only [go_sem]
      refine yM rfl trivial (fun hc=>?_) (fun hc=>?_)
      ·have hk35:(bEq v5_1 (-1))=true:=by simpa using hc
       replace H:=yA hc H
       refine sq zA ?_
       simp only [go_sem]
       refine rg zA ?_
       simp only [go_sem]
       refine xQ zQ zA 2 ?_
       simp only [zM,tS,tZ,dS,dZ,go_sem,Nat.reduceAdd]
       repeat ((with_reducible refine aI ?_ ?_);exact an1)
       refine wS ?_
       try simp only [go_sem]
       refine xQ zQ zA 0 ?_
       simp only [zM,tZ,dZ,go_sem]
       repeat ((with_reducible refine aI ?_ ?_);exact an1)
       refine wS ?_
       refine zK ?_
       refine yL zQ zA 0 (by kernel_rfl) (by kernel_rfl) ?_
       intro an han
       simp only [wK,xR,vL,xrD,xoD,vM,wY,List.append_nil,xA,refs,mask,xZ,place,xI,wA,xK,hit,inL,xD,nrH,nrB,nrL,nr,rZ,Nat.sub_self,Nat.add_zero,Nat.zero_add,Nat.reduceSub,Nat.lt_add_one,go_sem,Nat.reduceLeDiff,Nat.reduceLT,Nat.reduceAdd,Nat.reduceSub,Nat.reduceBEq]
       repeat ((with_reducible refine aI ?_ ?_);exact an2)
       refine rg zA ?_
       simp only [go_sem,Nat.reduceLT,Nat.reduceAdd]
       obtain rfl:=Option.some.inj H
       refine ⟨[11,6,7,0,1,2,3,9],?_,?_,[],?_,?_,rfl⟩
       ·simp only [go_sem,Nat.reduceBEq]
        try exact at0
       ·simp only [go_sem,Nat.reduceBEq]
        try exact at0
       ·simp only [go_sem,Nat.reduceBEq]
        exact yY (zB (xN (by first|rfl|simp) (wW (f:=zI) w2_2 [(eF ((gd r14 v5_1.toNat).Frame))] (fun _ _ _ _=>rfl) (wF (f:=zI) [(eF ((gd r14 v5_1.toNat).Frame))] (fun _ _=>rfl) rfl))) (zB (yV (zB zF (zB zF (zB (xN (by first|rfl|simp) (fun _ _ _ _=>rfl)) (zB (xN (by first|rfl|simp) (fun _ _ _ _=>rfl)) zO))))) (zB zF zO)))
       ·simp only [go_sem,CvH]
      have hk35:(bEq v5_1 (-1))=false:=by simpa using hc
      replace H:=zZ hc H
      refine rg zA ?_
      simp only [go_sem]
      refine zK ?_
      refine sq zA ?_
      simp only [go_sem]
      refine wN ?_
      refine xX (fun s:Int × (List TFrame) × (List TStored) × Int=>(.sl 13 43 0 s.2.2.1.length false::.fn 68 [.ptr 0 0 0 0,.ptr 1 0 0 0,.ptr 2 0 0 0]::.top::.top::.top::.int .i64 s.2.2.2::.int .i64 s.1::tp 35 [])) (fun s=>[.lit 25 [.int .i64 p0.Limit,.int .i64 p0.Stay,.sl 6 3 0 w2_1.length false,.sl 13 43 0 s.2.2.1.length false],.lit 3 [.int .i64 p1],.lit 52 [.sl 12 41 0 s.2.1.length false],.lit 25 [.int .i64 0,.int .i64 0,.ro 0 0 true (fun _ _=>.top),.ro 0 0 true (fun _ _=>.top)],.dead,.dead,.row 57 3 w2_1.length (enR zC w2_1),.dead,.dead,.dead,.dead,.dead,.row 33 41 s.2.1.length (enR zI s.2.1),.row 61 43 s.2.2.1.length (enR zE s.2.2.1)]) (fun e:(List TStored) × Int × (List TFrame)=>(.sl 12 43 0 e.1.length false::tp 4 (.int .i64 e.2.1::tp 36 []))) (fun e=>[.lit 25 [.int .i64 p0.Limit,.int .i64 p0.Stay,.sl 6 3 0 w2_1.length false,.sl 12 43 0 e.1.length false],.dead,.lit 52 [.sl 13 41 0 e.2.2.length false],.lit 25 [.int .i64 0,.int .i64 0,.ro 0 0 true (fun _ _=>.top),.ro 0 0 true (fun _ _=>.top)],.dead,.dead,.row 57 3 w2_1.length (enR zC w2_1),.dead,.dead,.dead,.dead,.dead,.row 61 43 e.1.length (enR zE e.1),.row 33 41 e.2.2.length (enR zI e.2.2)]) H ?_ (fun s o H hn1_6 hn2_6=>?_) (fun e H=>?_)
      ·refine zT ⟨[some 0,some 1,some 2,some 3,some 4,some 5,some 6,some 7,some 8,some 9,some 10,some 11,some 11,some 7],?_,?_,by rfl,by rfl⟩
       ·simp [CvL,Cv,zX,tp]
       ·exact ⟨cv,cv,cv,cv,zD,zD,(zW nfA),zD,zD,zD,zD,zD,zS xE cl (wW (f:=zI) w2_2 [(eF ((gd r14 v5_1.toNat).Frame))] (fun _ _ _ _=>rfl) (wF (f:=zI) [(eF ((gd r14 v5_1.toNat).Frame))] (fun _ _=>rfl) rfl)),zS zV cl (fun _ _ _ _=>rfl),trivial⟩
      ·obtain ⟨v6_1,v6_2,v6_3,v6_4⟩:=s
       unfold F25_L6 at H
       delta eF at H
       try dsimp only at H ⊢
       try simp only [tp]
       refine zK ?_
       refine sq zA ?_
       simp only [go_sem,Nat.reduceAdd]
       repeat ((with_reducible refine aI ?_ ?_);exact an0)
       refine condM' rfl trivial (fun hc=>?_) (fun hc=>?_)
       ·have hk36:(bLt v6_1 (v6_3.length:Nat))=false:=by simpa using hc
        replace H:=zZ hc H
        refine rg zA ?_
        simp only [go_sem]
        refine ⟨_,(Option.some.inj H).symm,?_⟩
        refine zT ⟨[some 0,some 1,some 2,some 3,some 4,some 5,some 6,some 7,some 8,some 9,some 10,some 11,some 13,some 12],?_,?_,by rfl,by rfl⟩
        ·simp [CvL,Cv,zX]
        ·exact ⟨cv,zD,cv,cv,zD,zD,(zW nfA),zD,zD,zD,zD,zD,zS zV cl (fun _ _ _ _=>rfl),zS xE cl (fun _ _ _ _=>rfl),trivial⟩
       have hk36:(bLt v6_1 (v6_3.length:Nat))=true:=by simpa using hc
       replace H:=yA hc H
       refine rg zA ?_
       simp only [go_sem]
       refine zK ?_
       refine wN ?_
       refine zK ?_
       obtain ⟨f37,H⟩:=nI H
       refine rg zA ?_
       simp only [go_sem,Nat.reduceLT,Nat.reduceAdd,f37]
       repeat ((with_reducible refine aI ?_ ?_);exact an5)
       refine zK ?_
       refine qZ ?_
       refine xQ zQ zA 2 ?_
       simp only [zM,tS,tZ,dS,dZ,go_sem,Nat.reduceLT,Nat.reduceAdd]
       repeat ((with_reducible refine aI ?_ ?_);exact an0)
       refine gX (rs:=[.tmp 5]) Try.func68 (by kernel_rfl) rfl rfl Try.ntmps68 (caps:=[.ptr 0 0 0 0,.ptr 1 0 0 0,.ptr 2 0 0 0]) (tc:=[.agg (.int .u8 ((gd v6_3 v6_1.toNat).Cat)::.int .i64 ((gd v6_3 v6_1.toNat).At)::.int .u8 ((((gd v6_3 v6_1.toNat).Frame).Head).Kind)::.int .u8 ((((gd v6_3 v6_1.toNat).Frame).Head).Sub)::.bool ((((gd v6_3 v6_1.toNat).Frame).Head).ToDs)::.bool ((((gd v6_3 v6_1.toNat).Frame).Head).FromDs)::.bool ((((gd v6_3 v6_1.toNat).Frame).Head).More)::.bool ((((gd v6_3 v6_1.toNat).Frame).Head).Retry)::.bool ((((gd v6_3 v6_1.toNat).Frame).Head).Sleep)::.bool ((((gd v6_3 v6_1.toNat).Frame).Head).MoreData)::.bool ((((gd v6_3 v6_1.toNat).Frame).Head).Protected)::.int .i64 ((((gd v6_3 v6_1.toNat).Frame).Head).Duration)::.int .u8 (((((gd v6_3 v6_1.toNat).Frame).Head).A1).x0)::.int .u8 (((((gd v6_3 v6_1.toNat).Frame).Head).A1).x1)::.int .u8 (((((gd v6_3 v6_1.toNat).Frame).Head).A1).x2)::.int .u8 (((((gd v6_3 v6_1.toNat).Frame).Head).A1).x3)::.int .u8 (((((gd v6_3 v6_1.toNat).Frame).Head).A1).x4)::.int .u8 (((((gd v6_3 v6_1.toNat).Frame).Head).A1).x5)::.int .u8 (((((gd v6_3 v6_1.toNat).Frame).Head).A2).x0)::.int .u8 (((((gd v6_3 v6_1.toNat).Frame).Head).A2).x1)::.int .u8 (((((gd v6_3 v6_1.toNat).Frame).Head).A2).x2)::.int .u8 (((((gd v6_3 v6_1.toNat).Frame).Head).A2).x3)::.int .u8 (((((gd v6_3 v6_1.toNat).Frame).Head).A2).x4)::.int .u8 (((((gd v6_3 v6_1.toNat).Frame).Head).A2).x5)::.int .u8 (((((gd v6_3 v6_1.toNat).Frame).Head).A3).x0)::.int .u8 (((((gd v6_3 v6_1.toNat).Frame).Head).A3).x1)::.int .u8 (((((gd v6_3 v6_1.toNat).Frame).Head).A3).x2)::.int .u8 (((((gd v6_3 v6_1.toNat).Frame).Head).A3).x3)::.int .u8 (((((gd v6_3 v6_1.toNat).Frame).Head).A3).x4)::.int .u8 (((((gd v6_3 v6_1.toNat).Frame).Head).A3).x5)::.int .u8 (((((gd v6_3 v6_1.toNat).Frame).Head).A4).x0)::.int .u8 (((((gd v6_3 v6_1.toNat).Frame).Head).A4).x1)::.int .u8 (((((gd v6_3 v6_1.toNat).Frame).Head).A4).x2)::.int .u8 (((((gd v6_3 v6_1.toNat).Frame).Head).A4).x3)::.int .u8 (((((gd v6_3 v6_1.toNat).Frame).Head).A4).x4)::.int .u8 (((((gd v6_3 v6_1.toNat).Frame).Head).A4).x5)::.int .i64 ((((gd v6_3 v6_1.toNat).Frame).Head).Seq)::.int .i64 ((((gd v6_3 v6_1.toNat).Frame).Head).Frag)::.int .i64 ((((gd v6_3 v6_1.toNat).Frame).Head).Tid)::.int .u8 ((((gd v6_3 v6_1.toNat).Frame).Head).Ack)::.bool ((((gd v6_3 v6_1.toNat).Frame).Head).Amsdu)::.bool ((((gd v6_3 v6_1.toNat).Frame).Head).Eosp)::.ro 1 ((((gd v6_3 v6_1.toNat).Frame).Body).length) false (enR xM (((gd v6_3 v6_1.toNat).Frame).Body))::[]),.ptr 0 0 0 0,.ptr 1 0 0 0,.ptr 2 0 0 0]) rfl (by simp only [go_sem]) rfl ?_
       simp only [lC,lN,Nat.reduceAdd,Nat.reduceSub,rS,rZ,aC,aN]
       refine sq zA ?_
       simp only [go_sem,Nat.reduceAdd]
       refine sq zA ?_
       simp only [go_sem,Nat.reduceLeDiff,Nat.reduceLT,Nat.reduceAdd]
       repeat ((with_reducible refine aI ?_ ?_);exact an5)
       refine zK ?_
       refine sq zA ?_
       simp only [go_sem]
       refine yM rfl trivial (fun hc=>?_) (fun hc=>?_)
       ·have hk38:(bLe (wr .i64 (((gd v6_3 v6_1.toNat).At)+p0.Stay)) p1)=true:=by simpa using hc
        replace H:=yA hc H
        obtain ⟨f39,H⟩:=nC H
        refine rg zA ?_
        simp only [go_sem,Nat.reduceLeDiff,Nat.reduceLT,Nat.reduceAdd,Nat.reduceBEq,reduceCtorEq,f39]
        repeat ((with_reducible refine aI ?_ ?_);exact an1)
        refine sq zA ?_
        simp only [go_sem]
        refine rg zA ?_
        simp only [go_sem]
        refine xQ zQ zA 1 ?_
        simp only [zM,tS,tZ,dS,dZ,go_sem]
        repeat ((with_reducible refine aI ?_ ?_);exact an1)
        refine wS ?_
        refine yM rfl trivial (fun hc=>?_) (fun hc=>?_)
        ·simp [hk38] at hc
        refine rg zA ?_
        simp only [go_sem]
        refine rg zA ?_
        simp only [go_sem]
        refine ⟨_,(Option.some.inj H).symm,?_⟩
        refine zT ⟨[some 0,some 1,some 2,some 3,some 4,some 5,some 6,some 7,some 8,some 9,some 10,some 11,some 17,some 13],?_,?_,by rfl,by rfl⟩
        ·simp [CvL,Cv,zX]
        ·exact ⟨cv,cv,cv,cv,zD,zD,(zW nfA),zD,zD,zD,zD,zD,zS xE cl (wW (f:=zI) v6_2 [(eF ((gd v6_3 v6_1.toNat).Frame))] (fun _ _ _ _=>rfl) (wF (f:=zI) [(eF ((gd v6_3 v6_1.toNat).Frame))] (fun _ _=>rfl) rfl)),zS zV cl (fun _ _ _ _=>rfl),trivial⟩
       have hk38:(bLe (wr .i64 (((gd v6_3 v6_1.toNat).At)+p0.Stay)) p1)=false:=by simpa using hc
       replace H:=zZ hc H
       refine rg zA ?_
       simp only [go_sem]
       refine sq zA ?_
       simp only [go_sem]
       refine rg zA ?_
       simp only [go_sem]
       refine xQ zQ zA 1 ?_
       simp only [zM,tS,tZ,dS,dZ,go_sem]
       repeat ((with_reducible refine aI ?_ ?_);exact an0)
       refine wS ?_
       refine yM rfl trivial (fun hc=>?_) (fun hc=>?_)
       rotate_left
       ·simp [hk38] at hc
       refine zK ?_
       obtain ⟨f40,H⟩:=nI H
       refine rg zA ?_
       simp only [go_sem,Nat.reduceLT,Nat.reduceAdd,f40]
       repeat ((with_reducible refine aI ?_ ?_);exact an5)
       refine rg zA ?_
       simp only [go_sem]
       refine rg zA ?_
       simp only [go_sem]
       refine ⟨_,(Option.some.inj H).symm,?_⟩
       refine zT ⟨[some 0,some 1,some 2,some 3,some 4,some 5,some 6,some 7,some 8,some 9,some 10,some 11,some 12,some 13],?_,?_,by rfl,by rfl⟩
       ·simp [CvL,Cv,zX]
       ·exact ⟨cv,cv,cv,cv,zD,zD,(zW nfA),zD,zD,zD,zD,zD,zS xE cl (fun _ _ _ _=>rfl),zS zV cl (tD (f:=zE) v6_3 v6_4.toNat 0 (TStored.mk ((gd v6_3 v6_1.toNat).Cat) ((gd v6_3 v6_1.toNat).At) (eF ((gd v6_3 v6_1.toNat).Frame))) (fun _ _ _ _=>rfl) (fun y hy=>match y,hy with|0,_=>rfl|1,_=>rfl|2,_=>rfl|3,_=>rfl|4,_=>rfl|5,_=>rfl|6,_=>rfl|7,_=>rfl|8,_=>rfl|9,_=>rfl|10,_=>rfl|11,_=>rfl|12,_=>rfl|13,_=>rfl|14,_=>rfl|15,_=>rfl|16,_=>rfl|17,_=>rfl|18,_=>rfl|19,_=>rfl|20,_=>rfl|21,_=>rfl|22,_=>rfl|23,_=>rfl|24,_=>rfl|25,_=>rfl|26,_=>rfl|27,_=>rfl|28,_=>rfl|29,_=>rfl|30,_=>rfl|31,_=>rfl|32,_=>rfl|33,_=>rfl|34,_=>rfl|35,_=>rfl|36,_=>rfl|37,_=>rfl|38,_=>rfl|39,_=>rfl|40,_=>rfl|41,_=>rfl|42,_=>rfl|(y+43),h=>absurd h nlt)),trivial⟩
      ·obtain ⟨w6_5,w6_6,w6_9⟩:=e
       try dsimp only at H ⊢
       try simp only [tp]
       try simp only [xS]
       refine zK ?_
       obtain ⟨f41,H⟩:=nS H
       refine rg zA ?_
       simp only [go_sem,Nat.reduceLeDiff,Nat.reduceAdd,f41]
       repeat ((with_reducible refine aI ?_ ?_);exact an3)
       refine zK ?_
       obtain ⟨f42,H⟩:=nS H
       refine rg zA ?_
       simp only [go_sem,f42]
       repeat ((with_reducible refine aI ?_ ?_);exact an5)
       refine rg zA ?_
       simp only [go_sem]
       refine xQ zQ zA 2 ?_
       simp only [zM,tS,tZ,dS,dZ,go_sem,Nat.reduceAdd]
       repeat ((with_reducible refine aI ?_ ?_);exact an3)
       refine wS ?_
       try simp only [go_sem]
       refine xQ zQ zA 0 ?_
       simp only [zM,tZ,dZ,go_sem]
       repeat ((with_reducible refine aI ?_ ?_);exact an3)
       refine wS ?_
       refine zK ?_
       refine yL zQ zA 0 (by kernel_rfl) (by kernel_rfl) ?_
       intro an han
       simp only [wK,xR,vL,xrD,xoD,vM,wY,List.append_nil,xA,refs,mask,xZ,place,xI,wA,xK,hit,inL,xD,nrH,nrB,nrL,nr,rZ,Nat.sub_self,Nat.add_zero,Nat.zero_add,Nat.reduceSub,Nat.lt_add_one,go_sem,Nat.reduceLeDiff,Nat.reduceLT,Nat.reduceAdd,Nat.reduceSub,Nat.reduceBEq]
       repeat ((with_reducible refine aI ?_ ?_);exact an6)
       refine rg zA ?_
       simp only [go_sem,Nat.reduceLT,Nat.reduceAdd]
       obtain rfl:=Option.some.inj H
       refine ⟨[13,6,12,0,2,3],?_,?_,[],?_,?_,rfl⟩
       ·simp only [go_sem,Nat.reduceBEq]
        try exact at0
       ·simp only [go_sem,Nat.reduceBEq]
        try exact at0
       ·simp only [go_sem,Nat.reduceBEq]
        exact yY (zB (xN (by first|rfl|simp) (fun _ _ _ _=>rfl)) (zB (yV (zB zF (zB zF (zB (xN (by first|rfl|simp) (fun _ _ _ _=>rfl)) (zB (xN (show (List.take w6_6.toNat w6_5).length=w6_6.toNat from tM (n:=w6_5.length) cl (by omega)) (clr_row (fun _ _ _ _=>rfl))) zO))))) (zB zF zO)))
       ·simp only [go_sem,CvH]
     ·try dsimp only at H ⊢
      try simp only [tp]
      try simp only [xS]
      refine sq zA ?_
      simp only [go_sem]
      refine rg zA ?_
      simp only [go_sem]
      refine xQ zQ zA 1 ?_
      simp only [zM,tS,tZ,dS,dZ,go_sem]
      repeat ((with_reducible refine aI ?_ ?_);exact an0)
      refine wS ?_
      refine zK ?_
      refine sq zA ?_
      simp only [go_sem,(by decide:bEq ((-1)) ((-1))=true)]
      refine yM rfl trivial (fun hc=>?_) (fun hc=>?_)
      rotate_left
      ·cases hc
      refine sq zA ?_
      simp only [go_sem]
      refine rg zA ?_
      simp only [go_sem]
      refine xQ zQ zA 2 ?_
      simp only [zM,tS,tZ,dS,dZ,go_sem,Nat.reduceAdd]
      repeat ((with_reducible refine aI ?_ ?_);exact an0)
      refine wS ?_
      try simp only [go_sem]
      refine xQ zQ zA 0 ?_
      simp only [zM,tZ,dZ,go_sem]
      repeat ((with_reducible refine aI ?_ ?_);exact an0)
      refine wS ?_
      refine zK ?_
      refine yL zQ zA 0 (by kernel_rfl) (by kernel_rfl) ?_
      intro an han
      simp only [wK,xR,vL,xrD,xoD,vM,wY,List.append_nil,xA,refs,mask,xZ,place,xI,wA,xK,hit,inL,xD,nrH,nrB,nrL,nr,rZ,Nat.sub_self,Nat.add_zero,Nat.zero_add,Nat.reduceSub,Nat.lt_add_one,go_sem,Nat.reduceLeDiff,Nat.reduceLT,Nat.reduceAdd,Nat.reduceSub,Nat.reduceBEq]
      repeat ((with_reducible refine aI ?_ ?_);exact an4)
      refine rg zA ?_
      simp only [go_sem,Nat.reduceLT,Nat.reduceAdd]
      obtain rfl:=Option.some.inj H
      refine ⟨[8,6,7,0,1,2,3],?_,?_,[],?_,?_,rfl⟩
      ·simp only [go_sem,Nat.reduceBEq]
       try exact at0
      ·simp only [go_sem,Nat.reduceBEq]
       try exact at0
      ·simp only [go_sem,Nat.reduceBEq]
       exact yY (zB (xN (by first|rfl|simp) (fun _ _ _ _=>rfl)) (zB (yV (zB zF (zB zF (zB (xN (by first|rfl|simp) (fun _ _ _ _=>rfl)) (zB (xN (by first|rfl|simp) (fun _ _ _ _=>rfl)) zO))))) (zB zF zO)))
      ·simp only [go_sem,CvH]
  ·cases hb
 ·unfold body25 at hb
  split at hb<;>cases hb
end Go.Proofs.Ytefiemaoacmdkaa
