/-
  Contracts of functions: each computes its partial function.
-/
import Derived.Test.YtefiemaoacmdkaaZEp4
namespace Go.Proofs.Ytefiemaoacmdkaa
open Go.Am
set_option maxHeartbeats 4000000
set_option maxRecDepth 20000
set_option linter.unusedVariables false
set_option linter.unusedSimpArgs false
noncomputable def ct24dt0:Ct:=tab [(18,yR jQ)]
theorem ct24dt0_ok:wO Try.prog ct24dt0:=zE ok18 <| zU
theorem ct24dt0_18 (l:List AV) (h:List ABlk):ct24dt0 18 l h=yR jQ l h:=rfl
noncomputable def ct24dt1:Ct:=tab [(81,yR cF)]
theorem ct24dt1_ok:wO Try.prog ct24dt1:=zE ok81 <| zU
theorem ct24dt1_81 (l:List AV) (h:List ABlk):ct24dt1 81 l h=yR cF l h:=rfl
noncomputable def ct24dt2 (gi:Nat):Ct:=tab [(65,xN (tW gi))]
theorem ct24dt2_ok (gi:Nat):wO Try.prog (ct24dt2 gi):=zE (ok65fd gi) <| zU
theorem ct24dt2_65 (gi:Nat) (l:List AV) (h:List ABlk):(ct24dt2 gi) 65 l h=xN (tW gi) l h:=rfl
noncomputable def ct24dt3:Ct:=tab [(61,yR bY)]
theorem ct24dt3_ok:wO Try.prog ct24dt3:=zE ok61 <| zU
theorem ct24dt3_61 (l:List AV) (h:List ABlk):ct24dt3 61 l h=yR bY l h:=rfl
noncomputable def ct24dt4:Ct:=tab [(62,yR body62)]
theorem ct24dt4_ok:wO Try.prog ct24dt4:=zE ok62 <| zU
theorem ct24dt4_62 (l:List AV) (h:List ABlk):ct24dt4 62 l h=yR body62 l h:=rfl
noncomputable def ct24dt5:Ct:=tab [(63,edC tJ)]
theorem ct24dt5_ok:wO Try.prog ct24dt5:=zE ok63d <| zU
theorem ct24dt5_63 (l:List AV) (h:List ABlk):ct24dt5 63 l h=edC tJ l h:=rfl
noncomputable def ct24dt6:Ct:=tab [(90,yR body90)]
theorem ct24dt6_ok:wO Try.prog ct24dt6:=zE ok90 <| zU
theorem ct24dt6_90 (l:List AV) (h:List ABlk):ct24dt6 90 l h=yR body90 l h:=rfl
noncomputable def ct24dt7:Ct:=tab [(58,yR bX)]
theorem ct24dt7_ok:wO Try.prog ct24dt7:=zE ok58_0 <| zU
theorem ct24dt7_58 (l:List AV) (h:List ABlk):ct24dt7 58 l h=yR bX l h:=rfl
noncomputable def ct24dt8:Ct:=tab [(60,delN 61 43)]
theorem ct24dt8_ok:wO Try.prog ct24dt8:=zE ok60 <| zU
theorem ct24dt8_60 (l:List AV) (h:List ABlk):ct24dt8 60 l h=delN 61 43 l h:=rfl
noncomputable def ct24dt9:Ct:=tab [(52,edC uW)]
theorem ct24dt9_ok:wO Try.prog ct24dt9:=zE ok52_0 <| zU
theorem ct24dt9_52 (l:List AV) (h:List ABlk):ct24dt9 52 l h=edC uW l h:=rfl
noncomputable def F24_L1 (r5:Int × Bool) (r8:TBuffer) (v1_1:Int) (v1_2:TStored):Option (Lp (Int × TStored) ((TStored) ⊕ ((List TFrame) × (List TFrame) × TBuffer × Int))) :=
 bif (bLt v1_1 (((gd r8.List r5.1.toNat).Held).length:Nat)) then (need (inb v1_1 (((gd r8.List r5.1.toNat).Held).length)) <| (F90 (TStored.mk ((gd ((gd r8.List r5.1.toNat).Held) v1_1.toNat).Cat) ((gd ((gd r8.List r5.1.toNat).Held) v1_1.toNat).At) (eF ((gd ((gd r8.List r5.1.toNat).Held) v1_1.toNat).Frame))) v1_2).bind fun r24=>bif (bLt r24 0) then (need (inb v1_1 (((gd r8.List r5.1.toNat).Held).length)) <| some (.next (wr .i64 (v1_1+1),(TStored.mk ((gd ((gd r8.List r5.1.toNat).Held) v1_1.toNat).Cat) ((gd ((gd r8.List r5.1.toNat).Held) v1_1.toNat).At) (eF ((gd ((gd r8.List r5.1.toNat).Held) v1_1.toNat).Frame)))))) else (some (.next (wr .i64 (v1_1+1),v1_2)))) else (some (.done (.inl v1_2)))
noncomputable def F24 (p0:TBuffer) (p1:Int) (p2:Int) (p3:TFrame) (p4:Int):Option ((List TFrame) × (List TFrame) × TBuffer × Int) :=
 (F18 p0).bind fun r1=>bif (!bEq r1 0) then (some ([],[],(TBuffer.mk 0 0 [] []),r1)) else (bif ((bLt p1 1) || (bLt 255 p1)) then (some ([],[],(TBuffer.mk 0 0 [] []),2)) else ((F81 p0 p1).bind fun r5=>bif (!r5.2) then (some ([],[],(TBuffer.mk 0 0 [] []),6)) else ((bU r5.1.toNat p0).bind fun r8=>need (inb r5.1 r8.List.length) <| need (bif (!(bLt 3 p2)) then ((F61 p4).isSome) else true) <| bif ((bLt 3 p2) || (!(gt (F61 p4)))) then (some ([],[],(TBuffer.mk 0 0 [] []),2)) else ((F62 ((gd r8.List r5.1.toNat).Held) p4).bind fun r13=>bif r13 then (some ([],[],(TBuffer.mk 0 0 [] []),20)) else ((F63 p3).bind fun r16=>bif (gd r8.List r5.1.toNat).Asleep then (bif (bEq (((gd r8.List r5.1.toNat).Held).length:Nat) r8.Limit) then (bif (bLt (((gd r8.List r5.1.toNat).Held).length:Nat) 1) then (none) else (need (inb 0 (((gd r8.List r5.1.toNat).Held).length)) <| lp (loopD (fun s=>F24_L1 r5 r8 s.1 s.2) (1,(TStored.mk ((gd ((gd r8.List r5.1.toNat).Held) 0).Cat) ((gd ((gd r8.List r5.1.toNat).Held) 0).At) (eF ((gd ((gd r8.List r5.1.toNat).Held) 0).Frame))))) (fun w1_6=>bif (bLt p2 w1_6.Cat) then ((some (r8.List.set r5.1.toNat (TSleeper.mk ((gd r8.List r5.1.toNat).Aid) ((gd r8.List r5.1.toNat).Asleep) ((gd r8.List r5.1.toNat).Held)))).bind fun w29=>(some [r16]).bind fun w31=>some ([],w31,(TBuffer.mk r8.Limit r8.Stay w29 r8.Group),0)) else ((F58_0 ((gd r8.List r5.1.toNat).Held) w1_6.Cat).bind fun r33=>need (inb r33 (((gd r8.List r5.1.toNat).Held).length)) <| need (delb r33 (wr .i64 (r33+1)) (((gd r8.List r5.1.toNat).Held).length)) <| (some [(eF ((gd ((gd r8.List r5.1.toNat).Held) r33.toNat).Frame))]).bind fun w37=>(some (delL ((gd r8.List r5.1.toNat).Held) r33 (wr .i64 (r33+1)))).bind fun w39=>need (capb 120 (w39.length+1)) <| (some [(TStored.mk p2 p4 (eF r16))]).bind fun w42=>(some (w39 ++ [(TStored.mk p2 p4 (eF r16))])).bind fun w44=>(some (r8.List.set r5.1.toNat (TSleeper.mk ((gd r8.List r5.1.toNat).Aid) ((gd r8.List r5.1.toNat).Asleep) w44))).bind fun w46=>some ([],w37,(TBuffer.mk r8.Limit r8.Stay w46 r8.Group),0))) some)) else (need (capb 120 (((gd r8.List r5.1.toNat).Held).length+1)) <| (some [(TStored.mk p2 p4 (eF r16))]).bind fun w49=>(some ((gd r8.List r5.1.toNat).Held ++ [(TStored.mk p2 p4 (eF r16))])).bind fun w51=>(some (r8.List.set r5.1.toNat (TSleeper.mk ((gd r8.List r5.1.toNat).Aid) ((gd r8.List r5.1.toNat).Asleep) w51))).bind fun w53=>some ([],[],(TBuffer.mk r8.Limit r8.Stay w53 r8.Group),0))) else ((eR [r16]).bind fun r55=>(some (r8.List.set r5.1.toNat (TSleeper.mk ((gd r8.List r5.1.toNat).Aid) ((gd r8.List r5.1.toNat).Asleep) ((gd r8.List r5.1.toNat).Held)))).bind fun w57=>some (r55,[],(TBuffer.mk r8.Limit r8.Stay w57 r8.Group),0)))))))
noncomputable def body24d:List AV->Nat->AR
 | [v0,v1,v2,v3,v4],_=>.pure (aK 4 uA v0/\iK .i64 v1/\iK .u8 v2/\aK 41 wI v3/\iK .i64 v4/\(F24 (zY (aL v0)) (iA v1) (iA v2) (yF (aL v3)) (iA v4)).isSome=true) (.tup [.ro 41 (((gt (F24 (zY (aL v0)) (iA v1) (iA v2) (yF (aL v3)) (iA v4))).1).length) false (enR yD ((gt (F24 (zY (aL v0)) (iA v1) (iA v2) (yF (aL v3)) (iA v4))).1)),.ro 41 (((gt (F24 (zY (aL v0)) (iA v1) (iA v2) (yF (aL v3)) (iA v4))).2.1).length) false (enR yD ((gt (F24 (zY (aL v0)) (iA v1) (iA v2) (yF (aL v3)) (iA v4))).2.1)),.agg [.int .i64 (((gt (F24 (zY (aL v0)) (iA v1) (iA v2) (yF (aL v3)) (iA v4))).2.2.1).Limit),.int .i64 (((gt (F24 (zY (aL v0)) (iA v1) (iA v2) (yF (aL v3)) (iA v4))).2.2.1).Stay),.ro 3 ((((gt (F24 (zY (aL v0)) (iA v1) (iA v2) (yF (aL v3)) (iA v4))).2.2.1).List).length) false (enR zT (((gt (F24 (zY (aL v0)) (iA v1) (iA v2) (yF (aL v3)) (iA v4))).2.2.1).List)),.ro 43 ((((gt (F24 (zY (aL v0)) (iA v1) (iA v2) (yF (aL v3)) (iA v4))).2.2.1).Group).length) false (enR zJ (((gt (F24 (zY (aL v0)) (iA v1) (iA v2) (yF (aL v3)) (iA v4))).2.2.1).Group))],.int .i64 ((gt (F24 (zY (aL v0)) (iA v1) (iA v2) (yF (aL v3)) (iA v4))).2.2.2)])
 | _,_=>.fail
theorem ok24d:yU Try.prog 24 (xN body24d):=by
 refine eN body24d (rs:=[.tmp 10,.tmp 11,.cell 12 25,.tmp 13]) Try.func24 (by kernel_rfl) rfl rfl ?_
 intro l s ob v ns hb hob
 rcases hb with ⟨hb,rfl⟩|hb
 ·unfold body24d at hb
  split at hb
  ·rename_i v0 v1 v2 v3 v4
   injection hb with q1 q2;subst q1 q2
   obtain ⟨hk0_0,hk1_0,hk2_0,hk3_0,hk4_0,hob⟩:=hob
   obtain ⟨r,H⟩:=oE.1 hob
   rw [H,gt_some]
   have hw0:=fK hk0_0
   have hw1:=yB hk1_0
   have hw2:=yB hk2_0
   have hw3:=dV hk3_0
   have hw4:=yB hk4_0
   generalize zY (aL v0)=p0 at H hw0
   generalize iA v1=p1 at H hw1
   generalize iA v2=p2 at H hw2
   generalize yF (aL v3)=p3 at H hw3
   generalize iA v4=p4 at H hw4
   refine ⟨[.agg [.int .i64 p0.Limit,.int .i64 p0.Stay,.ro 3 p0.List.length false (enR zC p0.List),.ro 43 p0.Group.length false (enR zD p0.Group)],.int .i64 p1,.int .u8 p2,.agg (hC p3.Head (.ro 1 p3.Body.length false (enR xA p3.Body)::[])),.int .i64 p4],.tup [.ro 41 r.1.length false (enR yD r.1),.ro 41 r.2.1.length false (enR yD r.2.1),.agg [.int .i64 r.2.2.1.Limit,.int .i64 r.2.2.1.Stay,.ro 3 r.2.2.1.List.length false (enR zT r.2.2.1.List),.ro 43 r.2.2.1.Group.length false (enR zJ r.2.2.1.Group)],.int .i64 r.2.2.2],[],(fun E vs F=>tR hw0.1 F (fun vs F=>tR hw1.1 F (fun vs F=>tR hw2.1 F (fun vs F=>tR hw3.1 F (fun vs F=>tR hw4.1 F (fun vs F=>F)))))),by simp only [ren,tO],trivial,?_⟩
   rw [Try.ntmps24]
   simp only [lCl,lNl,Nat.reduceAdd,Nat.reduceSub,rS,rZ,aC,aN]
   unfold F24 at H
   try dsimp only at H
   refine sq zA ?_
   simp only [go_sem,Nat.reduceAdd]
   refine zZ ?_
   refine jB ?_
   refine xS zO zA 2 ?_
   simp only [zK,tS,tZ,dSl,dZ,go_sem,Nat.reduceLT,Nat.reduceAdd]
   repeat ((with_reducible refine aI ?_ ?_);exact an0)
   refine cM (rs:=[.tmp 4,.tmp 5,.tmp 6]) Try.func51 (by kernel_rfl) rfl rfl Try.ntmps51 (caps:=[]) (tc:=[.agg [.int .i64 p0.Limit,.int .i64 p0.Stay,.ro 3 p0.List.length false (enR zC p0.List),.ro 43 p0.Group.length false (enR zD p0.Group)],.int .i64 p1]) rfl (by simp only [go_sem]) rfl ?_
   simp only [lCl,lNl,Nat.reduceAdd,Nat.reduceSub,rS,rZ,aC,aN]
   refine sq zA ?_
   simp only [go_sem,Nat.reduceAdd]
   refine zZ ?_
   refine zZ ?_
   obtain ⟨r1,e2,H⟩:=bsi H
   refine rg ct24dt0_ok ?_
   simp only [go_sem,Nat.reduceLT,Nat.reduceAdd,ct24dt0_18,jQ,e2]
   repeat ((with_reducible refine aI ?_ ?_);exact an0)
   refine sq zA ?_
   simp only [go_sem]
   refine yX rfl trivial (fun hc=>?_) (fun hc=>?_)
   ·have hk3:(bEq r1 0)=false:=by simpa using hc
    replace H:=xH hc H
    refine sq zA ?_
    simp only [go_sem]
    refine rg zA ?_
    simp only [go_sem]
    refine xS zO zA 7 ?_
    simp only [zK,tS,tZ,dSl,dZ,go_sem,Nat.reduceLT,Nat.reduceAdd]
    repeat ((with_reducible refine aI ?_ ?_);exact an0)
    refine vN ?_
    refine zZ ?_
    refine uJ ?_
    refine sq zA ?_
    simp only [go_sem]
    refine yX rfl trivial (fun hc=>?_) (fun hc=>?_)
    rotate_left
    ·simp [hk3] at hc
    refine sq zA ?_
    simp only [go_sem,Nat.reduceAdd]
    repeat ((with_reducible refine aI ?_ ?_);exact an5)
    refine rg zA ?_
    simp only [go_sem,Nat.reduceLT,Nat.reduceAdd]
    obtain rfl:=Option.some.inj H
    refine ⟨[0,1,2,3],?_,?_,[],?_,?_,rfl⟩
    ·simp only [go_sem]
     try exact at0
    ·simp only [go_sem]
     try exact at0
    ·simp only [go_sem]
     exact qC (zM (yV (α:=TFrame)) (zM (yV (α:=TFrame)) (zM (qB (zM xF (zM xF (zM (yV (α:=TSleeper)) (zM (yV (α:=TStored)) xO))))) (zM xF xO))))
    ·simp only [go_sem,CvH]
   have hk3:(bEq r1 0)=true:=by simpa using hc
   replace H:=yM hc H
   refine rg zA ?_
   simp only [go_sem]
   refine zZ ?_
   refine sq zA ?_
   simp only [go_sem]
   repeat ((with_reducible refine aI ?_ ?_);exact an5)
   refine yX rfl trivial (fun hc=>?_) (fun hc=>?_)
   ·have hk4:((bLt p1 1) || (bLt 255 p1))=true:=by simpa using hc
    replace H:=xH hc H
    refine sq zA ?_
    simp only [go_sem]
    refine rg zA ?_
    simp only [go_sem]
    refine xS zO zA 7 ?_
    simp only [zK,tS,tZ,dSl,dZ,go_sem,Nat.reduceLT,Nat.reduceAdd]
    repeat ((with_reducible refine aI ?_ ?_);exact an0)
    refine vN ?_
    refine zZ ?_
    refine uJ ?_
    refine sq zA ?_
    simp only [go_sem,(by decide:bEq (2) (0)=false)]
    refine yX rfl trivial (fun hc=>?_) (fun hc=>?_)
    rotate_left
    ·cases hc
    refine sq zA ?_
    simp only [go_sem,Nat.reduceAdd]
    repeat ((with_reducible refine aI ?_ ?_);exact an5)
    refine rg zA ?_
    simp only [go_sem,Nat.reduceLT,Nat.reduceAdd]
    obtain rfl:=Option.some.inj H
    refine ⟨[0,1,2,3],?_,?_,[],?_,?_,rfl⟩
    ·simp only [go_sem]
     try exact at0
    ·simp only [go_sem]
     try exact at0
    ·simp only [go_sem]
     exact qC (zM (yV (α:=TFrame)) (zM (yV (α:=TFrame)) (zM (qB (zM xF (zM xF (zM (yV (α:=TSleeper)) (zM (yV (α:=TStored)) xO))))) (zM xF xO))))
    ·simp only [go_sem,CvH]
   have hk4:((bLt p1 1) || (bLt 255 p1))=false:=by simpa using hc
   replace H:=yM hc H
   refine rg zA ?_
   simp only [go_sem]
   refine zZ ?_
   obtain ⟨r5,e6,H⟩:=bsi H
   refine rg ct24dt1_ok ?_
   simp only [go_sem,Nat.reduceLT,Nat.reduceAdd,ct24dt1_81,cF,e6]
   repeat ((with_reducible refine aI ?_ ?_);exact an0)
   refine zZ ?_
   refine sq zA ?_
   simp only [go_sem]
   refine yX rfl trivial (fun hc=>?_) (fun hc=>?_)
   ·have hk7:(r5.2)=false:=by simpa using hc
    replace H:=xH hc H
    refine sq zA ?_
    simp only [go_sem]
    refine rg zA ?_
    simp only [go_sem]
    refine xS zO zA 7 ?_
    simp only [zK,tS,tZ,dSl,dZ,go_sem,Nat.reduceLT,Nat.reduceAdd]
    repeat ((with_reducible refine aI ?_ ?_);exact an0)
    refine vN ?_
    refine zZ ?_
    refine uJ ?_
    refine sq zA ?_
    simp only [go_sem,(by decide:bEq (6) (0)=false)]
    refine yX rfl trivial (fun hc=>?_) (fun hc=>?_)
    rotate_left
    ·cases hc
    refine sq zA ?_
    simp only [go_sem,Nat.reduceAdd]
    repeat ((with_reducible refine aI ?_ ?_);exact an5)
    refine rg zA ?_
    simp only [go_sem,Nat.reduceLT,Nat.reduceAdd]
    obtain rfl:=Option.some.inj H
    refine ⟨[0,1,2,3],?_,?_,[],?_,?_,rfl⟩
    ·simp only [go_sem]
     try exact at0
    ·simp only [go_sem]
     try exact at0
    ·simp only [go_sem]
     exact qC (zM (yV (α:=TFrame)) (zM (yV (α:=TFrame)) (zM (qB (zM xF (zM xF (zM (yV (α:=TSleeper)) (zM (yV (α:=TStored)) xO))))) (zM xF xO))))
    ·simp only [go_sem,CvH]
   have hk7:(r5.2)=true:=by simpa using hc
   replace H:=yM hc H
   refine rg zA ?_
   simp only [go_sem]
   refine zZ ?_
   obtain ⟨r8,e9,H⟩:=bsi H
   refine rg (ct24dt2_ok r5.1.toNat) ?_
   simp only [go_sem,Nat.reduceLT,Nat.reduceAdd,ct24dt2_65,tW,e9]
   repeat ((with_reducible refine aI ?_ ?_);exact an0)
   refine zZ ?_
   obtain ⟨f10,H⟩:=zN.1 H
   replace f10:=xD.1 f10
   refine qE zO zA (by kernel_rfl) (by kernel_rfl) ?_
   simp only [go_sem,Nat.reduceLeDiff,Nat.reduceLT,Nat.reduceAdd,f10]
   repeat ((with_reducible refine aI ?_ ?_);exact an5)
   refine rg zA ?_
   simp only [go_sem]
   refine xS zO zA 7 ?_
   simp only [zK,tS,tZ,dSl,dZ,go_sem,Nat.reduceLT,Nat.reduceAdd]
   repeat ((with_reducible refine aI ?_ ?_);exact an0)
   refine vN ?_
   refine zZ ?_
   refine uJ ?_
   refine sq zA ?_
   simp only [go_sem,(by decide:bEq (0) (0)=true)]
   refine yX rfl trivial (fun hc=>?_) (fun hc=>?_)
   ·cases hc
   refine zZ ?_
   obtain ⟨f11,H⟩:=zN.1 H
   replace f11:=g_iff.1 f11
   refine rg ct24dt3_ok ?_
   simp only [go_sem,ct24dt3_61,bY]
   repeat ((with_reducible refine And.intro ?_ ?_);focus (first|(with_reducible trivial)|omega|exact f11|(intro g;have q:=f11 (by first|exact g|(rw [g];rfl)|simpa using g);first|exact q|exact ⟨q.1,q.2.1⟩|exact q.2.2|omega|exact ⟨g,q⟩|exact ⟨trivial,q⟩|exact ⟨g,q.1,q.2.1⟩|exact ⟨g,q.2.2⟩)|(intro g;(try have q0:=f11 (by first|exact g|(rw [g];rfl)|simpa using g));and_intros<;>first|(with_reducible trivial)|assumption|exact nfc|(intro g2;rw [g,g2];rfl)|(intro g2;assumption)|(simp only [g,Bool.true_and,Bool.and_true,Bool.not_false,Bool.not_true];assumption)|grind)|(and_intros<;>first|(with_reducible trivial)|omega|assumption|exact nfc|first|exact rfl|exact trivial|exact uQ|exact .inr rfl|exact .inl rfl|exact fun x hx=>absurd hx (by omega))|grind))
   refine yX rfl trivial (fun hc=>?_) (fun hc=>?_)
   ·have hk12:((bLt 3 p2) || (!(gt (F61 p4))))=true:=by simpa using hc
    replace H:=xH hc H
    refine sq zA ?_
    simp only [go_sem,Nat.reduceAdd]
    repeat ((with_reducible refine aI ?_ ?_);exact an5)
    refine rg zA ?_
    simp only [go_sem,Nat.reduceLT,Nat.reduceAdd]
    obtain rfl:=Option.some.inj H
    refine ⟨[0,1,2,3],?_,?_,[],?_,?_,rfl⟩
    ·simp only [go_sem]
     try exact at0
    ·simp only [go_sem,Nat.reduceBEq]
     try exact at0
    ·simp only [go_sem]
     exact qC (zM (yV (α:=TFrame)) (zM (yV (α:=TFrame)) (zM (qB (zM xF (zM xF (zM (yV (α:=TSleeper)) (zM (yV (α:=TStored)) xO))))) (zM xF xO))))
    ·simp only [go_sem,CvH]
   have hk12:((bLt 3 p2) || (!(gt (F61 p4))))=false:=by simpa using hc
   replace H:=yM hc H
   refine zZ ?_
   obtain ⟨r13,e14,H⟩:=bsi H
   refine rg ct24dt4_ok ?_
   simp only [go_sem,Nat.reduceLT,Nat.reduceAdd,Nat.reduceSub,yA,ct24dt4_62,body62,e14]
   repeat ((with_reducible refine aI ?_ ?_);exact an0)
   refine yX rfl trivial (fun hc=>?_) (fun hc=>?_)
   ·have hk15:(r13)=true:=by simpa using hc
    replace H:=xH hc H
    refine sq zA ?_
    simp only [go_sem,Nat.reduceAdd]
    repeat ((with_reducible refine aI ?_ ?_);exact an5)
    refine rg zA ?_
    simp only [go_sem,Nat.reduceLT,Nat.reduceAdd]
    obtain rfl:=Option.some.inj H
    refine ⟨[0,1,2,3],?_,?_,[],?_,?_,rfl⟩
    ·simp only [go_sem]
     try exact at0
    ·simp only [go_sem,Nat.reduceBEq]
     try exact at0
    ·simp only [go_sem]
     exact qC (zM (yV (α:=TFrame)) (zM (yV (α:=TFrame)) (zM (qB (zM xF (zM xF (zM (yV (α:=TSleeper)) (zM (yV (α:=TStored)) xO))))) (zM xF xO))))
    ·simp only [go_sem,CvH]
   have hk15:(r13)=false:=by simpa using hc
   replace H:=yM hc H
   refine rg zA ?_
   simp only [go_sem]
   refine zZ ?_
   obtain ⟨r16,e17,H⟩:=bsi H
   refine rg ct24dt5_ok ?_
   simp only [go_sem,Nat.reduceLT,Nat.reduceAdd,ct24dt5_63,tJ,e17]
   repeat ((with_reducible refine aI ?_ ?_);exact an0)
   refine rb ?_
   simp only [rL0,rL1,rH0,rH1,rBl,dE,bH,cU,bI,r_sl,bG,bJ,r_opt,r_z,rBq,rBu,rBo2,vJ,xP,xW,rs_a_u8,wQ,wE]
   refine zZ ?_
   refine sq zA ?_
   simp only [go_sem,Nat.reduceLeDiff,Nat.reduceLT,Nat.reduceAdd,Nat.reduceSub,yA]
   repeat ((with_reducible refine aI ?_ ?_);exact an5)
   refine condM' rfl trivial (fun hc=>?_) (fun hc=>?_)
   ·have hk18:((gd r8.List r5.1.toNat).Asleep)=false:=by simpa using hc
    replace H:=yM hc H
    refine jB ?_
    refine xS zO zA 1 ?_
    simp only [zK,tS,tZ,dSl,dZ,go_sem,Nat.reduceLT,Nat.reduceAdd]
    repeat ((with_reducible refine aI ?_ ?_);exact an4)
    refine fzO [7] ?_ ?_
    ·simp only [go_sem,Nat.reduceBEq]
     try exact at0
    simp only [go_sem,Nat.reduceBEq,Nat.reduceAdd]
    obtain ⟨r55,e56,H⟩:=bsi H
    refine xS zO ct24dt9_ok 3 ?_
    simp only [zK,tS,tZ,dSl,dZ,go_sem,Nat.reduceLeDiff,Nat.reduceAdd,ct24dt9_52,uW,e56]
    repeat ((with_reducible refine aI ?_ ?_);exact an4)
    refine vN ?_
    refine zZ ?_
    refine yW zO zA 0 (by kernel_rfl) (by kernel_rfl) ?_
    intro an han
    simp only [vZ,wV,qS,xrD,xoD,qT,uC,List.append_nil,xJ,refs,mask,wY,place,xV,wZ,xZ,hit,inL,xK,nrH,nrB,nrL,nr,rZ,Nat.sub_self,Nat.add_zero,Nat.zero_add,Nat.reduceSub,Nat.lt_add_one,go_sem,Nat.reduceLeDiff,Nat.reduceLT,Nat.reduceAdd,Nat.reduceSub,Nat.reduceBEq]
    repeat ((with_reducible refine aI ?_ ?_);exact an3)
    refine fz2_mean [5] [4] ?_ ?_
    ·simp only [go_sem,Nat.reduceBEq,Nat.reduceAdd,jF,fzObB2]
     first|exact (eL (L:=r8.List) (i:=r5.1.toNat) (fun a y=>zR (zG a) y) (fun x y hx=>by simp only [yP hx]) (fun y hy=>match y,hy with|0,_=>(by (simp [yA,zL,yL,inL,geth,vR,enR,zC];all_goals (first|(with_reducible trivial)|(intros;exact zR (NRf.h _) _)|(intros;exact nfc))))|1,_=>(by (simp [yA,zL,yL,inL,geth,vR,enR,zC];all_goals (first|(with_reducible trivial)|(intros;exact zR (NRf.h _) _)|(intros;exact nfc))))|2,_=>(by (simp [yA,zL,yL,inL,geth,vR,enR,zC];all_goals (first|(with_reducible trivial)|(intros;exact zR (NRf.h _) _)|(intros;exact nfc))))|(y+3),h=>absurd h nlt))|(and_intros<;>first|exact (eL (L:=r8.List) (i:=r5.1.toNat) (fun a y=>zR (zG a) y) (fun x y hx=>by simp only [yP hx]) (fun y hy=>match y,hy with|0,_=>(by (simp [yA,zL,yL,enR,zC];all_goals (first|(with_reducible trivial)|(intros;exact zR (NRf.h _) _)|(intros;exact nfc))))|1,_=>(by (simp [yA,zL,yL,enR,zC];all_goals (first|(with_reducible trivial)|(intros;exact zR (NRf.h _) _)|(intros;exact nfc))))|2,_=>(by (simp [yA,zL,yL,inL,geth,vR,enR,zC];all_goals (first|(with_reducible trivial)|(intros;exact zR (NRf.h _) _)|(intros;exact nfc))))|(y+3),h=>absurd h nlt))|(with_reducible trivial)|omega|exact nfc|trivial)
    simp only [go_sem,Nat.reduceBEq,Nat.reduceAdd,fzH2,eZ,fzB2]
    obtain ⟨w57,hw58,H⟩:=bsi H
    replace hw58:=Option.some.inj hw58
    have lhw58:w57.length=r8.List.length:=by rw [← hw58];exact (by simp only [List.length_set])
    refine vE (t2:=(tp 10 (.sl 9 41 0 r55.length false::.ro 0 0 true (fun _ _=>.top)::.ptr 2 0 0 0::.int .i64 0::tp 57 []))) (h2:=[.lit 25 [.int .i64 p0.Limit,.int .i64 p0.Stay,.top,.top],.lit 33 (hC r16.Head (.ro 1 r16.Body.length false (enR xA r16.Body)::[])),.lit 25 [.int .i64 r8.Limit,.int .i64 r8.Stay,.sl 4 3 0 w57.length false,.sl 6 43 0 r8.Group.length false],.lit 25 [.int .i64 r8.Limit,.int .i64 r8.Stay,.sl 4 3 0 w57.length false,.sl 6 43 0 r8.Group.length false],.row 57 3 w57.length (enR zC w57),.dead,.row 61 43 r8.Group.length (enR zD r8.Group),.dead,.dead,.row 33 41 r55.length (enR zI r55)]) ?_ ?_
    ·refine yH ⟨[some 0,some 1,some 2,some 3,some 4,some 5,some 6,some 7,some 8,some 9],?_,?_,by rfl,by rfl⟩
     ·simp [CvL,Cv,zQ,tp]
     ·exact ⟨(by simp [CvB,CvL,Cv,yN,geth]),(by simp [CvB,CvL,Cv,yN,geth]),(by simp [CvB,CvL,Cv,yN,geth,zQ,lhw58]),(by simp [CvB,CvL,Cv,yN,geth,zQ,lhw58]),zW zG lhw58 (hw58 ▸ (foc_row (L:=r8.List) (i:=r5.1.toNat) (fun a y=>zR (zG a) y) (fun x y hx=>by simp only [yP hx]) (fun y hy=>match y,hy with|0,_=>by simp [yA,zL,fzV,enR,zC]|1,_=>by simp [yA,zL,fzV,enR,zC]|2,_=>by simp [yA,zL,fzV,inL,geth,enR,zC,dP]|(y+3),h=>absurd h nlt))),zH,zW yQ rfl (fun _ _ _ _=>rfl),zH,zH,zW wR rfl (fun _ _ _ _=>rfl),trivial⟩
    simp only [tp]
    refine rg zA ?_
    simp only [go_sem,Nat.reduceLT,Nat.reduceAdd]
    obtain rfl:=Option.some.inj H
    refine ⟨[9,4,6,0,1,2,3],?_,?_,[],?_,?_,rfl⟩
    ·simp only [go_sem,Nat.reduceBEq]
     try exact at0
    ·simp only [go_sem,Nat.reduceBEq]
     try exact at0
    ·simp only [go_sem,Nat.reduceBEq]
     exact qC (zM (vT (by first|rfl|simp) (fun _ _ _ _=>rfl)) (zM (yV (α:=TFrame)) (zM (qB (zM xF (zM xF (zM (vT (by first|rfl|simp) (fun _ _ _ _=>rfl)) (zM (vT (by first|rfl|simp) (fun _ _ _ _=>rfl)) xO))))) (zM xF xO))))
    ·simp only [go_sem,CvH]
   have hk18:((gd r8.List r5.1.toNat).Asleep)=true:=by simpa using hc
   replace H:=xH hc H
   refine draw_tail zO zA 11 (by kernel_rfl) (by kernel_rfl) (by kernel_rfl) ?_
   simp only [zK,tS,tZ,dSl,dZ,go_sem,Nat.reduceLeDiff,Nat.reduceLT,Nat.reduceAdd]
   repeat ((with_reducible refine aI ?_ ?_);exact an0)
   refine cM (rs:=[.tmp 6]) Try.func64 (by kernel_rfl) rfl rfl Try.ntmps64 (caps:=[]) (tc:=[.ptr 4 3 r5.1.toNat 2,.int .i64 r8.Limit,.agg (.int .u8 p2::.int .i64 p4::hC r16.Head (.sl 7 1 0 r16.Body.length false::[]))]) rfl (by simp only [go_sem]) rfl ?_
   simp only [lCl,lNl,Nat.reduceAdd,Nat.reduceSub,rS,rZ,aC,aN]
   refine sq zA ?_
   simp only [go_sem,Nat.reduceAdd]
   refine zZ ?_
   refine sq zA ?_
   simp only [go_sem,Nat.reduceLT,Nat.reduceAdd,Nat.reduceSub,yA]
   repeat ((with_reducible refine aI ?_ ?_);exact an0)
   refine condM' rfl trivial (fun hc=>?_) (fun hc=>?_)
   ·have hk19:(bEq (((gd r8.List r5.1.toNat).Held).length:Nat) r8.Limit)=false:=by simpa using hc
    replace H:=yM hc H
    refine rg zA ?_
    simp only [go_sem]
    refine zZ ?_
    refine jG [7] ?_ ?_
    ·simp only [go_sem,Nat.reduceBEq]
     try exact at0
    simp only [go_sem,Nat.reduceBEq,Nat.reduceAdd]
    obtain ⟨f48,H⟩:=zN.1 H
    replace f48:=capb_iff.1 f48
    refine yW zO zA 2 (by kernel_rfl) (by kernel_rfl) ?_
    intro an han
    simp only [vZ,wV,qS,xrD,xoD,qT,uC,List.append_nil,xJ,refs,vC,mask,wY,place,xV,wZ,xZ,hit,inL,xK,ren,rnN,nrH,nrB,rZ,rS,Nat.sub_self,Nat.add_zero,Nat.zero_add,Nat.reduceSub,Nat.lt_add_one,go_sem,Nat.reduceLeDiff,Nat.reduceLT,Nat.reduceAdd,Nat.reduceSub,Nat.reduceBEq,yA,f48]
    repeat ((with_reducible refine aI ?_ ?_);exact an2)
    refine sq zA ?_
    simp only [go_sem]
    refine rg zA ?_
    simp only [go_sem]
    refine xS zO zA 1 ?_
    simp only [zK,tS,tZ,dSl,dZ,go_sem]
    repeat ((with_reducible refine aI ?_ ?_);exact an1)
    refine vN ?_
    refine zZ ?_
    refine yW zO zA 0 (by kernel_rfl) (by kernel_rfl) ?_
    intro an han
    simp only [vZ,wV,qS,xrD,xoD,qT,uC,List.append_nil,xJ,refs,mask,wY,place,xV,wZ,xZ,hit,inL,xK,nrH,nrB,nrL,nr,rZ,Nat.sub_self,Nat.add_zero,Nat.zero_add,Nat.reduceSub,Nat.lt_add_one,go_sem,Nat.reduceLeDiff,Nat.reduceLT,Nat.reduceAdd,Nat.reduceSub,Nat.reduceBEq]
    repeat ((with_reducible refine aI ?_ ?_);exact an2)
    obtain ⟨w49,hw50,H⟩:=bsi H
    replace hw50:=Option.some.inj hw50
    have lhw50:w49.length=1:=by rw [← hw50];exact cl
    obtain ⟨w51,hw52,H⟩:=bsi H
    replace hw52:=Option.some.inj hw52
    have lhw52:w51.length=((gd r8.List r5.1.toNat).Held).length+1:=by rw [← hw52];exact cl
    refine vE (t2:=(tp 10 (.ro 0 0 true (fun _ _=>.top)::.ro 0 0 true (fun _ _=>.top)::.ptr 2 0 0 0::.int .i64 0::tp 57 []))) (h2:=[.lit 25 [.int .i64 p0.Limit,.int .i64 p0.Stay,.top,.top],.lit 33 (hC r16.Head (.ro 1 r16.Body.length false (enR xA r16.Body)::[])),.lit 25 [.int .i64 r8.Limit,.int .i64 r8.Stay,.sl 4 3 0 r8.List.length false,.sl 6 43 0 r8.Group.length false],.lit 25 [.int .i64 r8.Limit,.int .i64 r8.Stay,.sl 4 3 0 r8.List.length false,.sl 6 43 0 r8.Group.length false],.row 57 3 r8.List.length (upc (enR zC r8.List) r5.1.toNat 0 [.int .i64 ((gd r8.List r5.1.toNat).Aid),.bool ((gd r8.List r5.1.toNat).Asleep),.sl 10 43 0 w51.length false]),.dead,.row 61 43 r8.Group.length (enR zD r8.Group),.dead,.lit 61 (.int .u8 p2::.int .i64 p4::hC r16.Head (.ro 1 r16.Body.length false (enR xA r16.Body)::[])),.row 61 43 w49.length (enR zD w49),.row 61 43 w51.length (enR zD w51)]) ?_ ?_
    ·refine yH ⟨[some 0,some 1,some 2,some 3,some 4,some 5,some 6,some 7,some 8,some 9,some 10],?_,?_,by rfl,by rfl⟩
     ·simp [CvL,Cv,zQ,tp]
     ·exact ⟨(by simp [CvB,CvL,Cv,yN,geth]),(by simp [CvB,CvL,Cv,yN,geth]),(by simp [CvB,CvL,Cv,yN,geth,zQ]),(by simp [CvB,CvL,Cv,yN,geth,zQ]),(CvB_focG2 (i:=r5.1.toNat) (L:=r8.List) zG (fun x y hx=>by simp only [yP hx]) (fun x y hx=>by simp only [yP hx]) (fun y hy=>match y,hy with|0,_=>by simp [yA,zL,Cv,enR,zC,lhw52]|1,_=>by simp [yA,zL,Cv,enR,zC,lhw52]|2,_=>by simp [yA,zL,Cv,zQ,enR,zC,lhw52]|(y+3),h=>absurd h nlt)),zH,zW yQ rfl (fun _ _ _ _=>rfl),zH,(by simp [CvB,CvL,Cv,yN,geth]),zW yQ lhw50 (hw50 ▸ (xR (f:=zD) [(TStored.mk p2 p4 (eF r16))] (fun _ _=>rfl) rfl)),zW yQ lhw52 (hw52 ▸ (vQ (f:=zD) ((gd r8.List r5.1.toNat).Held) [(TStored.mk p2 p4 (eF r16))] (fun _ _ _ _=>rfl) (xR (f:=zD) [(TStored.mk p2 p4 (eF r16))] (fun _ _=>rfl) rfl))),trivial⟩
    simp only [tp]
    refine fz2_mean [10] [4] ?_ ?_
    ·simp only [go_sem,Nat.reduceBEq,Nat.reduceAdd,jF,fzObB2]
     first|exact (eL (L:=r8.List) (i:=r5.1.toNat) (fun a y=>zR (zG a) y) (fun x y hx=>by simp only [yP hx]) (fun y hy=>match y,hy with|0,_=>(by (simp [yA,zL,yL,enR,zC];all_goals (first|(with_reducible trivial)|(intros;exact zR (NRf.h _) _)|(intros;exact nfc))))|1,_=>(by (simp [yA,zL,yL,enR,zC];all_goals (first|(with_reducible trivial)|(intros;exact zR (NRf.h _) _)|(intros;exact nfc))))|2,_=>(by (simp [yA,zL,yL,inL,geth,vR,enR,zC];all_goals (first|(with_reducible trivial)|(intros;exact zR (NRf.h _) _)|(intros;exact nfc))))|(y+3),h=>absurd h nlt))|(and_intros<;>first|exact (eL (L:=r8.List) (i:=r5.1.toNat) (fun a y=>zR (zG a) y) (fun x y hx=>by simp only [yP hx]) (fun y hy=>match y,hy with|0,_=>(by (simp [yA,zL,yL,inL,geth,vR,enR,zC];all_goals (first|(with_reducible trivial)|(intros;exact zR (NRf.h _) _)|(intros;exact nfc))))|1,_=>(by (simp [yA,zL,yL,inL,geth,vR,enR,zC];all_goals (first|(with_reducible trivial)|(intros;exact zR (NRf.h _) _)|(intros;exact nfc))))|2,_=>(by (simp [yA,zL,yL,inL,geth,vR,enR,zC];all_goals (first|(with_reducible trivial)|(intros;exact zR (NRf.h _) _)|(intros;exact nfc))))|(y+3),h=>absurd h nlt))|(with_reducible trivial)|omega|exact nfc|trivial)
    simp only [go_sem,Nat.reduceBEq,Nat.reduceAdd,fzH2,eZ,fzB2]
    obtain ⟨w53,hw54,H⟩:=bsi H
    replace hw54:=Option.some.inj hw54
    have lhw54:w53.length=r8.List.length:=by rw [← hw54];exact (by simp only [List.length_set])
    refine vE (t2:=(tp 10 (.ro 0 0 true (fun _ _=>.top)::.ro 0 0 true (fun _ _=>.top)::.ptr 2 0 0 0::.int .i64 0::tp 57 []))) (h2:=[.lit 25 [.int .i64 p0.Limit,.int .i64 p0.Stay,.top,.top],.lit 33 (hC r16.Head (.ro 1 r16.Body.length false (enR xA r16.Body)::[])),.lit 25 [.int .i64 r8.Limit,.int .i64 r8.Stay,.sl 4 3 0 w53.length false,.sl 6 43 0 r8.Group.length false],.lit 25 [.int .i64 r8.Limit,.int .i64 r8.Stay,.sl 4 3 0 w53.length false,.sl 6 43 0 r8.Group.length false],.row 57 3 w53.length (enR zC w53),.dead,.row 61 43 r8.Group.length (enR zD r8.Group),.dead,.lit 61 (.int .u8 p2::.int .i64 p4::hC r16.Head (.ro 1 r16.Body.length false (enR xA r16.Body)::[])),.row 61 43 w49.length (enR zD w49),.dead]) ?_ ?_
    ·refine yH ⟨[some 0,some 1,some 2,some 3,some 4,some 5,some 6,some 7,some 8,some 9,some 10],?_,?_,by rfl,by rfl⟩
     ·simp [CvL,Cv,zQ,tp]
     ·exact ⟨(by simp [CvB,CvL,Cv,yN,geth]),(by simp [CvB,CvL,Cv,yN,geth]),(by simp [CvB,CvL,Cv,yN,geth,zQ,lhw54]),(by simp [CvB,CvL,Cv,yN,geth,zQ,lhw54]),zW zG lhw54 (hw54 ▸ (foc_row (L:=r8.List) (i:=r5.1.toNat) (fun a y=>zR (zG a) y) (fun x y hx=>by simp only [yP hx]) (fun y hy=>match y,hy with|0,_=>by simp [yA,zL,fzV,enR,zC]|1,_=>by simp [yA,zL,fzV,enR,zC]|2,_=>by simp [yA,zL,fzV,inL,geth,enR,zC,dP]|(y+3),h=>absurd h nlt))),zH,zW yQ rfl (fun _ _ _ _=>rfl),zH,(by simp [CvB,CvL,Cv,yN,geth]),zW yQ rfl (fun _ _ _ _=>rfl),zH,trivial⟩
    simp only [tp]
    refine rg zA ?_
    simp only [go_sem,Nat.reduceLT,Nat.reduceAdd]
    obtain rfl:=Option.some.inj H
    refine ⟨[4,6,0,1,2,3,8],?_,?_,[],?_,?_,rfl⟩
    ·simp only [go_sem,Nat.reduceBEq]
     try exact at0
    ·simp only [go_sem,Nat.reduceBEq]
     try exact at0
    ·simp only [go_sem,Nat.reduceBEq]
     exact qC (zM (yV (α:=TFrame)) (zM (yV (α:=TFrame)) (zM (qB (zM xF (zM xF (zM (vT (by first|rfl|simp) (fun _ _ _ _=>rfl)) (zM (vT (by first|rfl|simp) (fun _ _ _ _=>rfl)) xO))))) (zM xF xO))))
    ·simp only [go_sem,CvH]
   have hk19:(bEq (((gd r8.List r5.1.toNat).Held).length:Nat) r8.Limit)=true:=by simpa using hc
   replace H:=xH hc H
   refine zZ ?_
   refine jB ?_
   refine xS zO zA 3 ?_
   simp only [zK,tS,tZ,dSl,dZ,go_sem,Nat.reduceLT,Nat.reduceAdd,Nat.reduceSub,yA]
   repeat ((with_reducible refine aI ?_ ?_);exact an0)
   refine cM (rs:=[.cell 4 61]) Try.func89 (by kernel_rfl) rfl rfl Try.ntmps89 (caps:=[]) (tc:=[.sl 5 43 0 (((gd r8.List r5.1.toNat).Held).length) false,.fn 90 []]) rfl (by simp only [go_sem]) rfl ?_
   simp only [lCl,lNl,Nat.reduceAdd,Nat.reduceSub,rS,rZ,aC,aN]
   refine sq zA ?_
   simp only [go_sem,Nat.reduceAdd]
   refine zZ ?_
   refine sq zA ?_
   simp only [go_sem]
   repeat ((with_reducible refine aI ?_ ?_);exact an0)
   refine yX rfl trivial (fun hc=>?_) (fun hc=>?_)
   ·have hk20:(bLt (((gd r8.List r5.1.toNat).Held).length:Nat) 1)=true:=by simpa using hc
    replace H:=xH hc H
    cases H
   have hk20:(bLt (((gd r8.List r5.1.toNat).Held).length:Nat) 1)=false:=by simpa using hc
   replace H:=yM hc H
   refine rg zA ?_
   simp only [go_sem]
   refine zZ ?_
   obtain ⟨f21,H⟩:=zN.1 H
   replace f21:=xD.1 f21
   refine rg zA ?_
   simp only [go_sem,Nat.reduceLT,Nat.reduceAdd,f21]
   repeat ((with_reducible refine aI ?_ ?_);exact an5)
   refine zZ ?_
   refine sq zA ?_
   simp only [go_sem]
   refine uJ ?_
   refine wX (fun s:Int × TStored=>(.sl 5 43 0 (((gd r8.List r5.1.toNat).Held).length) false::.fn 90 []::.top::.top::.ptr 9 0 0 0::.ptr 10 0 0 0::.int .i64 s.1::tp 26 [])) (fun s=>[.dead,.dead,.lit 25 [.int .i64 0,.int .i64 0,.ro 0 0 true (fun _ _=>.top),.ro 0 0 true (fun _ _=>.top)],.lit 25 [.int .i64 r8.Limit,.int .i64 r8.Stay,.sl 4 3 0 r8.List.length false,.sl 6 43 0 r8.Group.length false],.row 57 3 r8.List.length (upc (enR zC r8.List) r5.1.toNat 2 [.sl 5 43 0 (((gd r8.List r5.1.toNat).Held).length) false]),.row 61 43 (((gd r8.List r5.1.toNat).Held).length) (enR zD ((gd r8.List r5.1.toNat).Held)),.row 61 43 r8.Group.length (enR zD r8.Group),.row 5 1 r16.Body.length (enR xA r16.Body),.lit 61 (.int .u8 p2::.int .i64 p4::hC r16.Head (.sl 7 1 0 r16.Body.length false::[])),.lit 61 (.int .u8 0::.int .i64 0::hZ (.ro 0 0 true (fun _ _=>.top)::[])),.lit 61 (.int .u8 s.2.Cat::.int .i64 s.2.At::hC s.2.Frame.Head (.ro 1 s.2.Frame.Body.length false (enR xA s.2.Frame.Body)::[]))]) (fun e:TStored=>(tp 4 (.ptr 9 0 0 0::.ptr 10 0 0 0::tp 27 []))) (fun e=>[.dead,.dead,.lit 25 [.int .i64 0,.int .i64 0,.ro 0 0 true (fun _ _=>.top),.ro 0 0 true (fun _ _=>.top)],.lit 25 [.int .i64 r8.Limit,.int .i64 r8.Stay,.sl 4 3 0 r8.List.length false,.sl 6 43 0 r8.Group.length false],.row 57 3 r8.List.length (upc (enR zC r8.List) r5.1.toNat 2 [.sl 5 43 0 (((gd r8.List r5.1.toNat).Held).length) false]),.row 61 43 (((gd r8.List r5.1.toNat).Held).length) (enR zD ((gd r8.List r5.1.toNat).Held)),.row 61 43 r8.Group.length (enR zD r8.Group),.row 5 1 r16.Body.length (enR xA r16.Body),.lit 61 (.int .u8 p2::.int .i64 p4::hC r16.Head (.sl 7 1 0 r16.Body.length false::[])),.lit 61 (.int .u8 0::.int .i64 0::hZ (.ro 0 0 true (fun _ _=>.top)::[])),.lit 61 (.int .u8 e.Cat::.int .i64 e.At::hC e.Frame.Head (.ro 1 e.Frame.Body.length false (enR xA e.Frame.Body)::[]))]) H ?_ (fun s o H hn1_1 hn2_1=>?_) (fun w1_6 H=>?_)
   ·refine yH ⟨[some 0,some 1,some 2,some 3,some 4,some 5,some 6,some 7,some 8,some 9,some 10],?_,?_,by rfl,by rfl⟩
    ·simp [CvL,Cv,zQ,tp]
    ·exact ⟨zH,zH,cv,cv,(CvB_focG (i:=r5.1.toNat) (L:=r8.List) zG (fun x y hx=>by simp only [yP hx]) (fun y hy=>match y,hy with|0,_=>by simp [yA,zL,Cv,enR,zC]|1,_=>by simp [yA,zL,Cv,enR,zC]|2,_=>by simp [yA,zL,Cv,zQ,enR,zC]|(y+3),h=>absurd h nlt)),(yI nfA),(yI nfA),(yI nfA),cv,cv,cv,trivial⟩
   ·obtain ⟨v1_1,v1_2⟩:=s
    unfold F24_L1 at H
    try dsimp only at H ⊢
    try simp only [tp]
    refine zZ ?_
    refine sq zA ?_
    simp only [go_sem,Nat.reduceAdd]
    repeat ((with_reducible refine aI ?_ ?_);exact an0)
    refine condM' rfl trivial (fun hc=>?_) (fun hc=>?_)
    ·have hk22:(bLt v1_1 (((gd r8.List r5.1.toNat).Held).length:Nat))=false:=by simpa using hc
     replace H:=yM hc H
     refine rg zA ?_
     simp only [go_sem]
     refine ⟨_,(Option.some.inj H).symm,?_⟩
     refine yH ⟨[some 0,some 1,some 2,some 3,some 4,some 5,some 6,some 7,some 8,some 9,some 10],?_,?_,by rfl,by rfl⟩
     ·simp [CvL,Cv,zQ]
     ·exact ⟨zH,zH,cv,cv,(CvB_focG (i:=r5.1.toNat) (L:=r8.List) zG (fun x y hx=>by simp only [yP hx]) (fun y hy=>match y,hy with|0,_=>by simp [yA,zL,Cv,enR,zC]|1,_=>by simp [yA,zL,Cv,enR,zC]|2,_=>by simp [yA,zL,Cv,zQ,enR,zC]|(y+3),h=>absurd h nlt)),(yI nfA),(yI nfA),(yI nfA),cv,cv,cv,trivial⟩
    have hk22:(bLt v1_1 (((gd r8.List r5.1.toNat).Held).length:Nat))=true:=by simpa using hc
    replace H:=xH hc H
    refine rg zA ?_
    simp only [go_sem]
    refine zZ ?_
    refine uJ ?_
    refine zZ ?_
    obtain ⟨f23,H⟩:=zN.1 H
    replace f23:=xD.1 f23
    obtain ⟨r24,e25,H⟩:=bsi H
    refine qE zO ct24dt6_ok (by kernel_rfl) (by kernel_rfl) ?_
    simp only [go_sem,Nat.reduceLT,Nat.reduceAdd,ct24dt6_90,body90,f23,e25]
    repeat ((with_reducible refine aI ?_ ?_);exact an0)
    refine condM' rfl trivial (fun hc=>?_) (fun hc=>?_)
    ·have hk26:(bLt r24 0)=false:=by simpa using hc
     replace H:=yM hc H
     refine rg zA ?_
     simp only [go_sem]
     refine rg zA ?_
     simp only [go_sem]
     refine ⟨_,(Option.some.inj H).symm,?_⟩
     refine yH ⟨[some 0,some 1,some 2,some 3,some 4,some 5,some 6,some 7,some 8,some 9,some 10],?_,?_,by rfl,by rfl⟩
     ·simp [CvL,Cv,zQ]
     ·exact ⟨zH,zH,cv,cv,(CvB_focG (i:=r5.1.toNat) (L:=r8.List) zG (fun x y hx=>by simp only [yP hx]) (fun y hy=>match y,hy with|0,_=>by simp [yA,zL,Cv,enR,zC]|1,_=>by simp [yA,zL,Cv,enR,zC]|2,_=>by simp [yA,zL,Cv,zQ,enR,zC]|(y+3),h=>absurd h nlt)),(yI nfA),(yI nfA),(yI nfA),cv,cv,cv,trivial⟩
    have hk26:(bLt r24 0)=true:=by simpa using hc
    replace H:=xH hc H
    obtain ⟨f27,H⟩:=zN.1 H
    replace f27:=xD.1 f27
    refine rg zA ?_
    simp only [go_sem,Nat.reduceLT,Nat.reduceAdd,f27]
    repeat ((with_reducible refine aI ?_ ?_);exact an5)
    refine rg zA ?_
    simp only [go_sem]
    refine ⟨_,(Option.some.inj H).symm,?_⟩
    refine yH ⟨[some 0,some 1,some 2,some 3,some 4,some 5,some 6,some 7,some 8,some 9,some 10],?_,?_,by rfl,by rfl⟩
    ·simp [CvL,Cv,zQ]
    ·exact ⟨zH,zH,cv,cv,(CvB_focG (i:=r5.1.toNat) (L:=r8.List) zG (fun x y hx=>by simp only [yP hx]) (fun y hy=>match y,hy with|0,_=>by simp [yA,zL,Cv,enR,zC]|1,_=>by simp [yA,zL,Cv,enR,zC]|2,_=>by simp [yA,zL,Cv,zQ,enR,zC]|(y+3),h=>absurd h nlt)),(yI nfA),(yI nfA),(yI nfA),cv,cv,cv,trivial⟩
   ·try dsimp only at H ⊢
    try simp only [tp]
    try simp only [wJ]
    refine sq zA ?_
    simp only [go_sem,Nat.reduceLT,Nat.reduceAdd]
    repeat ((with_reducible refine aI ?_ ?_);exact an5)
    refine rg zA ?_
    simp only [go_sem,Nat.reduceLT,Nat.reduceAdd]
    refine xS zO zA 3 ?_
    simp only [zK,tS,tZ,dSl,dZ,go_sem,Nat.reduceLeDiff,Nat.reduceLT,Nat.reduceAdd]
    repeat ((with_reducible refine aI ?_ ?_);exact an0)
    refine vN ?_
    refine zZ ?_
    refine sq zA ?_
    simp only [go_sem,Nat.reduceLeDiff,Nat.reduceLT,Nat.reduceAdd]
    repeat ((with_reducible refine aI ?_ ?_);exact an5)
    refine yX rfl trivial (fun hc=>?_) (fun hc=>?_)
    ·have hk28:(bLt p2 w1_6.Cat)=true:=by simpa using hc
     replace H:=xH hc H
     refine zZ ?_
     refine jB ?_
     refine xS zO zA 2 ?_
     simp only [zK,tS,tZ,dSl,dZ,go_sem,Nat.reduceLT,Nat.reduceAdd,reduceCtorEq]
     repeat ((with_reducible refine aI ?_ ?_);exact an5)
     refine fzO [7] ?_ ?_
     ·simp only [go_sem,Nat.reduceBEq]
      try exact at0
     simp only [go_sem,Nat.reduceBEq,Nat.reduceAdd]
     refine xS zO zA 2 ?_
     simp only [zK,tS,tZ,dSl,dZ,go_sem,Nat.reduceLeDiff,Nat.reduceAdd]
     repeat ((with_reducible refine aI ?_ ?_);exact an5)
     refine vN ?_
     refine rg zA ?_
     simp only [go_sem]
     refine xS zO zA 1 ?_
     simp only [zK,tS,tZ,dSl,dZ,go_sem]
     repeat ((with_reducible refine aI ?_ ?_);exact an4)
     refine vN ?_
     refine zZ ?_
     refine yW zO zA 0 (by kernel_rfl) (by kernel_rfl) ?_
     intro an han
     simp only [vZ,wV,qS,xrD,xoD,qT,uC,List.append_nil,xJ,refs,mask,wY,place,xV,wZ,xZ,hit,inL,xK,nrH,nrB,nrL,nr,rZ,Nat.sub_self,Nat.add_zero,Nat.zero_add,Nat.reduceSub,Nat.lt_add_one,go_sem,Nat.reduceLeDiff,Nat.reduceLT,Nat.reduceAdd,Nat.reduceSub,Nat.reduceBEq]
     repeat ((with_reducible refine aI ?_ ?_);exact an6)
     refine fz2_mean [5] [4] ?_ ?_
     ·simp only [go_sem,Nat.reduceBEq,Nat.reduceAdd,jF,fzObB2]
      first|exact (eL (L:=r8.List) (i:=r5.1.toNat) (fun a y=>zR (zG a) y) (fun x y hx=>by simp only [yP hx]) (fun y hy=>match y,hy with|0,_=>(by (simp [yA,zL,yL,inL,geth,vR,enR,zC];all_goals (first|(with_reducible trivial)|(intros;exact zR (NRf.h _) _)|(intros;exact nfc))))|1,_=>(by (simp [yA,zL,yL,inL,geth,vR,enR,zC];all_goals (first|(with_reducible trivial)|(intros;exact zR (NRf.h _) _)|(intros;exact nfc))))|2,_=>(by (simp [yA,zL,yL,inL,geth,vR,enR,zC];all_goals (first|(with_reducible trivial)|(intros;exact zR (NRf.h _) _)|(intros;exact nfc))))|(y+3),h=>absurd h nlt))|(and_intros<;>first|exact (eL (L:=r8.List) (i:=r5.1.toNat) (fun a y=>zR (zG a) y) (fun x y hx=>by simp only [yP hx]) (fun y hy=>match y,hy with|0,_=>(by (simp [yA,zL,yL,enR,zC];all_goals (first|(with_reducible trivial)|(intros;exact zR (NRf.h _) _)|(intros;exact nfc))))|1,_=>(by (simp [yA,zL,yL,enR,zC];all_goals (first|(with_reducible trivial)|(intros;exact zR (NRf.h _) _)|(intros;exact nfc))))|2,_=>(by (simp [yA,zL,yL,inL,geth,vR,enR,zC];all_goals (first|(with_reducible trivial)|(intros;exact zR (NRf.h _) _)|(intros;exact nfc))))|(y+3),h=>absurd h nlt))|(with_reducible trivial)|omega|exact nfc|trivial)
     simp only [go_sem,Nat.reduceBEq,Nat.reduceAdd,fzH2,eZ,fzB2]
     obtain ⟨w29,hw30,H⟩:=bsi H
     replace hw30:=Option.some.inj hw30
     have lhw30:w29.length=r8.List.length:=by rw [← hw30];exact (by simp only [List.length_set])
     obtain ⟨w31,hw32,H⟩:=bsi H
     replace hw32:=Option.some.inj hw32
     have lhw32:w31.length=1:=by rw [← hw32];exact cl
     refine vE (t2:=(tp 10 (.ro 0 0 true (fun _ _=>.top)::.sl 12 41 0 w31.length false::.ptr 2 0 0 0::.int .i64 0::tp 57 []))) (h2:=[.dead,.dead,.lit 25 [.int .i64 r8.Limit,.int .i64 r8.Stay,.sl 4 3 0 w29.length false,.sl 6 43 0 r8.Group.length false],.lit 25 [.int .i64 r8.Limit,.int .i64 r8.Stay,.sl 4 3 0 w29.length false,.sl 6 43 0 r8.Group.length false],.row 57 3 w29.length (enR zC w29),.dead,.row 61 43 r8.Group.length (enR zD r8.Group),.dead,.lit 61 (.int .u8 p2::.int .i64 p4::hC r16.Head (.ro 1 r16.Body.length false (enR xA r16.Body)::[])),.lit 61 (.int .u8 w1_6.Cat::.int .i64 w1_6.At::hC w1_6.Frame.Head (.ro 1 w1_6.Frame.Body.length false (enR xA w1_6.Frame.Body)::[])),.lit 61 (.int .u8 w1_6.Cat::.int .i64 w1_6.At::hC w1_6.Frame.Head (.ro 1 w1_6.Frame.Body.length false (enR xA w1_6.Frame.Body)::[])),.lit 5 [.int .u8 w1_6.Cat],.row 33 41 w31.length (enR zI w31)]) ?_ ?_
     ·refine yH ⟨[some 0,some 1,some 2,some 3,some 4,some 5,some 6,some 7,some 8,some 9,some 10,some 11,some 12],?_,?_,by rfl,by rfl⟩
      ·simp [CvL,Cv,zQ,tp,lhw32]
      ·exact ⟨zH,zH,(by simp [CvB,CvL,Cv,yN,geth,zQ,lhw30]),(by simp [CvB,CvL,Cv,yN,geth,zQ,lhw30]),zW zG lhw30 (hw30 ▸ (foc_row (L:=r8.List) (i:=r5.1.toNat) (fun a y=>zR (zG a) y) (fun x y hx=>by simp only [yP hx]) (fun y hy=>match y,hy with|0,_=>by simp [yA,zL,fzV,enR,zC]|1,_=>by simp [yA,zL,fzV,enR,zC]|2,_=>by simp [yA,zL,fzV,inL,geth,enR,zC,dP]|(y+3),h=>absurd h nlt))),zH,zW yQ rfl (fun _ _ _ _=>rfl),zH,(by simp [CvB,CvL,Cv,yN,geth]),(by simp [CvB,CvL,Cv,yN,geth]),(by simp [CvB,CvL,Cv,yN,geth]),(by simp [CvB,CvL,Cv,yN,geth]),zW wR lhw32 (hw32 ▸ (xR (f:=zI) [r16] (fun _ _=>rfl) rfl)),trivial⟩
     simp only [tp]
     refine rg zA ?_
     simp only [go_sem,Nat.reduceLT,Nat.reduceAdd]
     obtain rfl:=Option.some.inj H
     refine ⟨[12,4,6,2,3,8,9,10,11],?_,?_,[],?_,?_,rfl⟩
     ·simp only [go_sem,Nat.reduceBEq]
      try exact at0
     ·simp only [go_sem,Nat.reduceBEq]
      try exact at0
     ·simp only [go_sem,Nat.reduceBEq]
      exact qC (zM (yV (α:=TFrame)) (zM (vT (by first|rfl|simp) (fun _ _ _ _=>rfl)) (zM (qB (zM xF (zM xF (zM (vT (by first|rfl|simp) (fun _ _ _ _=>rfl)) (zM (vT (by first|rfl|simp) (fun _ _ _ _=>rfl)) xO))))) (zM xF xO))))
     ·simp only [go_sem,CvH]
    have hk28:(bLt p2 w1_6.Cat)=false:=by simpa using hc
    replace H:=yM hc H
    refine rg zA ?_
    simp only [go_sem]
    refine zZ ?_
    obtain ⟨r33,e34,H⟩:=bsi H
    refine rg ct24dt7_ok ?_
    simp only [go_sem,Nat.reduceLT,Nat.reduceAdd,Nat.reduceSub,yA,ct24dt7_58,bX,e34]
    repeat ((with_reducible refine aI ?_ ?_);exact an0)
    refine zZ ?_
    obtain ⟨f35,H⟩:=zN.1 H
    replace f35:=xD.1 f35
    refine rg zA ?_
    simp only [go_sem,Nat.reduceLeDiff,Nat.reduceLT,Nat.reduceAdd,Nat.reduceSub,reduceCtorEq,yA,f35]
    repeat ((with_reducible refine aI ?_ ?_);exact an5)
    obtain ⟨f36,H⟩:=zN.1 H
    replace f36:=delb_iff.1 f36
    refine rg ct24dt8_ok ?_
    simp only [go_sem,Nat.reduceLT,Nat.reduceAdd,Nat.reduceSub,yA,ct24dt8_60,delN,f36]
    repeat ((with_reducible refine aI ?_ ?_);exact an4)
    refine zZ ?_
    obtain ⟨w37,hw38,H⟩:=bsi H
    replace hw38:=Option.some.inj hw38
    have lhw38:w37.length=1:=by rw [← hw38];exact cl
    obtain ⟨w39,hw40,H⟩:=bsi H
    replace hw40:=Option.some.inj hw40
    have lhw40:w39.length=((gd r8.List r5.1.toNat).Held).length - ((wr .i64 (r33+1)).toNat - r33.toNat):=by rw [← hw40];exact (del_len f36 cl)
    refine vE (t2:=(.ptr 4 3 r5.1.toNat 2::tp 4 (.ptr 8 0 0 0::.sl 12 41 0 w37.length false::tp 51 []))) (h2:=[.dead,.dead,.lit 25 [.int .i64 0,.int .i64 0,.ro 0 0 true (fun _ _=>.top),.ro 0 0 true (fun _ _=>.top)],.lit 25 [.int .i64 r8.Limit,.int .i64 r8.Stay,.sl 4 3 0 r8.List.length false,.sl 6 43 0 r8.Group.length false],.row 57 3 r8.List.length (upc (enR zC r8.List) r5.1.toNat 0 [.int .i64 ((gd r8.List r5.1.toNat).Aid),.bool ((gd r8.List r5.1.toNat).Asleep),.sl 13 43 0 w39.length false]),.dead,.row 61 43 r8.Group.length (enR zD r8.Group),.row 5 1 r16.Body.length (enR xA r16.Body),.lit 61 (.int .u8 p2::.int .i64 p4::hC r16.Head (.sl 7 1 0 r16.Body.length false::[])),.lit 61 (.int .u8 w1_6.Cat::.int .i64 w1_6.At::hC w1_6.Frame.Head (.ro 1 w1_6.Frame.Body.length false (enR xA w1_6.Frame.Body)::[])),.lit 61 (.int .u8 w1_6.Cat::.int .i64 w1_6.At::hC w1_6.Frame.Head (.ro 1 w1_6.Frame.Body.length false (enR xA w1_6.Frame.Body)::[])),.lit 5 [.int .u8 w1_6.Cat],.row 33 41 w37.length (enR zI w37),.row 61 43 w39.length (enR zD w39)]) ?_ ?_
    ·refine yH ⟨[some 0,some 1,some 2,some 3,some 4,some 5,some 6,some 7,some 8,some 9,some 10,some 11,some 12,some 13],?_,?_,by rfl,by rfl⟩
     ·simp [CvL,Cv,zQ,tp,lhw38]
     ·exact ⟨zH,zH,(by simp [CvB,CvL,Cv,yN,geth]),(by simp [CvB,CvL,Cv,yN,geth,zQ]),(CvB_focG2 (i:=r5.1.toNat) (L:=r8.List) zG (fun x y hx=>by simp only [yP hx]) (fun x y hx=>by simp only [yP hx]) (fun y hy=>match y,hy with|0,_=>by simp [yA,zL,Cv,enR,zC,lhw40]|1,_=>by simp [yA,zL,Cv,enR,zC,lhw40]|2,_=>by simp [yA,zL,Cv,zQ,enR,zC,lhw40]|(y+3),h=>absurd h nlt)),zH,zW yQ rfl (fun _ _ _ _=>rfl),zW nr_u8 rfl (fun _ _ _ _=>rfl),(by simp [CvB,CvL,Cv,yN,geth,zQ]),(by simp [CvB,CvL,Cv,yN,geth]),(by simp [CvB,CvL,Cv,yN,geth]),(by simp [CvB,CvL,Cv,yN,geth]),zW wR lhw38 (hw38 ▸ (xR (f:=zI) [(eF ((gd ((gd r8.List r5.1.toNat).Held) r33.toNat).Frame))] (fun _ _=>rfl) rfl)),zW yQ lhw40 (hw40 ▸ (del_row f36 cl (fun _ _ _ _=>rfl))),trivial⟩
    simp only [tp]
    refine jG [7] ?_ ?_
    ·simp only [go_sem,Nat.reduceBEq]
     try exact at0
    simp only [go_sem,Nat.reduceBEq,Nat.reduceAdd]
    obtain ⟨f41,H⟩:=zN.1 H
    replace f41:=capb_iff.1 f41
    refine yW zO zA 2 (by kernel_rfl) (by kernel_rfl) ?_
    intro an han
    simp only [vZ,wV,qS,xrD,xoD,qT,uC,List.append_nil,xJ,refs,vC,mask,wY,place,xV,wZ,xZ,hit,inL,xK,ren,rnN,nrH,nrB,rZ,rS,Nat.sub_self,Nat.add_zero,Nat.zero_add,Nat.reduceSub,Nat.zero_le,Nat.lt_add_one,go_sem,Nat.reduceLeDiff,Nat.reduceLT,Nat.reduceAdd,Nat.reduceSub,Nat.reduceBEq,yA,f41]
    repeat ((with_reducible refine aI ?_ ?_);exact an2)
    refine sq zA ?_
    simp only [go_sem]
    refine rg zA ?_
    simp only [go_sem]
    refine xS zO zA 1 ?_
    simp only [zK,tS,tZ,dSl,dZ,go_sem]
    repeat ((with_reducible refine aI ?_ ?_);exact an1)
    refine vN ?_
    refine zZ ?_
    refine yW zO zA 0 (by kernel_rfl) (by kernel_rfl) ?_
    intro an han
    simp only [vZ,wV,qS,xrD,xoD,qT,uC,List.append_nil,xJ,refs,mask,wY,place,xV,wZ,xZ,hit,inL,xK,nrH,nrB,nrL,nr,rZ,Nat.sub_self,Nat.add_zero,Nat.zero_add,Nat.reduceSub,Nat.lt_add_one,go_sem,Nat.reduceLeDiff,Nat.reduceLT,Nat.reduceAdd,Nat.reduceSub,Nat.reduceBEq]
    repeat ((with_reducible refine aI ?_ ?_);exact an2)
    obtain ⟨w42,hw43,H⟩:=bsi H
    replace hw43:=Option.some.inj hw43
    have lhw43:w42.length=1:=by rw [← hw43];exact cl
    obtain ⟨w44,hw45,H⟩:=bsi H
    replace hw45:=Option.some.inj hw45
    have lhw45:w44.length=w39.length+1:=by rw [← hw45];exact cl
    refine vE (t2:=(tp 10 (.ro 0 0 true (fun _ _=>.top)::.sl 12 41 0 w37.length false::.ptr 2 0 0 0::.int .i64 0::tp 57 []))) (h2:=[.dead,.dead,.lit 25 [.int .i64 r8.Limit,.int .i64 r8.Stay,.sl 4 3 0 r8.List.length false,.sl 6 43 0 r8.Group.length false],.lit 25 [.int .i64 r8.Limit,.int .i64 r8.Stay,.sl 4 3 0 r8.List.length false,.sl 6 43 0 r8.Group.length false],.row 57 3 r8.List.length (upc (enR zC r8.List) r5.1.toNat 0 [.int .i64 ((gd r8.List r5.1.toNat).Aid),.bool ((gd r8.List r5.1.toNat).Asleep),.sl 15 43 0 w44.length false]),.dead,.row 61 43 r8.Group.length (enR zD r8.Group),.dead,.lit 61 (.int .u8 p2::.int .i64 p4::hC r16.Head (.ro 1 r16.Body.length false (enR xA r16.Body)::[])),.lit 61 (.int .u8 w1_6.Cat::.int .i64 w1_6.At::hC w1_6.Frame.Head (.ro 1 w1_6.Frame.Body.length false (enR xA w1_6.Frame.Body)::[])),.lit 61 (.int .u8 w1_6.Cat::.int .i64 w1_6.At::hC w1_6.Frame.Head (.ro 1 w1_6.Frame.Body.length false (enR xA w1_6.Frame.Body)::[])),.lit 5 [.int .u8 w1_6.Cat],.row 33 41 w37.length (enR zI w37),.dead,.row 61 43 w42.length (enR zD w42),.row 61 43 w44.length (enR zD w44)]) ?_ ?_
    ·refine yH ⟨[some 0,some 1,some 2,some 3,some 4,some 5,some 6,some 7,some 8,some 9,some 10,some 11,some 12,some 13,some 14,some 15],?_,?_,by rfl,by rfl⟩
     ·simp [CvL,Cv,zQ,tp]
     ·exact ⟨zH,zH,(by simp [CvB,CvL,Cv,yN,geth,zQ]),(by simp [CvB,CvL,Cv,yN,geth,zQ]),(CvB_focG2 (i:=r5.1.toNat) (L:=r8.List) zG (fun x y hx=>by simp only [yP hx]) (fun x y hx=>by simp only [yP hx]) (fun y hy=>match y,hy with|0,_=>by simp [yA,zL,Cv,enR,zC,lhw45]|1,_=>by simp [yA,zL,Cv,enR,zC,lhw45]|2,_=>by simp [yA,zL,Cv,zQ,enR,zC,lhw45]|(y+3),h=>absurd h nlt)),zH,zW yQ rfl (fun _ _ _ _=>rfl),zH,(by simp [CvB,CvL,Cv,yN,geth]),(by simp [CvB,CvL,Cv,yN,geth]),(by simp [CvB,CvL,Cv,yN,geth]),(by simp [CvB,CvL,Cv,yN,geth]),zW wR rfl (fun _ _ _ _=>rfl),zH,zW yQ lhw43 (hw43 ▸ (xR (f:=zD) [(TStored.mk p2 p4 (eF r16))] (fun _ _=>rfl) rfl)),zW yQ lhw45 (hw45 ▸ (vQ (f:=zD) w39 [(TStored.mk p2 p4 (eF r16))] (fun _ _ _ _=>rfl) (xR (f:=zD) [(TStored.mk p2 p4 (eF r16))] (fun _ _=>rfl) rfl))),trivial⟩
    simp only [tp]
    refine fz2_mean [15] [4] ?_ ?_
    ·simp only [go_sem,Nat.reduceBEq,Nat.reduceAdd,jF,fzObB2]
     first|exact (eL (L:=r8.List) (i:=r5.1.toNat) (fun a y=>zR (zG a) y) (fun x y hx=>by simp only [yP hx]) (fun y hy=>match y,hy with|0,_=>(by (simp [yA,zL,yL,enR,zC];all_goals (first|(with_reducible trivial)|(intros;exact zR (NRf.h _) _)|(intros;exact nfc))))|1,_=>(by (simp [yA,zL,yL,enR,zC];all_goals (first|(with_reducible trivial)|(intros;exact zR (NRf.h _) _)|(intros;exact nfc))))|2,_=>(by (simp [yA,zL,yL,inL,geth,vR,enR,zC];all_goals (first|(with_reducible trivial)|(intros;exact zR (NRf.h _) _)|(intros;exact nfc))))|(y+3),h=>absurd h nlt))|(and_intros<;>first|exact (eL (L:=r8.List) (i:=r5.1.toNat) (fun a y=>zR (zG a) y) (fun x y hx=>by simp only [yP hx]) (fun y hy=>match y,hy with|0,_=>(by (simp [yA,zL,yL,inL,geth,vR,enR,zC];all_goals (first|(with_reducible trivial)|(intros;exact zR (NRf.h _) _)|(intros;exact nfc))))|1,_=>(by (simp [yA,zL,yL,inL,geth,vR,enR,zC];all_goals (first|(with_reducible trivial)|(intros;exact zR (NRf.h _) _)|(intros;exact nfc))))|2,_=>(by (simp [yA,zL,yL,inL,geth,vR,enR,zC];all_goals (first|(with_reducible trivial)|(intros;exact zR (NRf.h _) _)|(intros;exact nfc))))|(y+3),h=>absurd h nlt))|(with_reducible trivial)|omega|exact nfc|trivial)
    simp only [go_sem,Nat.reduceBEq,Nat.reduceAdd,fzH2,eZ,fzB2]
    obtain ⟨w46,hw47,H⟩:=bsi H
    replace hw47:=Option.some.inj hw47
    have lhw47:w46.length=r8.List.length:=by rw [← hw47];exact (by simp only [List.length_set])
    refine vE (t2:=(tp 10 (.ro 0 0 true (fun _ _=>.top)::.sl 12 41 0 w37.length false::.ptr 2 0 0 0::.int .i64 0::tp 57 []))) (h2:=[.dead,.dead,.lit 25 [.int .i64 r8.Limit,.int .i64 r8.Stay,.sl 4 3 0 w46.length false,.sl 6 43 0 r8.Group.length false],.lit 25 [.int .i64 r8.Limit,.int .i64 r8.Stay,.sl 4 3 0 w46.length false,.sl 6 43 0 r8.Group.length false],.row 57 3 w46.length (enR zC w46),.dead,.row 61 43 r8.Group.length (enR zD r8.Group),.dead,.lit 61 (.int .u8 p2::.int .i64 p4::hC r16.Head (.ro 1 r16.Body.length false (enR xA r16.Body)::[])),.lit 61 (.int .u8 w1_6.Cat::.int .i64 w1_6.At::hC w1_6.Frame.Head (.ro 1 w1_6.Frame.Body.length false (enR xA w1_6.Frame.Body)::[])),.lit 61 (.int .u8 w1_6.Cat::.int .i64 w1_6.At::hC w1_6.Frame.Head (.ro 1 w1_6.Frame.Body.length false (enR xA w1_6.Frame.Body)::[])),.lit 5 [.int .u8 w1_6.Cat],.row 33 41 w37.length (enR zI w37),.dead,.row 61 43 w42.length (enR zD w42),.dead]) ?_ ?_
    ·refine yH ⟨[some 0,some 1,some 2,some 3,some 4,some 5,some 6,some 7,some 8,some 9,some 10,some 11,some 12,some 13,some 14,some 15],?_,?_,by rfl,by rfl⟩
     ·simp [CvL,Cv,zQ,tp]
     ·exact ⟨zH,zH,(by simp [CvB,CvL,Cv,yN,geth,zQ,lhw47]),(by simp [CvB,CvL,Cv,yN,geth,zQ,lhw47]),zW zG lhw47 (hw47 ▸ (foc_row (L:=r8.List) (i:=r5.1.toNat) (fun a y=>zR (zG a) y) (fun x y hx=>by simp only [yP hx]) (fun y hy=>match y,hy with|0,_=>by simp [yA,zL,fzV,enR,zC]|1,_=>by simp [yA,zL,fzV,enR,zC]|2,_=>by simp [yA,zL,fzV,inL,geth,enR,zC,dP]|(y+3),h=>absurd h nlt))),zH,zW yQ rfl (fun _ _ _ _=>rfl),zH,(by simp [CvB,CvL,Cv,yN,geth]),(by simp [CvB,CvL,Cv,yN,geth]),(by simp [CvB,CvL,Cv,yN,geth]),(by simp [CvB,CvL,Cv,yN,geth]),zW wR rfl (fun _ _ _ _=>rfl),zH,zW yQ rfl (fun _ _ _ _=>rfl),zH,trivial⟩
    simp only [tp]
    refine rg zA ?_
    simp only [go_sem,Nat.reduceLT,Nat.reduceAdd]
    obtain rfl:=Option.some.inj H
    refine ⟨[12,4,6,2,3,8,9,10,11],?_,?_,[],?_,?_,rfl⟩
    ·simp only [go_sem,Nat.reduceBEq]
     try exact at0
    ·simp only [go_sem,Nat.reduceBEq]
     try exact at0
    ·simp only [go_sem,Nat.reduceBEq]
     exact qC (zM (yV (α:=TFrame)) (zM (vT (by first|rfl|simp) (fun _ _ _ _=>rfl)) (zM (qB (zM xF (zM xF (zM (vT (by first|rfl|simp) (fun _ _ _ _=>rfl)) (zM (vT (by first|rfl|simp) (fun _ _ _ _=>rfl)) xO))))) (zM xF xO))))
    ·simp only [go_sem,CvH]
  ·cases hb
 ·unfold body24d at hb
  split at hb<;>cases hb
attribute [go_sem] body24d
noncomputable def F41_L1 (r10:TBuffer) (v1_1:Int) (v1_2:TStored):Option (Lp (Int × TStored) ((TStored) ⊕ ((List TFrame) × (List TFrame) × TBuffer × Int))) :=
 bif (bLt v1_1 (r10.Group.length:Nat)) then (need (inb v1_1 r10.Group.length) <| (F90 (TStored.mk ((gd r10.Group v1_1.toNat).Cat) ((gd r10.Group v1_1.toNat).At) (eF ((gd r10.Group v1_1.toNat).Frame))) v1_2).bind fun r22=>bif (bLt r22 0) then (need (inb v1_1 r10.Group.length) <| some (.next (wr .i64 (v1_1+1),(TStored.mk ((gd r10.Group v1_1.toNat).Cat) ((gd r10.Group v1_1.toNat).At) (eF ((gd r10.Group v1_1.toNat).Frame)))))) else (some (.next (wr .i64 (v1_1+1),v1_2)))) else (some (.done (.inl v1_2)))
noncomputable def F41 (p0:TBuffer) (p1:TFrame) (p2:Int):Option ((List TFrame) × (List TFrame) × TBuffer × Int) :=
 (F18 p0).bind fun r1=>bif (!bEq r1 0) then (some ([],[],(TBuffer.mk 0 0 [] []),r1)) else ((F61 p2).bind fun r4=>bif (!r4) then (some ([],[],(TBuffer.mk 0 0 [] []),2)) else ((F62 p0.Group p2).bind fun r7=>bif r7 then (some ([],[],(TBuffer.mk 0 0 [] []),20)) else ((F65 p0).bind fun r10=>(F63 p1).bind fun r12=>(F47 (TBuffer.mk r10.Limit r10.Stay r10.List r10.Group)).bind fun r14=>bif r14 then (bif (bEq (r10.Group.length:Nat) r10.Limit) then (bif (bLt (r10.Group.length:Nat) 1) then (none) else (need (inb 0 r10.Group.length) <| lp (loopD (fun s=>F41_L1 r10 s.1 s.2) (1,(TStored.mk ((gd r10.Group 0).Cat) ((gd r10.Group 0).At) (eF ((gd r10.Group 0).Frame))))) (fun w1_6=>bif (bLt 0 w1_6.Cat) then (some ([],[r12],(TBuffer.mk r10.Limit r10.Stay r10.List r10.Group),0)) else ((F58_0 r10.Group w1_6.Cat).bind fun r27=>need (inb r27 r10.Group.length) <| need (delb r27 (wr .i64 (r27+1)) r10.Group.length) <| (some [(eF ((gd r10.Group r27.toNat).Frame))]).bind fun w31=>(some (delL r10.Group r27 (wr .i64 (r27+1)))).bind fun w33=>need (capb 120 (w33.length+1)) <| some ([],w31,(TBuffer.mk r10.Limit r10.Stay r10.List (w33 ++ [(TStored.mk 0 p2 (eF r12))])),0))) some)) else (need (capb 120 (r10.Group.length+1)) <| some ([],[],(TBuffer.mk r10.Limit r10.Stay r10.List (r10.Group ++ [(TStored.mk 0 p2 (eF r12))])),0))) else ((eR [r12]).bind fun r37=>some (r37,[],(TBuffer.mk r10.Limit r10.Stay r10.List r10.Group),0)))))
noncomputable def body41d (l:List AV) (s:Nat):AR:=GP (dC yK (dC qK (dC (dI .i64) dN))) (fun p=>F41 p.1 p.2.1 p.2.2.1) (fun r=>.tup [.ro 41 ((r.1).length) false (enR yD (r.1)),.ro 41 ((r.2.1).length) false (enR yD (r.2.1)),.agg [.int .i64 ((r.2.2.1).Limit),.int .i64 ((r.2.2.1).Stay),.ro 3 (((r.2.2.1).List).length) false (enR zT ((r.2.2.1).List)),.ro 43 (((r.2.2.1).Group).length) false (enR zJ ((r.2.2.1).Group))],.int .i64 (r.2.2.2)]) l s
attribute [go_sem] body41d
noncomputable instance fi_ok41d_64:FI 64:=⟨_,_,[.tmp 6],_,Try.func64,by kernel_rfl,rfl,rfl,Try.ntmps64⟩
noncomputable instance fi_ok41d_89:FI 89:=⟨_,_,[.cell 4 61],_,Try.func89,by kernel_rfl,rfl,rfl,Try.ntmps89⟩
noncomputable instance lt_F41_L1 {r10:TBuffer}:LT (fun s=>F41_L1 r10 s.1 s.2):=⟨(fun t h (s:Int × TStored)=>.sl 4 43 0 r10.Group.length false::.fn 90 []::.top::.top::.ptr 7 0 0 0::.ptr 8 0 0 0::.int .i64 s.1::tp 26 ([])),(fun t h s=>[.lit 25 [.int .i64 r10.Limit,.int .i64 r10.Stay,.sl 3 3 0 r10.List.length false,.sl 4 43 0 r10.Group.length false],.dead,.lit 25 [.int .i64 0,.int .i64 0,.ro 0 0 true (fun _ _=>.top),.ro 0 0 true (fun _ _=>.top)],.row 57 3 r10.List.length (enR zC r10.List),.row 61 43 r10.Group.length (enR zD r10.Group),geth h 5,geth h 6,.lit 61 (.int .u8 0::.int .i64 0::hZ (.ro 0 0 true (fun _ _=>.top)::[])),.lit 61 (.int .u8 s.2.Cat::.int .i64 s.2.At::hC s.2.Frame.Head (.ro 1 s.2.Frame.Body.length false (enR xA s.2.Frame.Body)::[]))]),(fun t h (e:TStored)=>tp 4 (.ptr 7 0 0 0::.ptr 8 0 0 0::tp 27 ([]))),(fun t h e=>[.lit 25 [.int .i64 r10.Limit,.int .i64 r10.Stay,.sl 3 3 0 r10.List.length false,.sl 4 43 0 r10.Group.length false],.dead,.lit 25 [.int .i64 0,.int .i64 0,.ro 0 0 true (fun _ _=>.top),.ro 0 0 true (fun _ _=>.top)],.row 57 3 r10.List.length (enR zC r10.List),.row 61 43 r10.Group.length (enR zD r10.Group),geth h 5,geth h 6,.lit 61 (.int .u8 0::.int .i64 0::hZ (.ro 0 0 true (fun _ _=>.top)::[])),.lit 61 (.int .u8 e.Cat::.int .i64 e.At::hC e.Frame.Head (.ro 1 e.Frame.Body.length false (enR xA e.Frame.Body)::[]))]),_,fun s=>F41_L1.eq_1 _ _ _⟩
theorem ok41d:yU Try.prog 41 (xN body41d):=GPo (rs:=[.tmp 6,.tmp 7,.cell 8 25,.tmp 9]) Try.func41 (by kernel_rfl) rfl rfl Try.ntmps41 rn fun ⟨p0,p1,p2,_⟩ r H=>by
 have C:=zE ok18 <| zE ok61 <| zE ok62 <| zE ok63d <| zE ok65d <| zE ok47 <| zE ok90 <| zE ok58_0 <| zE ok60 <| zE ok52_0 <| zU
 dsimp only [F41] at H
 refine st ?_
 refine sq zA ?_
 simp only [go_sem,Nat.reduceAdd]
 refine zZ ?_
 refine zZ ?_
 obtain ⟨r1,e2,H⟩:=bsi H
 refine rg C ?_
 simp only [go_sem,Nat.reduceLT,Nat.reduceAdd,Nat.reduceEqDiff,Nat.reduceBEq,reduceCtorEq,e2]
 repeat ((with_reducible refine aI ?_ ?_);exact an0)
 refine uJ ?_
 refine sq zA ?_
 simp only [go_sem]
 refine yX rfl trivial (fun hc=>?_) (fun hc=>?_)
 ·have E:=e2
  exact dr
 have hk3:(bEq r1 0)=true:=by simpa using hc
 replace H:=yM hc H
 refine zZ ?_
 obtain ⟨r4,e5,H⟩:=bsi H
 refine rg C ?_
 simp only [go_sem,Nat.reduceAdd,Nat.reduceBEq,e5]
 repeat ((with_reducible refine aI ?_ ?_);exact an0)
 refine yX rfl trivial (fun hc=>?_) (fun hc=>?_)
 ·have E:=And.intro e5 (e2)
  have B:=hk3
  exact dr
 have hk6:(r4)=true:=by simpa using hc
 replace H:=yM hc H
 refine zZ ?_
 obtain ⟨r7,e8,H⟩:=bsi H
 refine rg C ?_
 simp only [go_sem,Nat.reduceLT,Nat.reduceAdd,Nat.reduceBEq,e8]
 repeat ((with_reducible refine aI ?_ ?_);exact an0)
 refine yX rfl trivial (fun hc=>?_) (fun hc=>?_)
 ·have E:=And.intro e8 (And.intro e5 (e2))
  have B:=And.intro hk6 (hk3)
  exact dr
 have hk9:(r7)=false:=by simpa using hc
 replace H:=yM hc H
 refine rg zA ?_
 simp only [go_sem]
 refine zZ ?_
 obtain ⟨r10,e11,H⟩:=bsi H
 obtain ⟨r12,e13,H⟩:=bsi H
 refine yW zO C 3 (by kernel_rfl) (by kernel_rfl) ?_
 intro an han
 simp only [vZ,wV,qS,xrD,xoD,qT,uC,List.append_nil,xJ,refs,vC,mask,wY,place,xV,wZ,xZ,hit,inL,xK,ren,tO,rnN,nrH,nrB,nrL,nr,rZ,rS,Nat.sub_self,Nat.add_zero,Nat.zero_add,Nat.reduceSub,Nat.lt_add_one,go_sem,Nat.reduceLeDiff,Nat.reduceLT,Nat.reduceAdd,Nat.reduceSub,Nat.reduceEqDiff,Nat.reduceBEq,reduceCtorEq,e11,e13]
 repeat ((with_reducible refine aI ?_ ?_);exact an3)
 refine rb ?_
 simp only [rL0,rL1,rH0,rH1,rBl,dE,bH,cU,bI,r_sl,bG,bJ,r_z,rBs,rBq,rBu,vJ,xP,xW,rs_a_u8,wQ,wE]
 refine zZ ?_
 refine zZ ?_
 obtain ⟨r14,e15,H⟩:=bsi H
 refine rg C ?_
 simp only [go_sem,Nat.reduceLT,Nat.reduceAdd,Nat.reduceEqDiff,Nat.reduceBEq,reduceCtorEq,e15]
 repeat ((with_reducible refine aI ?_ ?_);exact an0)
 refine condM' rfl trivial (fun hc=>?_) (fun hc=>?_)
 ·have hk16:(r14)=false:=by simpa using hc
  replace H:=yM hc H
  refine jB ?_
  refine xS zO zA 1 ?_
  simp only [zK,tS,tZ,dSl,dZ,go_sem,Nat.reduceLT,Nat.reduceAdd]
  repeat ((with_reducible refine aI ?_ ?_);exact an4)
  refine fzO [5] ?_ ?_
  ·simp only [go_sem,Nat.reduceBEq]
   try exact at0
  simp only [go_sem,Nat.reduceBEq,Nat.reduceAdd]
  have E:=And.intro e15 (And.intro e13 (And.intro e11 (And.intro e8 (And.intro e5 (e2)))))
  have B:=And.intro hk16 (And.intro hk9 (And.intro hk6 (hk3)))
  exact dr
 have hk16:(r14)=true:=by simpa using hc
 replace H:=xH hc H
 refine jB ?_
 refine xS zO zA 6 ?_
 simp only [zK,tS,tZ,dSl,dZ,go_sem,Nat.reduceLeDiff,Nat.reduceLT,Nat.reduceAdd]
 repeat ((with_reducible refine aI ?_ ?_);exact an0)
 refine cM (rs:=[.tmp 6]) Try.func64 (by kernel_rfl) rfl rfl Try.ntmps64 (caps:=[]) (tc:=[.ptr 0 0 0 3,.int .i64 r10.Limit,.agg (.int .u8 0::.int .i64 p2::hC r12.Head (.sl 5 1 0 r12.Body.length false::[]))]) rfl (by simp only [go_sem]) rfl ?_
 simp only [lCl,lNl,Nat.reduceAdd,Nat.reduceSub,rS,rZ,aC,aN]
 refine sq zA ?_
 simp only [go_sem,Nat.reduceAdd]
 refine zZ ?_
 refine sq zA ?_
 simp only [go_sem,Nat.reduceLT,Nat.reduceAdd]
 repeat ((with_reducible refine aI ?_ ?_);exact an0)
 refine condM' rfl trivial (fun hc=>?_) (fun hc=>?_)
 ·have hk17:(bEq (r10.Group.length:Nat) r10.Limit)=false:=by simpa using hc
  replace H:=yM hc H
  refine rg zA ?_
  simp only [go_sem]
  refine zZ ?_
  refine jG [5] ?_ ?_
  ·simp only [go_sem,Nat.reduceBEq]
   try exact at0
  simp only [go_sem,Nat.reduceBEq,Nat.reduceAdd]
  have E:=And.intro e15 (And.intro e13 (And.intro e11 (And.intro e8 (And.intro e5 (e2)))))
  have B:=And.intro hk17 (And.intro hk16 (And.intro hk9 (And.intro hk6 (hk3))))
  exact dr
 have hk17:(bEq (r10.Group.length:Nat) r10.Limit)=true:=by simpa using hc
 replace H:=xH hc H
 refine zZ ?_
 refine jB ?_
 refine xS zO zA 3 ?_
 simp only [zK,tS,tZ,dSl,dZ,go_sem,Nat.reduceLT,Nat.reduceAdd]
 repeat ((with_reducible refine aI ?_ ?_);exact an0)
 refine cM (rs:=[.cell 4 61]) Try.func89 (by kernel_rfl) rfl rfl Try.ntmps89 (caps:=[]) (tc:=[.sl 4 43 0 r10.Group.length false,.fn 90 []]) rfl (by simp only [go_sem]) rfl ?_
 simp only [lCl,lNl,Nat.reduceAdd,Nat.reduceSub,rS,rZ,aC,aN]
 refine sq zA ?_
 simp only [go_sem,Nat.reduceAdd]
 refine zZ ?_
 refine sq zA ?_
 simp only [go_sem]
 repeat ((with_reducible refine aI ?_ ?_);exact an0)
 refine yX rfl trivial (fun hc=>?_) (fun hc=>?_)
 ·have E:=And.intro e15 (And.intro e13 (And.intro e11 (And.intro e8 (And.intro e5 (e2)))))
  have B:=And.intro hk17 (And.intro hk16 (And.intro hk9 (And.intro hk6 (hk3))))
  exact dr
 have hk18:(bLt (r10.Group.length:Nat) 1)=false:=by simpa using hc
 replace H:=yM hc H
 refine rg zA ?_
 simp only [go_sem]
 refine zZ ?_
 obtain ⟨f19,H⟩:=zN.1 H
 replace f19:=xD.1 f19
 refine rg zA ?_
 simp only [go_sem,Nat.reduceLT,Nat.reduceAdd,f19]
 repeat ((with_reducible refine aI ?_ ?_);exact an5)
 refine zZ ?_
 refine sq zA ?_
 simp only [go_sem]
 refine uJ ?_
 refine wX (fun s:Int × TStored=>(.sl 4 43 0 r10.Group.length false::.fn 90 []::.top::.top::.ptr 7 0 0 0::.ptr 8 0 0 0::.int .i64 s.1::tp 26 [])) (fun s=>[.lit 25 [.int .i64 r10.Limit,.int .i64 r10.Stay,.sl 3 3 0 r10.List.length false,.sl 4 43 0 r10.Group.length false],.dead,.lit 25 [.int .i64 0,.int .i64 0,.ro 0 0 true (fun _ _=>.top),.ro 0 0 true (fun _ _=>.top)],.row 57 3 r10.List.length (enR zC r10.List),.row 61 43 r10.Group.length (enR zD r10.Group),.row 5 1 r12.Body.length (enR xA r12.Body),.lit 61 (.int .u8 0::.int .i64 p2::hC r12.Head (.sl 5 1 0 r12.Body.length false::[])),.lit 61 (.int .u8 0::.int .i64 0::hZ (.ro 0 0 true (fun _ _=>.top)::[])),.lit 61 (.int .u8 s.2.Cat::.int .i64 s.2.At::hC s.2.Frame.Head (.ro 1 s.2.Frame.Body.length false (enR xA s.2.Frame.Body)::[]))]) (fun e:TStored=>(tp 4 (.ptr 7 0 0 0::.ptr 8 0 0 0::tp 27 []))) (fun e=>[.lit 25 [.int .i64 r10.Limit,.int .i64 r10.Stay,.sl 3 3 0 r10.List.length false,.sl 4 43 0 r10.Group.length false],.dead,.lit 25 [.int .i64 0,.int .i64 0,.ro 0 0 true (fun _ _=>.top),.ro 0 0 true (fun _ _=>.top)],.row 57 3 r10.List.length (enR zC r10.List),.row 61 43 r10.Group.length (enR zD r10.Group),.row 5 1 r12.Body.length (enR xA r12.Body),.lit 61 (.int .u8 0::.int .i64 p2::hC r12.Head (.sl 5 1 0 r12.Body.length false::[])),.lit 61 (.int .u8 0::.int .i64 0::hZ (.ro 0 0 true (fun _ _=>.top)::[])),.lit 61 (.int .u8 e.Cat::.int .i64 e.At::hC e.Frame.Head (.ro 1 e.Frame.Body.length false (enR xA e.Frame.Body)::[]))]) H ?_ (fun s o H hn1_1 hn2_1=>?_) (fun w1_6 H=>?_)
 ·have E:=And.intro f19 (And.intro e15 (And.intro e13 (And.intro e11 (And.intro e8 (And.intro e5 (e2))))))
  have B:=And.intro hk18 (And.intro hk17 (And.intro hk16 (And.intro hk9 (And.intro hk6 (hk3)))))
  exact dr
 ·obtain ⟨v1_1,v1_2⟩:=s
  unfold F41_L1 at H
  try dsimp only at H ⊢
  try simp only [tp]
  have E:=And.intro f19 (And.intro e15 (And.intro e13 (And.intro e11 (And.intro e8 (And.intro e5 (e2))))))
  have B:=And.intro hk18 (And.intro hk17 (And.intro hk16 (And.intro hk9 (And.intro hk6 (hk3)))))
  exact dr
 ·try dsimp only at H ⊢
  try simp only [tp]
  try simp only [wJ]
  refine sq zA ?_
  simp only [go_sem,Nat.reduceLT,Nat.reduceAdd]
  repeat ((with_reducible refine aI ?_ ?_);exact an5)
  refine rg zA ?_
  simp only [go_sem,Nat.reduceLT,Nat.reduceAdd]
  refine xS zO zA 3 ?_
  simp only [zK,tS,tZ,dSl,dZ,go_sem,Nat.reduceLeDiff,Nat.reduceLT,Nat.reduceAdd]
  repeat ((with_reducible refine aI ?_ ?_);exact an0)
  refine vN ?_
  refine zZ ?_
  refine sq zA ?_
  simp only [go_sem,Nat.reduceLeDiff,Nat.reduceLT,Nat.reduceAdd]
  repeat ((with_reducible refine aI ?_ ?_);exact an5)
  refine yX rfl trivial (fun hc=>?_) (fun hc=>?_)
  ·have hk26:(bLt 0 w1_6.Cat)=true:=by simpa using hc
   replace H:=xH hc H
   refine zZ ?_
   refine jB ?_
   refine xS zO zA 2 ?_
   simp only [zK,tS,tZ,dSl,dZ,go_sem,Nat.reduceLT,Nat.reduceAdd,reduceCtorEq]
   repeat ((with_reducible refine aI ?_ ?_);exact an5)
   refine fzO [5] ?_ ?_
   ·simp only [go_sem,Nat.reduceBEq]
    try exact at0
   simp only [go_sem,Nat.reduceBEq,Nat.reduceAdd]
   have E:=And.intro f19 (And.intro e15 (And.intro e13 (And.intro e11 (And.intro e8 (And.intro e5 (e2))))))
   have B:=And.intro hk26 (And.intro hk18 (And.intro hk17 (And.intro hk16 (And.intro hk9 (And.intro hk6 (hk3))))))
   exact dr
  have hk26:(bLt 0 w1_6.Cat)=false:=by simpa using hc
  replace H:=yM hc H
  refine rg zA ?_
  simp only [go_sem]
  refine zZ ?_
  obtain ⟨r27,e28,H⟩:=bsi H
  refine rg C ?_
  simp only [go_sem,Nat.reduceLT,Nat.reduceAdd,Nat.reduceBEq,e28]
  repeat ((with_reducible refine aI ?_ ?_);exact an0)
  refine zZ ?_
  obtain ⟨f29,H⟩:=zN.1 H
  replace f29:=xD.1 f29
  refine rg zA ?_
  simp only [go_sem,Nat.reduceLeDiff,Nat.reduceLT,Nat.reduceAdd,reduceCtorEq,f29]
  repeat ((with_reducible refine aI ?_ ?_);exact an5)
  obtain ⟨f30,H⟩:=zN.1 H
  replace f30:=delb_iff.1 f30
  refine rg C ?_
  simp only [go_sem,Nat.reduceLT,Nat.reduceAdd,Nat.reduceBEq,delN,f30]
  repeat ((with_reducible refine aI ?_ ?_);exact an4)
  refine zZ ?_
  obtain ⟨w31,hw32,H⟩:=bsi H
  replace hw32:=Option.some.inj hw32
  have lhw32:w31.length=1:=by rw [← hw32];exact cl
  obtain ⟨w33,hw34,H⟩:=bsi H
  replace hw34:=Option.some.inj hw34
  have lhw34:w33.length=r10.Group.length - ((wr .i64 (r27+1)).toNat - r27.toNat):=by rw [← hw34];exact (del_len f30 cl)
  refine vE (t2:=(.ptr 0 0 0 3::tp 4 (.ptr 6 0 0 0::.sl 10 41 0 w31.length false::tp 51 []))) (h2:=[.lit 25 [.int .i64 r10.Limit,.int .i64 r10.Stay,.sl 3 3 0 r10.List.length false,.sl 11 43 0 w33.length false],.dead,.lit 25 [.int .i64 0,.int .i64 0,.ro 0 0 true (fun _ _=>.top),.ro 0 0 true (fun _ _=>.top)],.row 57 3 r10.List.length (enR zC r10.List),.dead,.row 5 1 r12.Body.length (enR xA r12.Body),.lit 61 (.int .u8 0::.int .i64 p2::hC r12.Head (.sl 5 1 0 r12.Body.length false::[])),.lit 61 (.int .u8 w1_6.Cat::.int .i64 w1_6.At::hC w1_6.Frame.Head (.ro 1 w1_6.Frame.Body.length false (enR xA w1_6.Frame.Body)::[])),.lit 61 (.int .u8 w1_6.Cat::.int .i64 w1_6.At::hC w1_6.Frame.Head (.ro 1 w1_6.Frame.Body.length false (enR xA w1_6.Frame.Body)::[])),.lit 5 [.int .u8 w1_6.Cat],.row 33 41 w31.length (enR zI w31),.row 61 43 w33.length (enR zD w33)]) ?_ ?_
  ·refine yH ⟨[some 0,some 1,some 2,some 3,some 4,some 5,some 6,some 7,some 8,some 9,some 10,some 11],?_,?_,by rfl,by rfl⟩
   ·simp [CvL,Cv,zQ,tp,lhw32]
   ·exact ⟨(by simp [CvB,CvL,Cv,yN,geth,zQ,lhw34]),zH,(by simp [CvB,CvL,Cv,yN,geth]),zW zG rfl (fun _ _ _ _=>rfl),zH,zW nr_u8 rfl (fun _ _ _ _=>rfl),(by simp [CvB,CvL,Cv,yN,geth,zQ]),(by simp [CvB,CvL,Cv,yN,geth]),(by simp [CvB,CvL,Cv,yN,geth]),(by simp [CvB,CvL,Cv,yN,geth]),zW wR lhw32 (hw32 ▸ (xR (f:=zI) [(eF ((gd r10.Group r27.toNat).Frame))] (fun _ _=>rfl) rfl)),zW yQ lhw34 (hw34 ▸ (del_row f30 cl (fun _ _ _ _=>rfl))),trivial⟩
  simp only [tp]
  refine jG [5] ?_ ?_
  ·simp only [go_sem,Nat.reduceBEq]
   try exact at0
  simp only [go_sem,Nat.reduceBEq,Nat.reduceAdd]
  have E:=And.intro f30 (And.intro f29 (And.intro e28 (And.intro f19 (And.intro e15 (And.intro e13 (And.intro e11 (And.intro e8 (And.intro e5 (e2)))))))))
  have B:=And.intro hk26 (And.intro hk18 (And.intro hk17 (And.intro hk16 (And.intro hk9 (And.intro hk6 (hk3))))))
  exact dr
end Go.Proofs.Ytefiemaoacmdkaa
