/-
  What BufferAged reaches.
-/
import Derived.Test.YtefiemaoacmdkaaY5p4
namespace Go.Proofs.Ytefiemaoacmdkaa
open Go.Am
set_option maxHeartbeats 4000000
set_option maxRecDepth 20000
set_option linter.unusedVariables false
set_option linter.unusedSimpArgs false
noncomputable def ct45t0:Ct:=tab [(36,pureC body36)]
theorem ct45t0_ok:CtOk Try.prog ct45t0:=tab_cons ok36 <| tab_nil
theorem ct45t0_36 (l:List AV) (h:List ABlk):ct45t0 36 l h=pureC body36 l h:=rfl
noncomputable def F45_L1 (p0:List TStored) (p1:List TStored) (v1_1:Int):Option (Lp (Int) ((Unit) ⊕ (Bool))) :=
 bif (bLt v1_1 (p0.length:Nat)) then (need (inb v1_1 p0.length) <| need (inb v1_1 p1.length) <| need (bif (!(!bEq ((gd p0 v1_1.toNat).Cat) ((gd p1 v1_1.toNat).Cat))) then inb v1_1 p0.length else true) <| need (bif (!(!bEq ((gd p0 v1_1.toNat).Cat) ((gd p1 v1_1.toNat).Cat))) then inb v1_1 p1.length else true) <| need (bif (!((!bEq ((gd p0 v1_1.toNat).Cat) ((gd p1 v1_1.toNat).Cat)) || (!bEq ((gd p0 v1_1.toNat).At) ((gd p1 v1_1.toNat).At)))) then inb v1_1 p0.length else true) <| need (bif (!((!bEq ((gd p0 v1_1.toNat).Cat) ((gd p1 v1_1.toNat).Cat)) || (!bEq ((gd p0 v1_1.toNat).At) ((gd p1 v1_1.toNat).At)))) then inb v1_1 p1.length else true) <| need (bif (!((!bEq ((gd p0 v1_1.toNat).Cat) ((gd p1 v1_1.toNat).Cat)) || (!bEq ((gd p0 v1_1.toNat).At) ((gd p1 v1_1.toNat).At)))) then ((F36 (TFrame.mk (THeader.mk ((((gd p0 v1_1.toNat).Frame).Head).Kind) ((((gd p0 v1_1.toNat).Frame).Head).Sub) ((((gd p0 v1_1.toNat).Frame).Head).ToDs) ((((gd p0 v1_1.toNat).Frame).Head).FromDs) ((((gd p0 v1_1.toNat).Frame).Head).More) ((((gd p0 v1_1.toNat).Frame).Head).Retry) ((((gd p0 v1_1.toNat).Frame).Head).Sleep) ((((gd p0 v1_1.toNat).Frame).Head).MoreData) ((((gd p0 v1_1.toNat).Frame).Head).Protected) ((((gd p0 v1_1.toNat).Frame).Head).Duration) (A6u8.mk (((((gd p0 v1_1.toNat).Frame).Head).A1).x0) (((((gd p0 v1_1.toNat).Frame).Head).A1).x1) (((((gd p0 v1_1.toNat).Frame).Head).A1).x2) (((((gd p0 v1_1.toNat).Frame).Head).A1).x3) (((((gd p0 v1_1.toNat).Frame).Head).A1).x4) (((((gd p0 v1_1.toNat).Frame).Head).A1).x5)) (A6u8.mk (((((gd p0 v1_1.toNat).Frame).Head).A2).x0) (((((gd p0 v1_1.toNat).Frame).Head).A2).x1) (((((gd p0 v1_1.toNat).Frame).Head).A2).x2) (((((gd p0 v1_1.toNat).Frame).Head).A2).x3) (((((gd p0 v1_1.toNat).Frame).Head).A2).x4) (((((gd p0 v1_1.toNat).Frame).Head).A2).x5)) (A6u8.mk (((((gd p0 v1_1.toNat).Frame).Head).A3).x0) (((((gd p0 v1_1.toNat).Frame).Head).A3).x1) (((((gd p0 v1_1.toNat).Frame).Head).A3).x2) (((((gd p0 v1_1.toNat).Frame).Head).A3).x3) (((((gd p0 v1_1.toNat).Frame).Head).A3).x4) (((((gd p0 v1_1.toNat).Frame).Head).A3).x5)) (A6u8.mk (((((gd p0 v1_1.toNat).Frame).Head).A4).x0) (((((gd p0 v1_1.toNat).Frame).Head).A4).x1) (((((gd p0 v1_1.toNat).Frame).Head).A4).x2) (((((gd p0 v1_1.toNat).Frame).Head).A4).x3) (((((gd p0 v1_1.toNat).Frame).Head).A4).x4) (((((gd p0 v1_1.toNat).Frame).Head).A4).x5)) ((((gd p0 v1_1.toNat).Frame).Head).Seq) ((((gd p0 v1_1.toNat).Frame).Head).Frag) ((((gd p0 v1_1.toNat).Frame).Head).Tid) ((((gd p0 v1_1.toNat).Frame).Head).Ack) ((((gd p0 v1_1.toNat).Frame).Head).Amsdu) ((((gd p0 v1_1.toNat).Frame).Head).Eosp)) (((gd p0 v1_1.toNat).Frame).Body)) (TFrame.mk (THeader.mk ((((gd p1 v1_1.toNat).Frame).Head).Kind) ((((gd p1 v1_1.toNat).Frame).Head).Sub) ((((gd p1 v1_1.toNat).Frame).Head).ToDs) ((((gd p1 v1_1.toNat).Frame).Head).FromDs) ((((gd p1 v1_1.toNat).Frame).Head).More) ((((gd p1 v1_1.toNat).Frame).Head).Retry) ((((gd p1 v1_1.toNat).Frame).Head).Sleep) ((((gd p1 v1_1.toNat).Frame).Head).MoreData) ((((gd p1 v1_1.toNat).Frame).Head).Protected) ((((gd p1 v1_1.toNat).Frame).Head).Duration) (A6u8.mk (((((gd p1 v1_1.toNat).Frame).Head).A1).x0) (((((gd p1 v1_1.toNat).Frame).Head).A1).x1) (((((gd p1 v1_1.toNat).Frame).Head).A1).x2) (((((gd p1 v1_1.toNat).Frame).Head).A1).x3) (((((gd p1 v1_1.toNat).Frame).Head).A1).x4) (((((gd p1 v1_1.toNat).Frame).Head).A1).x5)) (A6u8.mk (((((gd p1 v1_1.toNat).Frame).Head).A2).x0) (((((gd p1 v1_1.toNat).Frame).Head).A2).x1) (((((gd p1 v1_1.toNat).Frame).Head).A2).x2) (((((gd p1 v1_1.toNat).Frame).Head).A2).x3) (((((gd p1 v1_1.toNat).Frame).Head).A2).x4) (((((gd p1 v1_1.toNat).Frame).Head).A2).x5)) (A6u8.mk (((((gd p1 v1_1.toNat).Frame).Head).A3).x0) (((((gd p1 v1_1.toNat).Frame).Head).A3).x1) (((((gd p1 v1_1.toNat).Frame).Head).A3).x2) (((((gd p1 v1_1.toNat).Frame).Head).A3).x3) (((((gd p1 v1_1.toNat).Frame).Head).A3).x4) (((((gd p1 v1_1.toNat).Frame).Head).A3).x5)) (A6u8.mk (((((gd p1 v1_1.toNat).Frame).Head).A4).x0) (((((gd p1 v1_1.toNat).Frame).Head).A4).x1) (((((gd p1 v1_1.toNat).Frame).Head).A4).x2) (((((gd p1 v1_1.toNat).Frame).Head).A4).x3) (((((gd p1 v1_1.toNat).Frame).Head).A4).x4) (((((gd p1 v1_1.toNat).Frame).Head).A4).x5)) ((((gd p1 v1_1.toNat).Frame).Head).Seq) ((((gd p1 v1_1.toNat).Frame).Head).Frag) ((((gd p1 v1_1.toNat).Frame).Head).Tid) ((((gd p1 v1_1.toNat).Frame).Head).Ack) ((((gd p1 v1_1.toNat).Frame).Head).Amsdu) ((((gd p1 v1_1.toNat).Frame).Head).Eosp)) (((gd p1 v1_1.toNat).Frame).Body))).isSome) else true) <| bif (((!bEq ((gd p0 v1_1.toNat).Cat) ((gd p1 v1_1.toNat).Cat)) || (!bEq ((gd p0 v1_1.toNat).At) ((gd p1 v1_1.toNat).At))) || (!(gt (F36 (TFrame.mk (THeader.mk ((((gd p0 v1_1.toNat).Frame).Head).Kind) ((((gd p0 v1_1.toNat).Frame).Head).Sub) ((((gd p0 v1_1.toNat).Frame).Head).ToDs) ((((gd p0 v1_1.toNat).Frame).Head).FromDs) ((((gd p0 v1_1.toNat).Frame).Head).More) ((((gd p0 v1_1.toNat).Frame).Head).Retry) ((((gd p0 v1_1.toNat).Frame).Head).Sleep) ((((gd p0 v1_1.toNat).Frame).Head).MoreData) ((((gd p0 v1_1.toNat).Frame).Head).Protected) ((((gd p0 v1_1.toNat).Frame).Head).Duration) (A6u8.mk (((((gd p0 v1_1.toNat).Frame).Head).A1).x0) (((((gd p0 v1_1.toNat).Frame).Head).A1).x1) (((((gd p0 v1_1.toNat).Frame).Head).A1).x2) (((((gd p0 v1_1.toNat).Frame).Head).A1).x3) (((((gd p0 v1_1.toNat).Frame).Head).A1).x4) (((((gd p0 v1_1.toNat).Frame).Head).A1).x5)) (A6u8.mk (((((gd p0 v1_1.toNat).Frame).Head).A2).x0) (((((gd p0 v1_1.toNat).Frame).Head).A2).x1) (((((gd p0 v1_1.toNat).Frame).Head).A2).x2) (((((gd p0 v1_1.toNat).Frame).Head).A2).x3) (((((gd p0 v1_1.toNat).Frame).Head).A2).x4) (((((gd p0 v1_1.toNat).Frame).Head).A2).x5)) (A6u8.mk (((((gd p0 v1_1.toNat).Frame).Head).A3).x0) (((((gd p0 v1_1.toNat).Frame).Head).A3).x1) (((((gd p0 v1_1.toNat).Frame).Head).A3).x2) (((((gd p0 v1_1.toNat).Frame).Head).A3).x3) (((((gd p0 v1_1.toNat).Frame).Head).A3).x4) (((((gd p0 v1_1.toNat).Frame).Head).A3).x5)) (A6u8.mk (((((gd p0 v1_1.toNat).Frame).Head).A4).x0) (((((gd p0 v1_1.toNat).Frame).Head).A4).x1) (((((gd p0 v1_1.toNat).Frame).Head).A4).x2) (((((gd p0 v1_1.toNat).Frame).Head).A4).x3) (((((gd p0 v1_1.toNat).Frame).Head).A4).x4) (((((gd p0 v1_1.toNat).Frame).Head).A4).x5)) ((((gd p0 v1_1.toNat).Frame).Head).Seq) ((((gd p0 v1_1.toNat).Frame).Head).Frag) ((((gd p0 v1_1.toNat).Frame).Head).Tid) ((((gd p0 v1_1.toNat).Frame).Head).Ack) ((((gd p0 v1_1.toNat).Frame).Head).Amsdu) ((((gd p0 v1_1.toNat).Frame).Head).Eosp)) (((gd p0 v1_1.toNat).Frame).Body)) (TFrame.mk (THeader.mk ((((gd p1 v1_1.toNat).Frame).Head).Kind) ((((gd p1 v1_1.toNat).Frame).Head).Sub) ((((gd p1 v1_1.toNat).Frame).Head).ToDs) ((((gd p1 v1_1.toNat).Frame).Head).FromDs) ((((gd p1 v1_1.toNat).Frame).Head).More) ((((gd p1 v1_1.toNat).Frame).Head).Retry) ((((gd p1 v1_1.toNat).Frame).Head).Sleep) ((((gd p1 v1_1.toNat).Frame).Head).MoreData) ((((gd p1 v1_1.toNat).Frame).Head).Protected) ((((gd p1 v1_1.toNat).Frame).Head).Duration) (A6u8.mk (((((gd p1 v1_1.toNat).Frame).Head).A1).x0) (((((gd p1 v1_1.toNat).Frame).Head).A1).x1) (((((gd p1 v1_1.toNat).Frame).Head).A1).x2) (((((gd p1 v1_1.toNat).Frame).Head).A1).x3) (((((gd p1 v1_1.toNat).Frame).Head).A1).x4) (((((gd p1 v1_1.toNat).Frame).Head).A1).x5)) (A6u8.mk (((((gd p1 v1_1.toNat).Frame).Head).A2).x0) (((((gd p1 v1_1.toNat).Frame).Head).A2).x1) (((((gd p1 v1_1.toNat).Frame).Head).A2).x2) (((((gd p1 v1_1.toNat).Frame).Head).A2).x3) (((((gd p1 v1_1.toNat).Frame).Head).A2).x4) (((((gd p1 v1_1.toNat).Frame).Head).A2).x5)) (A6u8.mk (((((gd p1 v1_1.toNat).Frame).Head).A3).x0) (((((gd p1 v1_1.toNat).Frame).Head).A3).x1) (((((gd p1 v1_1.toNat).Frame).Head).A3).x2) (((((gd p1 v1_1.toNat).Frame).Head).A3).x3) (((((gd p1 v1_1.toNat).Frame).Head).A3).x4) (((((gd p1 v1_1.toNat).Frame).Head).A3).x5)) (A6u8.mk (((((gd p1 v1_1.toNat).Frame).Head).A4).x0) (((((gd p1 v1_1.toNat).Frame).Head).A4).x1) (((((gd p1 v1_1.toNat).Frame).Head).A4).x2) (((((gd p1 v1_1.toNat).Frame).Head).A4).x3) (((((gd p1 v1_1.toNat).Frame).Head).A4).x4) (((((gd p1 v1_1.toNat).Frame).Head).A4).x5)) ((((gd p1 v1_1.toNat).Frame).Head).Seq) ((((gd p1 v1_1.toNat).Frame).Head).Frag) ((((gd p1 v1_1.toNat).Frame).Head).Tid) ((((gd p1 v1_1.toNat).Frame).Head).Ack) ((((gd p1 v1_1.toNat).Frame).Head).Amsdu) ((((gd p1 v1_1.toNat).Frame).Head).Eosp)) (((gd p1 v1_1.toNat).Frame).Body)))))) then (some (.done (.inr false))) else (some (.next (wr .i64 (v1_1+1))))) else (some (.done (.inl ())))
noncomputable def F45 (p0:List TStored) (p1:List TStored):Option (Bool) :=
 bif (!bEq (p0.length:Nat) (p1.length:Nat)) then (some false) else (lp (loopD (fun s=>F45_L1 p0 p1 s) 0) (fun _=>some true) some)
noncomputable def body45:List AV->AR
 | [v0,v1]=>.pure (lK k_TStored 43 v0/\lK k_TStored 43 v1/\(F45 (lA g_TStored v0) (lA g_TStored v1)).isSome=true) (.bool (gt (F45 (lA g_TStored v0) (lA g_TStored v1))))
 | _=>.fail
theorem ok45:FnOk Try.prog 45 (pureC body45):=by
 refine pure_fnM body45 (rs:=[.tmp 4]) Try.func45 (by kernel_rfl) rfl rfl ?_
 intro l ob v hb hob
 unfold body45 at hb
 split at hb
 ·rename_i v0 v1
  injection hb with q1 q2;subst q1 q2
  obtain ⟨hk0_0,hk1_0,hob⟩:=hob
  obtain ⟨r,H⟩:=Option.isSome_iff_exists.1 hob
  rw [H,gt_some]
  have hw0:=lK_wk (fun r h=>w_TStored h) hk0_0
  have hw1:=lK_wk (fun r h=>w_TStored h) hk1_0
  generalize lA g_TStored v0=p0 at H hw0
  generalize lA g_TStored v1=p1 at H hw1
  refine ⟨[.ro 43 p0.length false (enR c_TStored p0),.ro 43 p1.length false (enR c_TStored p1)],_,(fun E vs F=>FR_wk1 hw0.1 F (fun vs F=>FR_wk1 hw1.1 F (fun vs F=>F))),rfl,rfl,?_⟩
  rw [Try.ntmps45]
  simp only [List.length_cons,List.length_nil,Nat.reduceAdd,Nat.reduceSub,List.replicate_succ,List.replicate_zero,List.cons_append,List.nil_append]
  unfold F45 at H
  try dsimp only at H
  refine sq ctNo_ok ?_
  simp only [go_sem]
  refine seqM ?_
  refine sq ctNo_ok ?_
  simp only [go_sem]
  repeat ((with_reducible refine And.intro ?_ ?_);focus exact an0)
  refine condM rfl trivial (fun hc=>?_) (fun hc=>?_)
  ·have hk1:(bEq (p0.length:Nat) (p1.length:Nat))=false:=by simpa using hc
   replace H:=cond_t hc H
   refine sq ctNo_ok ?_
   simp only [go_sem]
   refine rg ctNo_ok ?_
   simp only [go_sem]
   obtain rfl:=Option.some.inj H
   first|rfl|simp only [Bool.and_false,Bool.false_and,Bool.and_true,Bool.true_and]
  have hk1:(bEq (p0.length:Nat) (p1.length:Nat))=true:=by simpa using hc
  replace H:=cond_f hc H
  refine rg ctNo_ok ?_
  simp only [go_sem]
  refine seqM ?_
  refine sq ctNo_ok ?_
  simp only [go_sem]
  refine blkM ?_
  refine loop_den (fun s:Int=>(.ro 43 p0.length false (enR c_TStored p0)::.ro 43 p1.length false (enR c_TStored p1)::.top::.top::.top::.int .i64 s::tp 49 [])) (fun s=>[]) (fun e:Unit=>(tp 55 [])) (fun e=>[]) H ?_ (fun v1_1 o H hn1_1 hn2_1=>?_) (fun e H=>?_)
  ·refine SubF_of ⟨[],?_,?_,by rfl,by rfl⟩
   ·simp [CvL,Cv,tp]
   ·trivial
  ·unfold F45_L1 at H
   try dsimp only at H ⊢
   try simp only [tp]
   refine seqM ?_
   refine sq ctNo_ok ?_
   simp only [go_sem]
   repeat ((with_reducible refine And.intro ?_ ?_);focus exact an0)
   refine condM' rfl trivial (fun hc=>?_) (fun hc=>?_)
   ·have hk2:(bLt v1_1 (p0.length:Nat))=false:=by simpa using hc
    replace H:=cond_f hc H
    refine rg ctNo_ok ?_
    simp only [go_sem]
    refine ⟨_,(Option.some.inj H).symm,?_⟩
    refine SubF_of ⟨[],?_,?_,by rfl,by rfl⟩
    ·simp [CvL,Cv]
    ·trivial
   have hk2:(bLt v1_1 (p0.length:Nat))=true:=by simpa using hc
   replace H:=cond_t hc H
   refine rg ctNo_ok ?_
   simp only [go_sem]
   refine seqM ?_
   refine blkM ?_
   refine seqM ?_
   obtain ⟨f3,H⟩:=need_some.1 H
   replace f3:=inb_iff.1 f3
   obtain ⟨f4,H⟩:=need_some.1 H
   replace f4:=inb_iff.1 f4
   obtain ⟨f5,H⟩:=need_some.1 H
   replace f5:=g_iff.1 f5
   replace f5:=fun g=>inb_iff.1 (f5 g)
   obtain ⟨f6,H⟩:=need_some.1 H
   replace f6:=g_iff.1 f6
   replace f6:=fun g=>inb_iff.1 (f6 g)
   obtain ⟨f7,H⟩:=need_some.1 H
   replace f7:=g_iff.1 f7
   replace f7:=fun g=>inb_iff.1 (f7 g)
   obtain ⟨f8,H⟩:=need_some.1 H
   replace f8:=g_iff.1 f8
   replace f8:=fun g=>inb_iff.1 (f8 g)
   obtain ⟨f9,H⟩:=need_some.1 H
   replace f9:=g_iff.1 f9
   refine draw_quiet shT_ok ct45t0_ok (by kernel_rfl) (by kernel_rfl) ?_
   simp only [go_sem,Nat.reduceLeDiff,Nat.reduceLT,Nat.reduceAdd,reduceCtorEq,ct45t0_36,body36,f3,f4]
   repeat ((with_reducible refine And.intro ?_ ?_);focus (first|(with_reducible trivial)|omega|exact f5|exact f6|exact f7|exact f8|exact f9|(intro g;have q:=f5 (by first|exact g|(rw [g];rfl)|simpa using g);first|exact q|exact ⟨q.1,q.2.1⟩|exact q.2.2|omega|exact ⟨g,q⟩|exact ⟨trivial,q⟩|exact ⟨g,q.1,q.2.1⟩|exact ⟨g,q.2.2⟩)|(intro g;have q:=f6 (by first|exact g|(rw [g];rfl)|simpa using g);first|exact q|exact ⟨q.1,q.2.1⟩|exact q.2.2|omega|exact ⟨g,q⟩|exact ⟨trivial,q⟩|exact ⟨g,q.1,q.2.1⟩|exact ⟨g,q.2.2⟩)|(intro g;have q:=f7 (by first|exact g|(rw [g];rfl)|simpa using g);first|exact q|exact ⟨q.1,q.2.1⟩|exact q.2.2|omega|exact ⟨g,q⟩|exact ⟨trivial,q⟩|exact ⟨g,q.1,q.2.1⟩|exact ⟨g,q.2.2⟩)|(intro g;have q:=f8 (by first|exact g|(rw [g];rfl)|simpa using g);first|exact q|exact ⟨q.1,q.2.1⟩|exact q.2.2|omega|exact ⟨g,q⟩|exact ⟨trivial,q⟩|exact ⟨g,q.1,q.2.1⟩|exact ⟨g,q.2.2⟩)|(intro g;have q:=f9 (by first|exact g|(rw [g];rfl)|simpa using g);first|exact q|exact ⟨q.1,q.2.1⟩|exact q.2.2|omega|exact ⟨g,q⟩|exact ⟨trivial,q⟩|exact ⟨g,q.1,q.2.1⟩|exact ⟨g,q.2.2⟩)|(intro g;(try have q0:=f5 (by first|exact g|(rw [g];rfl)|simpa using g));(try have q1:=f6 (by first|exact g|(rw [g];rfl)|simpa using g));(try have q2:=f7 (by first|exact g|(rw [g];rfl)|simpa using g));(try have q3:=f8 (by first|exact g|(rw [g];rfl)|simpa using g));(try have q4:=f9 (by first|exact g|(rw [g];rfl)|simpa using g));and_intros<;>first|(with_reducible trivial)|assumption|exact nfc|(intro g2;rw [g,g2];rfl)|(intro g2;assumption)|(simp only [g,Bool.true_and,Bool.and_true,Bool.not_false,Bool.not_true];assumption)|grind)|(and_intros<;>first|(with_reducible trivial)|omega|assumption|exact nfc|first|exact rfl|exact trivial|exact fitI|exact .inr rfl|exact .inl rfl|exact fun x hx=>absurd hx (by omega))|grind))
   refine condM rfl trivial (fun hc=>?_) (fun hc=>?_)
   ·have hk10:(((!bEq ((gd p0 v1_1.toNat).Cat) ((gd p1 v1_1.toNat).Cat)) || (!bEq ((gd p0 v1_1.toNat).At) ((gd p1 v1_1.toNat).At))) || (!(gt (F36 (TFrame.mk (THeader.mk ((((gd p0 v1_1.toNat).Frame).Head).Kind) ((((gd p0 v1_1.toNat).Frame).Head).Sub) ((((gd p0 v1_1.toNat).Frame).Head).ToDs) ((((gd p0 v1_1.toNat).Frame).Head).FromDs) ((((gd p0 v1_1.toNat).Frame).Head).More) ((((gd p0 v1_1.toNat).Frame).Head).Retry) ((((gd p0 v1_1.toNat).Frame).Head).Sleep) ((((gd p0 v1_1.toNat).Frame).Head).MoreData) ((((gd p0 v1_1.toNat).Frame).Head).Protected) ((((gd p0 v1_1.toNat).Frame).Head).Duration) (A6u8.mk (((((gd p0 v1_1.toNat).Frame).Head).A1).x0) (((((gd p0 v1_1.toNat).Frame).Head).A1).x1) (((((gd p0 v1_1.toNat).Frame).Head).A1).x2) (((((gd p0 v1_1.toNat).Frame).Head).A1).x3) (((((gd p0 v1_1.toNat).Frame).Head).A1).x4) (((((gd p0 v1_1.toNat).Frame).Head).A1).x5)) (A6u8.mk (((((gd p0 v1_1.toNat).Frame).Head).A2).x0) (((((gd p0 v1_1.toNat).Frame).Head).A2).x1) (((((gd p0 v1_1.toNat).Frame).Head).A2).x2) (((((gd p0 v1_1.toNat).Frame).Head).A2).x3) (((((gd p0 v1_1.toNat).Frame).Head).A2).x4) (((((gd p0 v1_1.toNat).Frame).Head).A2).x5)) (A6u8.mk (((((gd p0 v1_1.toNat).Frame).Head).A3).x0) (((((gd p0 v1_1.toNat).Frame).Head).A3).x1) (((((gd p0 v1_1.toNat).Frame).Head).A3).x2) (((((gd p0 v1_1.toNat).Frame).Head).A3).x3) (((((gd p0 v1_1.toNat).Frame).Head).A3).x4) (((((gd p0 v1_1.toNat).Frame).Head).A3).x5)) (A6u8.mk (((((gd p0 v1_1.toNat).Frame).Head).A4).x0) (((((gd p0 v1_1.toNat).Frame).Head).A4).x1) (((((gd p0 v1_1.toNat).Frame).Head).A4).x2) (((((gd p0 v1_1.toNat).Frame).Head).A4).x3) (((((gd p0 v1_1.toNat).Frame).Head).A4).x4) (((((gd p0 v1_1.toNat).Frame).Head).A4).x5)) ((((gd p0 v1_1.toNat).Frame).Head).Seq) ((((gd p0 v1_1.toNat).Frame).Head).Frag) ((((gd p0 v1_1.toNat).Frame).Head).Tid) ((((gd p0 v1_1.toNat).Frame).Head).Ack) ((((gd p0 v1_1.toNat).Frame).Head).Amsdu) ((((gd p0 v1_1.toNat).Frame).Head).Eosp)) (((gd p0 v1_1.toNat).Frame).Body)) (TFrame.mk (THeader.mk ((((gd p1 v1_1.toNat).Frame).Head).Kind) ((((gd p1 v1_1.toNat).Frame).Head).Sub) ((((gd p1 v1_1.toNat).Frame).Head).ToDs) ((((gd p1 v1_1.toNat).Frame).Head).FromDs) ((((gd p1 v1_1.toNat).Frame).Head).More) ((((gd p1 v1_1.toNat).Frame).Head).Retry) ((((gd p1 v1_1.toNat).Frame).Head).Sleep) ((((gd p1 v1_1.toNat).Frame).Head).MoreData) ((((gd p1 v1_1.toNat).Frame).Head).Protected) ((((gd p1 v1_1.toNat).Frame).Head).Duration) (A6u8.mk (((((gd p1 v1_1.toNat).Frame).Head).A1).x0) (((((gd p1 v1_1.toNat).Frame).Head).A1).x1) (((((gd p1 v1_1.toNat).Frame).Head).A1).x2) (((((gd p1 v1_1.toNat).Frame).Head).A1).x3) (((((gd p1 v1_1.toNat).Frame).Head).A1).x4) (((((gd p1 v1_1.toNat).Frame).Head).A1).x5)) (A6u8.mk (((((gd p1 v1_1.toNat).Frame).Head).A2).x0) (((((gd p1 v1_1.toNat).Frame).Head).A2).x1) (((((gd p1 v1_1.toNat).Frame).Head).A2).x2) (((((gd p1 v1_1.toNat).Frame).Head).A2).x3) (((((gd p1 v1_1.toNat).Frame).Head).A2).x4) (((((gd p1 v1_1.toNat).Frame).Head).A2).x5)) (A6u8.mk (((((gd p1 v1_1.toNat).Frame).Head).A3).x0) (((((gd p1 v1_1.toNat).Frame).Head).A3).x1) (((((gd p1 v1_1.toNat).Frame).Head).A3).x2) (((((gd p1 v1_1.toNat).Frame).Head).A3).x3) (((((gd p1 v1_1.toNat).Frame).Head).A3).x4) (((((gd p1 v1_1.toNat).Frame).Head).A3).x5)) (A6u8.mk (((((gd p1 v1_1.toNat).Frame).Head).A4).x0) (((((gd p1 v1_1.toNat).Frame).Head).A4).x1) (((((gd p1 v1_1.toNat).Frame).Head).A4).x2) (((((gd p1 v1_1.toNat).Frame).Head).A4).x3) (((((gd p1 v1_1.toNat).Frame).Head).A4).x4) (((((gd p1 v1_1.toNat).Frame).Head).A4).x5)) ((((gd p1 v1_1.toNat).Frame).Head).Seq) ((((gd p1 v1_1.toNat).Frame).Head).Frag) ((((gd p1 v1_1.toNat).Frame).Head).Tid) ((((gd p1 v1_1.toNat).Frame).Head).Ack) ((((gd p1 v1_1.toNat).Frame).Head).Amsdu) ((((gd p1 v1_1.toNat).Frame).Head).Eosp)) (((gd p1 v1_1.toNat).Frame).Body))))))=true:=by simpa using hc
    replace H:=cond_t hc H
    refine sq ctNo_ok ?_
    simp only [go_sem]
    refine rg ctNo_ok ?_
    simp only [go_sem]
    have H:=hn2_1 _ (Option.some.inj H).symm
    obtain rfl:=Option.some.inj H
    first|rfl|simp only [Bool.and_false,Bool.false_and,Bool.and_true,Bool.true_and]
   have hk10:(((!bEq ((gd p0 v1_1.toNat).Cat) ((gd p1 v1_1.toNat).Cat)) || (!bEq ((gd p0 v1_1.toNat).At) ((gd p1 v1_1.toNat).At))) || (!(gt (F36 (TFrame.mk (THeader.mk ((((gd p0 v1_1.toNat).Frame).Head).Kind) ((((gd p0 v1_1.toNat).Frame).Head).Sub) ((((gd p0 v1_1.toNat).Frame).Head).ToDs) ((((gd p0 v1_1.toNat).Frame).Head).FromDs) ((((gd p0 v1_1.toNat).Frame).Head).More) ((((gd p0 v1_1.toNat).Frame).Head).Retry) ((((gd p0 v1_1.toNat).Frame).Head).Sleep) ((((gd p0 v1_1.toNat).Frame).Head).MoreData) ((((gd p0 v1_1.toNat).Frame).Head).Protected) ((((gd p0 v1_1.toNat).Frame).Head).Duration) (A6u8.mk (((((gd p0 v1_1.toNat).Frame).Head).A1).x0) (((((gd p0 v1_1.toNat).Frame).Head).A1).x1) (((((gd p0 v1_1.toNat).Frame).Head).A1).x2) (((((gd p0 v1_1.toNat).Frame).Head).A1).x3) (((((gd p0 v1_1.toNat).Frame).Head).A1).x4) (((((gd p0 v1_1.toNat).Frame).Head).A1).x5)) (A6u8.mk (((((gd p0 v1_1.toNat).Frame).Head).A2).x0) (((((gd p0 v1_1.toNat).Frame).Head).A2).x1) (((((gd p0 v1_1.toNat).Frame).Head).A2).x2) (((((gd p0 v1_1.toNat).Frame).Head).A2).x3) (((((gd p0 v1_1.toNat).Frame).Head).A2).x4) (((((gd p0 v1_1.toNat).Frame).Head).A2).x5)) (A6u8.mk (((((gd p0 v1_1.toNat).Frame).Head).A3).x0) (((((gd p0 v1_1.toNat).Frame).Head).A3).x1) (((((gd p0 v1_1.toNat).Frame).Head).A3).x2) (((((gd p0 v1_1.toNat).Frame).Head).A3).x3) (((((gd p0 v1_1.toNat).Frame).Head).A3).x4) (((((gd p0 v1_1.toNat).Frame).Head).A3).x5)) (A6u8.mk (((((gd p0 v1_1.toNat).Frame).Head).A4).x0) (((((gd p0 v1_1.toNat).Frame).Head).A4).x1) (((((gd p0 v1_1.toNat).Frame).Head).A4).x2) (((((gd p0 v1_1.toNat).Frame).Head).A4).x3) (((((gd p0 v1_1.toNat).Frame).Head).A4).x4) (((((gd p0 v1_1.toNat).Frame).Head).A4).x5)) ((((gd p0 v1_1.toNat).Frame).Head).Seq) ((((gd p0 v1_1.toNat).Frame).Head).Frag) ((((gd p0 v1_1.toNat).Frame).Head).Tid) ((((gd p0 v1_1.toNat).Frame).Head).Ack) ((((gd p0 v1_1.toNat).Frame).Head).Amsdu) ((((gd p0 v1_1.toNat).Frame).Head).Eosp)) (((gd p0 v1_1.toNat).Frame).Body)) (TFrame.mk (THeader.mk ((((gd p1 v1_1.toNat).Frame).Head).Kind) ((((gd p1 v1_1.toNat).Frame).Head).Sub) ((((gd p1 v1_1.toNat).Frame).Head).ToDs) ((((gd p1 v1_1.toNat).Frame).Head).FromDs) ((((gd p1 v1_1.toNat).Frame).Head).More) ((((gd p1 v1_1.toNat).Frame).Head).Retry) ((((gd p1 v1_1.toNat).Frame).Head).Sleep) ((((gd p1 v1_1.toNat).Frame).Head).MoreData) ((((gd p1 v1_1.toNat).Frame).Head).Protected) ((((gd p1 v1_1.toNat).Frame).Head).Duration) (A6u8.mk (((((gd p1 v1_1.toNat).Frame).Head).A1).x0) (((((gd p1 v1_1.toNat).Frame).Head).A1).x1) (((((gd p1 v1_1.toNat).Frame).Head).A1).x2) (((((gd p1 v1_1.toNat).Frame).Head).A1).x3) (((((gd p1 v1_1.toNat).Frame).Head).A1).x4) (((((gd p1 v1_1.toNat).Frame).Head).A1).x5)) (A6u8.mk (((((gd p1 v1_1.toNat).Frame).Head).A2).x0) (((((gd p1 v1_1.toNat).Frame).Head).A2).x1) (((((gd p1 v1_1.toNat).Frame).Head).A2).x2) (((((gd p1 v1_1.toNat).Frame).Head).A2).x3) (((((gd p1 v1_1.toNat).Frame).Head).A2).x4) (((((gd p1 v1_1.toNat).Frame).Head).A2).x5)) (A6u8.mk (((((gd p1 v1_1.toNat).Frame).Head).A3).x0) (((((gd p1 v1_1.toNat).Frame).Head).A3).x1) (((((gd p1 v1_1.toNat).Frame).Head).A3).x2) (((((gd p1 v1_1.toNat).Frame).Head).A3).x3) (((((gd p1 v1_1.toNat).Frame).Head).A3).x4) (((((gd p1 v1_1.toNat).Frame).Head).A3).x5)) (A6u8.mk (((((gd p1 v1_1.toNat).Frame).Head).A4).x0) (((((gd p1 v1_1.toNat).Frame).Head).A4).x1) (((((gd p1 v1_1.toNat).Frame).Head).A4).x2) (((((gd p1 v1_1.toNat).Frame).Head).A4).x3) (((((gd p1 v1_1.toNat).Frame).Head).A4).x4) (((((gd p1 v1_1.toNat).Frame).Head).A4).x5)) ((((gd p1 v1_1.toNat).Frame).Head).Seq) ((((gd p1 v1_1.toNat).Frame).Head).Frag) ((((gd p1 v1_1.toNat).Frame).Head).Tid) ((((gd p1 v1_1.toNat).Frame).Head).Ack) ((((gd p1 v1_1.toNat).Frame).Head).Amsdu) ((((gd p1 v1_1.toNat).Frame).Head).Eosp)) (((gd p1 v1_1.toNat).Frame).Body))))))=false:=by simpa using hc
   replace H:=cond_f hc H
   refine rg ctNo_ok ?_
   simp only [go_sem]
   refine rg ctNo_ok ?_
   simp only [go_sem]
   refine ⟨_,(Option.some.inj H).symm,?_⟩
   refine SubF_of ⟨[],?_,?_,by rfl,by rfl⟩
   ·simp [CvL,Cv]
   ·trivial
  ·try dsimp only at H ⊢
   try simp only [tp]
   try simp only [m_normal]
   refine sq ctNo_ok ?_
   simp only [go_sem]
   refine rg ctNo_ok ?_
   simp only [go_sem]
   obtain rfl:=Option.some.inj H
   first|rfl|simp only [Bool.and_false,Bool.false_and,Bool.and_true,Bool.true_and]
 ·cases hb
noncomputable def ct16t0:Ct:=tab [(45,pureC body45)]
theorem ct16t0_ok:CtOk Try.prog ct16t0:=tab_cons ok45 <| tab_nil
theorem ct16t0_45 (l:List AV) (h:List ABlk):ct16t0 45 l h=pureC body45 l h:=rfl
noncomputable def F16_L1 (p0:TBuffer) (p1:TBuffer) (v1_1:Int):Option (Lp (Int) ((Unit) ⊕ (Bool))) :=
 bif (bLt v1_1 (p0.List.length:Nat)) then (need (inb v1_1 p0.List.length) <| need (inb v1_1 p1.List.length) <| need (bif (!(!bEq ((gd p0.List v1_1.toNat).Aid) ((gd p1.List v1_1.toNat).Aid))) then inb v1_1 p0.List.length else true) <| need (bif (!(!bEq ((gd p0.List v1_1.toNat).Aid) ((gd p1.List v1_1.toNat).Aid))) then inb v1_1 p1.List.length else true) <| need (bif (!((!bEq ((gd p0.List v1_1.toNat).Aid) ((gd p1.List v1_1.toNat).Aid)) || (!bB ((gd p0.List v1_1.toNat).Asleep) ((gd p1.List v1_1.toNat).Asleep)))) then inb v1_1 p0.List.length else true) <| need (bif (!((!bEq ((gd p0.List v1_1.toNat).Aid) ((gd p1.List v1_1.toNat).Aid)) || (!bB ((gd p0.List v1_1.toNat).Asleep) ((gd p1.List v1_1.toNat).Asleep)))) then inb v1_1 p1.List.length else true) <| need (bif (!((!bEq ((gd p0.List v1_1.toNat).Aid) ((gd p1.List v1_1.toNat).Aid)) || (!bB ((gd p0.List v1_1.toNat).Asleep) ((gd p1.List v1_1.toNat).Asleep)))) then ((F45 ((gd p0.List v1_1.toNat).Held) ((gd p1.List v1_1.toNat).Held)).isSome) else true) <| bif (((!bEq ((gd p0.List v1_1.toNat).Aid) ((gd p1.List v1_1.toNat).Aid)) || (!bB ((gd p0.List v1_1.toNat).Asleep) ((gd p1.List v1_1.toNat).Asleep))) || (!(gt (F45 ((gd p0.List v1_1.toNat).Held) ((gd p1.List v1_1.toNat).Held))))) then (some (.done (.inr false))) else (some (.next (wr .i64 (v1_1+1))))) else (some (.done (.inl ())))
noncomputable def F16 (p0:TBuffer) (p1:TBuffer):Option (Bool) :=
 need (bif (!(((!bEq p0.Limit p1.Limit) || (!bEq p0.Stay p1.Stay)) || (!bEq (p0.List.length:Nat) (p1.List.length:Nat)))) then ((F45 p0.Group p1.Group).isSome) else true) <| bif ((((!bEq p0.Limit p1.Limit) || (!bEq p0.Stay p1.Stay)) || (!bEq (p0.List.length:Nat) (p1.List.length:Nat))) || (!(gt (F45 p0.Group p1.Group)))) then (some false) else (lp (loopD (fun s=>F16_L1 p0 p1 s) 0) (fun _=>some true) some)
noncomputable def body16:List AV->AR
 | [v0,v1]=>.pure (aK 4 k_TBuffer v0/\aK 4 k_TBuffer v1/\(F16 (g_TBuffer (aL v0)) (g_TBuffer (aL v1))).isSome=true) (.bool (gt (F16 (g_TBuffer (aL v0)) (g_TBuffer (aL v1)))))
 | _=>.fail
theorem ok16:FnOk Try.prog 16 (pureC body16):=by
 refine pure_fnM body16 (rs:=[.tmp 4]) Try.func16 (by kernel_rfl) rfl rfl ?_
 intro l ob v hb hob
 unfold body16 at hb
 split at hb
 ·rename_i v0 v1
  injection hb with q1 q2;subst q1 q2
  obtain ⟨hk0_0,hk1_0,hob⟩:=hob
  obtain ⟨r,H⟩:=Option.isSome_iff_exists.1 hob
  rw [H,gt_some]
  have hw0:=wA_TBuffer hk0_0
  have hw1:=wA_TBuffer hk1_0
  generalize g_TBuffer (aL v0)=p0 at H hw0
  generalize g_TBuffer (aL v1)=p1 at H hw1
  refine ⟨[.agg [.int .i64 p0.Limit,.int .i64 p0.Stay,.ro 3 p0.List.length false (enR c_TSleeper p0.List),.ro 43 p0.Group.length false (enR c_TStored p0.Group)],.agg [.int .i64 p1.Limit,.int .i64 p1.Stay,.ro 3 p1.List.length false (enR c_TSleeper p1.List),.ro 43 p1.Group.length false (enR c_TStored p1.Group)]],_,(fun E vs F=>FR_wk1 hw0.1 F (fun vs F=>FR_wk1 hw1.1 F (fun vs F=>F))),rfl,rfl,?_⟩
  rw [Try.ntmps16]
  simp only [List.length_cons,List.length_nil,Nat.reduceAdd,Nat.reduceSub,List.replicate_succ,List.replicate_zero,List.cons_append,List.nil_append]
  unfold F16 at H
  try dsimp only at H
  refine sq ctNo_ok ?_
  simp only [go_sem]
  refine seqM ?_
  refine seqM ?_
  obtain ⟨f1,H⟩:=need_some.1 H
  replace f1:=g_iff.1 f1
  refine rg ct16t0_ok ?_
  simp only [go_sem,Nat.reduceLeDiff,Nat.reduceLT,Nat.reduceAdd,ct16t0_45,body45]
  repeat ((with_reducible refine And.intro ?_ ?_);focus (first|(with_reducible trivial)|omega|exact f1|(intro g;have q:=f1 (by first|exact g|(rw [g];rfl)|simpa using g);first|exact q|exact ⟨q.1,q.2.1⟩|exact q.2.2|omega|exact ⟨g,q⟩|exact ⟨trivial,q⟩|exact ⟨g,q.1,q.2.1⟩|exact ⟨g,q.2.2⟩)|(intro g;(try have q0:=f1 (by first|exact g|(rw [g];rfl)|simpa using g));and_intros<;>first|(with_reducible trivial)|assumption|exact nfc|(intro g2;rw [g,g2];rfl)|(intro g2;assumption)|(simp only [g,Bool.true_and,Bool.and_true,Bool.not_false,Bool.not_true];assumption)|grind)|(and_intros<;>first|(with_reducible trivial)|omega|assumption|exact nfc|first|exact rfl|exact trivial|exact fitI|exact .inr rfl|exact .inl rfl|exact fun x hx=>absurd hx (by omega))|grind))
  refine condM rfl trivial (fun hc=>?_) (fun hc=>?_)
  ·have hk2:((((!bEq p0.Limit p1.Limit) || (!bEq p0.Stay p1.Stay)) || (!bEq (p0.List.length:Nat) (p1.List.length:Nat))) || (!(gt (F45 p0.Group p1.Group))))=true:=by simpa using hc
   replace H:=cond_t hc H
   refine sq ctNo_ok ?_
   simp only [go_sem]
   refine rg ctNo_ok ?_
   simp only [go_sem]
   obtain rfl:=Option.some.inj H
   first|rfl|simp only [Bool.and_false,Bool.false_and,Bool.and_true,Bool.true_and]
  have hk2:((((!bEq p0.Limit p1.Limit) || (!bEq p0.Stay p1.Stay)) || (!bEq (p0.List.length:Nat) (p1.List.length:Nat))) || (!(gt (F45 p0.Group p1.Group))))=false:=by simpa using hc
  replace H:=cond_f hc H
  refine rg ctNo_ok ?_
  simp only [go_sem]
  refine seqM ?_
  refine sq ctNo_ok ?_
  simp only [go_sem]
  refine blkM ?_
  refine loop_den (fun s:Int=>(.top::.top::.ptr 0 0 0 0::.ptr 1 0 0 0::.top::.int .i64 s::tp 80 [])) (fun s=>[.lit 25 [.int .i64 p0.Limit,.int .i64 p0.Stay,.ro 3 p0.List.length false (enR c_TSleeper p0.List),.ro 43 p0.Group.length false (enR c_TStored p0.Group)],.lit 25 [.int .i64 p1.Limit,.int .i64 p1.Stay,.ro 3 p1.List.length false (enR c_TSleeper p1.List),.ro 43 p1.Group.length false (enR c_TStored p1.Group)]]) (fun e:Unit=>(tp 86 [])) (fun e=>[.dead,.dead]) H ?_ (fun v1_1 o H hn1_1 hn2_1=>?_) (fun e H=>?_)
  ·refine SubF_of ⟨[some 0,some 1],?_,?_,by rfl,by rfl⟩
   ·simp [CvL,Cv,getM,tp]
   ·exact ⟨cv,cv,trivial⟩
  ·unfold F16_L1 at H
   try dsimp only at H ⊢
   try simp only [tp]
   refine seqM ?_
   refine sq ctNo_ok ?_
   simp only [go_sem,Nat.reduceLeDiff,Nat.reduceLT,Nat.reduceAdd]
   repeat ((with_reducible refine And.intro ?_ ?_);focus exact an0)
   refine condM' rfl trivial (fun hc=>?_) (fun hc=>?_)
   ·have hk3:(bLt v1_1 (p0.List.length:Nat))=false:=by simpa using hc
    replace H:=cond_f hc H
    refine rg ctNo_ok ?_
    simp only [go_sem]
    refine ⟨_,(Option.some.inj H).symm,?_⟩
    refine SubF_of ⟨[some 0,some 1],?_,?_,by rfl,by rfl⟩
    ·simp [CvL,Cv]
    ·exact ⟨CvB_dead,CvB_dead,trivial⟩
   have hk3:(bLt v1_1 (p0.List.length:Nat))=true:=by simpa using hc
   replace H:=cond_t hc H
   refine rg ctNo_ok ?_
   simp only [go_sem]
   refine seqM ?_
   refine blkM ?_
   refine seqM ?_
   obtain ⟨f4,H⟩:=need_some.1 H
   replace f4:=inb_iff.1 f4
   obtain ⟨f5,H⟩:=need_some.1 H
   replace f5:=inb_iff.1 f5
   obtain ⟨f6,H⟩:=need_some.1 H
   replace f6:=g_iff.1 f6
   replace f6:=fun g=>inb_iff.1 (f6 g)
   obtain ⟨f7,H⟩:=need_some.1 H
   replace f7:=g_iff.1 f7
   replace f7:=fun g=>inb_iff.1 (f7 g)
   obtain ⟨f8,H⟩:=need_some.1 H
   replace f8:=g_iff.1 f8
   replace f8:=fun g=>inb_iff.1 (f8 g)
   obtain ⟨f9,H⟩:=need_some.1 H
   replace f9:=g_iff.1 f9
   replace f9:=fun g=>inb_iff.1 (f9 g)
   obtain ⟨f10,H⟩:=need_some.1 H
   replace f10:=g_iff.1 f10
   refine draw_quiet shT_ok ct16t0_ok (by kernel_rfl) (by kernel_rfl) ?_
   simp only [go_sem,Nat.reduceLeDiff,Nat.reduceLT,Nat.reduceAdd,ct16t0_45,body45,f4,f5]
   repeat ((with_reducible refine And.intro ?_ ?_);focus (first|(with_reducible trivial)|omega|exact f6|exact f7|exact f8|exact f9|exact f10|(intro g;have q:=f6 (by first|exact g|(rw [g];rfl)|simpa using g);first|exact q|exact ⟨q.1,q.2.1⟩|exact q.2.2|omega|exact ⟨g,q⟩|exact ⟨trivial,q⟩|exact ⟨g,q.1,q.2.1⟩|exact ⟨g,q.2.2⟩)|(intro g;have q:=f7 (by first|exact g|(rw [g];rfl)|simpa using g);first|exact q|exact ⟨q.1,q.2.1⟩|exact q.2.2|omega|exact ⟨g,q⟩|exact ⟨trivial,q⟩|exact ⟨g,q.1,q.2.1⟩|exact ⟨g,q.2.2⟩)|(intro g;have q:=f8 (by first|exact g|(rw [g];rfl)|simpa using g);first|exact q|exact ⟨q.1,q.2.1⟩|exact q.2.2|omega|exact ⟨g,q⟩|exact ⟨trivial,q⟩|exact ⟨g,q.1,q.2.1⟩|exact ⟨g,q.2.2⟩)|(intro g;have q:=f9 (by first|exact g|(rw [g];rfl)|simpa using g);first|exact q|exact ⟨q.1,q.2.1⟩|exact q.2.2|omega|exact ⟨g,q⟩|exact ⟨trivial,q⟩|exact ⟨g,q.1,q.2.1⟩|exact ⟨g,q.2.2⟩)|(intro g;have q:=f10 (by first|exact g|(rw [g];rfl)|simpa using g);first|exact q|exact ⟨q.1,q.2.1⟩|exact q.2.2|omega|exact ⟨g,q⟩|exact ⟨trivial,q⟩|exact ⟨g,q.1,q.2.1⟩|exact ⟨g,q.2.2⟩)|(intro g;(try have q0:=f6 (by first|exact g|(rw [g];rfl)|simpa using g));(try have q1:=f7 (by first|exact g|(rw [g];rfl)|simpa using g));(try have q2:=f8 (by first|exact g|(rw [g];rfl)|simpa using g));(try have q3:=f9 (by first|exact g|(rw [g];rfl)|simpa using g));(try have q4:=f10 (by first|exact g|(rw [g];rfl)|simpa using g));and_intros<;>first|(with_reducible trivial)|assumption|exact nfc|(intro g2;rw [g,g2];rfl)|(intro g2;assumption)|(simp only [g,Bool.true_and,Bool.and_true,Bool.not_false,Bool.not_true];assumption)|grind)|(and_intros<;>first|(with_reducible trivial)|omega|assumption|exact nfc|first|exact rfl|exact trivial|exact fitI|exact .inr rfl|exact .inl rfl|exact fun x hx=>absurd hx (by omega))|grind))
   refine condM rfl trivial (fun hc=>?_) (fun hc=>?_)
   ·have hk11:(((!bEq ((gd p0.List v1_1.toNat).Aid) ((gd p1.List v1_1.toNat).Aid)) || (!bB ((gd p0.List v1_1.toNat).Asleep) ((gd p1.List v1_1.toNat).Asleep))) || (!(gt (F45 ((gd p0.List v1_1.toNat).Held) ((gd p1.List v1_1.toNat).Held)))))=true:=by simpa using hc
    replace H:=cond_t hc H
    refine sq ctNo_ok ?_
    simp only [go_sem]
    refine rg ctNo_ok ?_
    simp only [go_sem]
    have H:=hn2_1 _ (Option.some.inj H).symm
    obtain rfl:=Option.some.inj H
    first|rfl|simp only [Bool.and_false,Bool.false_and,Bool.and_true,Bool.true_and]
   have hk11:(((!bEq ((gd p0.List v1_1.toNat).Aid) ((gd p1.List v1_1.toNat).Aid)) || (!bB ((gd p0.List v1_1.toNat).Asleep) ((gd p1.List v1_1.toNat).Asleep))) || (!(gt (F45 ((gd p0.List v1_1.toNat).Held) ((gd p1.List v1_1.toNat).Held)))))=false:=by simpa using hc
   replace H:=cond_f hc H
   refine rg ctNo_ok ?_
   simp only [go_sem]
   refine rg ctNo_ok ?_
   simp only [go_sem]
   refine ⟨_,(Option.some.inj H).symm,?_⟩
   refine SubF_of ⟨[some 0,some 1],?_,?_,by rfl,by rfl⟩
   ·simp [CvL,Cv,getM]
   ·exact ⟨cv,cv,trivial⟩
  ·try dsimp only at H ⊢
   try simp only [tp]
   try simp only [m_normal]
   refine sq ctNo_ok ?_
   simp only [go_sem]
   refine rg ctNo_ok ?_
   simp only [go_sem]
   obtain rfl:=Option.some.inj H
   first|rfl|simp only [Bool.and_false,Bool.false_and,Bool.and_true,Bool.true_and]
 ·cases hb
noncomputable def ct5t0:Ct:=tab [(20,pureC body20)]
theorem ct5t0_ok:CtOk Try.prog ct5t0:=tab_cons ok20 <| tab_nil
theorem ct5t0_20 (l:List AV) (h:List ABlk):ct5t0 20 l h=pureC body20 l h:=rfl
noncomputable def ct5t1:Ct:=tab [(11,pureC body11)]
theorem ct5t1_ok:CtOk Try.prog ct5t1:=tab_cons ok11 <| tab_nil
theorem ct5t1_11 (l:List AV) (h:List ABlk):ct5t1 11 l h=pureC body11 l h:=rfl
noncomputable def ct5t2:Ct:=tab [(25,genC body25)]
theorem ct5t2_ok:CtOk Try.prog ct5t2:=tab_cons ok25 <| tab_nil
theorem ct5t2_25 (l:List AV) (h:List ABlk):ct5t2 25 l h=genC body25 l h:=rfl
noncomputable def ct5t3:Ct:=tab [(16,pureC body16)]
theorem ct5t3_ok:CtOk Try.prog ct5t3:=tab_cons ok16 <| tab_nil
theorem ct5t3_16 (l:List AV) (h:List ABlk):ct5t3 16 l h=pureC body16 l h:=rfl
noncomputable def F5_L1 (p0:TBuffer) (r6:(List TFrame) × TBuffer × Int) (v1_1:List TStored) (v1_2:List TStored) (v1_3:Int):Option (Lp ((List TStored) × (List TStored) × Int) (((List TStored) × (List TStored)) ⊕ (Bool))) :=
 bif (bLt v1_3 (p0.List.length:Nat)) then (need (capb 120 v1_1.length) <| need (inb v1_3 p0.List.length) <| need (capb 120 (v1_1.length+((gd p0.List v1_3.toNat).Held).length)) <| (some (([] ++ v1_1) ++ (gd p0.List v1_3.toNat).Held)).bind fun w14=>need (capb 120 v1_2.length) <| need (inb v1_3 r6.2.1.List.length) <| need (capb 120 (v1_2.length+((gd r6.2.1.List v1_3.toNat).Held).length)) <| (some (([] ++ v1_2) ++ (gd r6.2.1.List v1_3.toNat).Held)).bind fun w19=>some (.next (w14,w19,wr .i64 (v1_3+1)))) else (some (.done (.inl (v1_1,v1_2))))
noncomputable def F5_L2 (p0:TBuffer) (p1:Int) (w1_4:List TStored) (v2_1:Int) (v2_2:Int):Option (Lp (Int × Int) ((Int) ⊕ (Bool))) :=
 bif (bLt v2_2 (w1_4.length:Nat)) then (need (inb v2_2 w1_4.length) <| bif (bLt (wr .i64 (p1 - ((gd w1_4 v2_2.toNat).At))) p0.Stay) then (some (.next (wr .i64 (v2_1+1),wr .i64 (v2_2+1)))) else (some (.next (v2_1,wr .i64 (v2_2+1))))) else (some (.done (.inl v2_1)))
noncomputable def F5_L3 (p1:Int) (r6:(List TFrame) × TBuffer × Int) (w1_5:List TStored) (v3_1:Int):Option (Lp (Int) ((Unit) ⊕ (Bool))) :=
 bif (bLt v3_1 (w1_5.length:Nat)) then (need (inb v3_1 w1_5.length) <| bif (bLe r6.2.1.Stay (wr .i64 (p1 - ((gd w1_5 v3_1.toNat).At)))) then (some (.done (.inr false))) else (some (.next (wr .i64 (v3_1+1))))) else (some (.done (.inl ())))
noncomputable def F5 (p0:TBuffer) (p1:Int):Option (Bool) :=
 (F20).bind fun r1=>(F11 p0 (TFrame.mk (THeader.mk 0 0 false false false false false false false 0 (A6u8.mk 0 0 0 0 0 0) (A6u8.mk 0 0 0 0 0 0) (A6u8.mk 0 0 0 0 0 0) (A6u8.mk 0 0 0 0 0 0) 0 0 0 0 false false) [])).bind fun r3=>bif (r3 || (!r1)) then (some r1) else ((F25 p0 p1).bind fun r6=>bif (!bEq r6.2.2 0) then (some (r1 && (bEq (r6.1.length:Nat) 0))) else (bif (!bEq (r6.2.1.List.length:Nat) (p0.List.length:Nat)) then (some false) else (lp (loopD (fun s=>F5_L1 p0 r6 s.1 s.2.1 s.2.2) (p0.Group,r6.2.1.Group,0)) (fun e1=>lp (loopD (fun s=>F5_L2 p0 p1 e1.1 s.1 s.2) (0,0)) (fun w2_3=>lp (loopD (fun s=>F5_L3 p1 r6 e1.2 s) 0) (fun _=>(F25 r6.2.1 p1).bind fun r27=>need (bif ((((r1 && (bEq (e1.2.length:Nat) w2_3)) && (bEq (r6.1.length:Nat) (wr .i64 ((e1.1.length:Nat) - w2_3)))) && (bEq r27.2.2 0)) && (bEq (r27.1.length:Nat) 0)) then ((F16 r27.2.1 r6.2.1).isSome) else true) <| some (((((r1 && (bEq (e1.2.length:Nat) w2_3)) && (bEq (r6.1.length:Nat) (wr .i64 ((e1.1.length:Nat) - w2_3)))) && (bEq r27.2.2 0)) && (bEq (r27.1.length:Nat) 0)) && (gt (F16 r27.2.1 r6.2.1)))) some) some) some)))
noncomputable def body5:List AV->AR
 | [v0,v1]=>.pure (aK 4 k_TBuffer v0/\iK .i64 v1/\(F5 (g_TBuffer (aL v0)) (iA v1)).isSome=true) (.bool (gt (F5 (g_TBuffer (aL v0)) (iA v1))))
 | _=>.fail
theorem ok5:FnOk Try.prog 5 (pureC body5):=by
 refine pure_fnM body5 (rs:=[.tmp 4]) Try.func5 (by kernel_rfl) rfl rfl ?_
 intro l ob v hb hob
 unfold body5 at hb
 split at hb
 ·rename_i v0 v1
  injection hb with q1 q2;subst q1 q2
  obtain ⟨hk0_0,hk1_0,hob⟩:=hob
  obtain ⟨r,H⟩:=Option.isSome_iff_exists.1 hob
  rw [H,gt_some]
  have hw0:=wA_TBuffer hk0_0
  have hw1:=iK_wk hk1_0
  generalize g_TBuffer (aL v0)=p0 at H hw0
  generalize iA v1=p1 at H hw1
  refine ⟨[.agg [.int .i64 p0.Limit,.int .i64 p0.Stay,.ro 3 p0.List.length false (enR c_TSleeper p0.List),.ro 43 p0.Group.length false (enR c_TStored p0.Group)],.int .i64 p1],_,(fun E vs F=>FR_wk1 hw0.1 F (fun vs F=>FR_wk1 hw1.1 F (fun vs F=>F))),rfl,rfl,?_⟩
  rw [Try.ntmps5]
  simp only [List.length_cons,List.length_nil,Nat.reduceAdd,Nat.reduceSub,List.replicate_succ,List.replicate_zero,List.cons_append,List.nil_append]
  unfold F5 at H
  try dsimp only at H
  refine sq ctNo_ok ?_
  simp only [go_sem]
  refine seqM ?_
  obtain ⟨r1,e2,H⟩:=bsi H
  refine rg ct5t0_ok ?_
  simp only [go_sem,ct5t0_20,body20,e2]
  repeat ((with_reducible refine And.intro ?_ ?_);focus exact an0)
  refine seqM ?_
  refine seqM ?_
  obtain ⟨r3,e4,H⟩:=bsi H
  refine rg ct5t1_ok ?_
  simp only [go_sem,Nat.reduceLT,Nat.reduceAdd,reduceCtorEq,ct5t1_11,body11,e4]
  repeat ((with_reducible refine And.intro ?_ ?_);focus exact an6)
  refine condM rfl trivial (fun hc=>?_) (fun hc=>?_)
  ·have hk5:(r3 || (!r1))=true:=by simpa using hc
   replace H:=cond_t hc H
   refine sq ctNo_ok ?_
   simp only [go_sem]
   refine rg ctNo_ok ?_
   simp only [go_sem]
   obtain rfl:=Option.some.inj H
   first|rfl|simp only [Bool.and_false,Bool.false_and,Bool.and_true,Bool.true_and]
  have hk5:(r3 || (!r1))=false:=by simpa using hc
  replace H:=cond_f hc H
  refine rg ctNo_ok ?_
  simp only [go_sem]
  refine seqM ?_
  obtain ⟨r6,e7,H⟩:=bsi H
  refine rg ct5t2_ok ?_
  simp only [go_sem,Nat.reduceLT,Nat.reduceAdd,ct5t2_25,body25,e7]
  repeat ((with_reducible refine And.intro ?_ ?_);focus exact an0)
  refine seqM ?_
  refine sq ctNo_ok ?_
  simp only [go_sem]
  refine condM rfl trivial (fun hc=>?_) (fun hc=>?_)
  ·have hk8:(bEq r6.2.2 0)=false:=by simpa using hc
   replace H:=cond_t hc H
   refine sq ctNo_ok ?_
   simp only [go_sem]
   repeat ((with_reducible refine And.intro ?_ ?_);focus exact an6)
   refine rg ctNo_ok ?_
   simp only [go_sem]
   obtain rfl:=Option.some.inj H
   first|rfl|simp only [Bool.and_false,Bool.false_and,Bool.and_true,Bool.true_and]
  have hk8:(bEq r6.2.2 0)=true:=by simpa using hc
  replace H:=cond_f hc H
  refine rg ctNo_ok ?_
  simp only [go_sem]
  refine seqM ?_
  refine sq ctNo_ok ?_
  simp only [go_sem,Nat.reduceLeDiff,Nat.reduceLT,Nat.reduceAdd]
  repeat ((with_reducible refine And.intro ?_ ?_);focus exact an0)
  refine condM rfl trivial (fun hc=>?_) (fun hc=>?_)
  ·have hk9:(bEq (r6.2.1.List.length:Nat) (p0.List.length:Nat))=false:=by simpa using hc
   replace H:=cond_t hc H
   refine sq ctNo_ok ?_
   simp only [go_sem]
   refine rg ctNo_ok ?_
   simp only [go_sem]
   obtain rfl:=Option.some.inj H
   first|rfl|simp only [Bool.and_false,Bool.false_and,Bool.and_true,Bool.true_and]
  have hk9:(bEq (r6.2.1.List.length:Nat) (p0.List.length:Nat))=true:=by simpa using hc
  replace H:=cond_f hc H
  refine rg ctNo_ok ?_
  simp only [go_sem]
  refine seqM ?_
  refine draw_quiet shT_ok ctNo_ok (by kernel_rfl) (by kernel_rfl) ?_
  simp only [go_sem,Nat.reduceLT,Nat.reduceAdd]
  repeat ((with_reducible refine And.intro ?_ ?_);focus exact an4)
  refine seqM ?_
  refine sq ctNo_ok ?_
  simp only [go_sem]
  refine blkM ?_
  refine loop_den (fun s:(List TStored) × (List TStored) × Int=>(.top::.int .i64 p1::.ptr 0 0 0 0::.top::.top::.bool r1::.ro 41 r6.1.length false (enR c_TFrame r6.1)::.ptr 1 0 0 0::.top::.ro 43 s.1.length false (enR c_TStored s.1)::.ro 43 s.2.1.length false (enR c_TStored s.2.1)::.int .i64 s.2.2::tp 139 [])) (fun s=>[.lit 25 [.int .i64 p0.Limit,.int .i64 p0.Stay,.ro 3 p0.List.length false (enR c_TSleeper p0.List),.ro 43 p0.Group.length false (enR c_TStored p0.Group)],.lit 25 [.int .i64 r6.2.1.Limit,.int .i64 r6.2.1.Stay,.ro 3 r6.2.1.List.length false (enR c_TSleeper r6.2.1.List),.ro 43 r6.2.1.Group.length false (enR c_TStored r6.2.1.Group)]]) (fun e:(List TStored) × (List TStored)=>(.top::.int .i64 p1::.ptr 0 0 0 0::.top::.top::.bool r1::.ro 41 r6.1.length false (enR c_TFrame r6.1)::.ptr 1 0 0 0::.top::.ro 43 e.1.length false (enR c_TStored e.1)::.ro 43 e.2.length false (enR c_TStored e.2)::tp 140 [])) (fun e=>[.lit 25 [.int .i64 p0.Limit,.int .i64 p0.Stay,.ro 3 p0.List.length false (enR c_TSleeper p0.List),.ro 43 p0.Group.length false (enR c_TStored p0.Group)],.lit 25 [.int .i64 r6.2.1.Limit,.int .i64 r6.2.1.Stay,.ro 3 r6.2.1.List.length false (enR c_TSleeper r6.2.1.List),.ro 43 r6.2.1.Group.length false (enR c_TStored r6.2.1.Group)]]) H ?_ (fun s o H hn1_1 hn2_1=>?_) (fun e H=>?_)
  ·refine SubF_of ⟨[some 0,some 1],?_,?_,by rfl,by rfl⟩
   ·simp [CvL,Cv,getM,tp]
   ·exact ⟨cv,cv,trivial⟩
  ·obtain ⟨v1_1,v1_2,v1_3⟩:=s
   unfold F5_L1 at H
   try dsimp only at H ⊢
   try simp only [tp]
   refine seqM ?_
   refine sq ctNo_ok ?_
   simp only [go_sem,Nat.reduceLeDiff,Nat.reduceLT,Nat.reduceAdd]
   repeat ((with_reducible refine And.intro ?_ ?_);focus exact an0)
   refine condM' rfl trivial (fun hc=>?_) (fun hc=>?_)
   ·have hk10:(bLt v1_3 (p0.List.length:Nat))=false:=by simpa using hc
    replace H:=cond_f hc H
    refine rg ctNo_ok ?_
    simp only [go_sem]
    refine ⟨_,(Option.some.inj H).symm,?_⟩
    refine SubF_of ⟨[some 0,some 1],?_,?_,by rfl,by rfl⟩
    ·simp [CvL,Cv,getM]
    ·exact ⟨cv,cv,trivial⟩
   have hk10:(bLt v1_3 (p0.List.length:Nat))=true:=by simpa using hc
   replace H:=cond_t hc H
   refine rg ctNo_ok ?_
   simp only [go_sem]
   refine seqM ?_
   refine blkM ?_
   refine seqM ?_
   obtain ⟨f11,H⟩:=need_some.1 H
   replace f11:=capb_iff.1 f11
   obtain ⟨f12,H⟩:=need_some.1 H
   replace f12:=inb_iff.1 f12
   obtain ⟨f13,H⟩:=need_some.1 H
   replace f13:=capb_iff.1 f13
   refine draw_rule shT_ok ctNo_ok 3 (by kernel_rfl) (by kernel_rfl) ?_
   intro an han
   simp only [d_nil,d_cons,nxtD,xrD,xoD,roEq,minL,List.append_nil,refsOp,refs,refsL,mask,maskF,place,placeF,okLog,pairOk,hit,inL,slotsF,ren,rnN,nrH,nrB,List.replicate_zero,List.replicate_succ,Nat.sub_self,Nat.add_zero,Nat.zero_add,Nat.reduceSub,Nat.not_lt_zero,Nat.zero_le,Nat.lt_add_one,go_sem,Nat.reduceLeDiff,Nat.reduceLT,Nat.reduceAdd,Nat.reduceSub,Nat.reduceBEq,f11,f12,f13]
   repeat ((with_reducible refine And.intro ?_ ?_);focus exact an2)
   obtain ⟨w14,hw15,H⟩:=bsi H
   replace hw15:=Option.some.inj hw15
   have lhw15:w14.length=v1_1.length+((gd p0.List v1_3.toNat).Held).length:=by rw [← hw15];exact cl
   refine subF_mean (t2:=(.top::.int .i64 p1::.ptr 0 0 0 0::.top::.top::.bool r1::.ro 41 r6.1.length false (enR c_TFrame r6.1)::.ptr 1 0 0 0::.top::.sl 4 43 0 w14.length false::.ro 43 v1_2.length false (enR c_TStored v1_2)::.int .i64 v1_3::tp 139 [])) (h2:=[.lit 25 [.int .i64 p0.Limit,.int .i64 p0.Stay,.ro 3 p0.List.length false (enR c_TSleeper p0.List),.ro 43 p0.Group.length false (enR c_TStored p0.Group)],.lit 25 [.int .i64 r6.2.1.Limit,.int .i64 r6.2.1.Stay,.ro 3 r6.2.1.List.length false (enR c_TSleeper r6.2.1.List),.ro 43 r6.2.1.Group.length false (enR c_TStored r6.2.1.Group)],.dead,.dead,.row 61 43 w14.length (enR c_TStored w14)]) ?_ ?_
   ·refine SubF_of ⟨[some 0,some 1,some 2,some 3,some 4],?_,?_,by rfl,by rfl⟩
    ·simp [CvL,Cv,getM,tp,lhw15]
    ·exact ⟨(by simp [CvB,CvL,Cv,blkAt,geth]),(by simp [CvB,CvL,Cv,blkAt,geth]),CvB_dead,CvB_dead,CvB_row nr_TStored lhw15 (hw15 ▸ (app_row2 (show ([] ++ v1_1).length=v1_1.length from by simp) (f:=c_TStored) ([] ++ v1_1) ((gd p0.List v1_3.toNat).Held) (app_row (f:=c_TStored) [] v1_1 (lit_row (f:=c_TStored) [] (fun _ _=>rfl) rfl) (fun _ _ _ _=>rfl)) (fun _ _ _ _=>rfl))),trivial⟩
   simp only [tp]
   refine fz_mean [4] ?_ ?_
   ·simp only [go_sem,Nat.reduceBEq]
    try exact at0
   simp only [go_sem,Nat.reduceBEq,Nat.reduceAdd]
   obtain ⟨f16,H⟩:=need_some.1 H
   replace f16:=capb_iff.1 f16
   obtain ⟨f17,H⟩:=need_some.1 H
   replace f17:=inb_iff.1 f17
   obtain ⟨f18,H⟩:=need_some.1 H
   replace f18:=capb_iff.1 f18
   refine draw_rule shT_ok ctNo_ok 3 (by kernel_rfl) (by kernel_rfl) ?_
   intro an han
   simp only [d_nil,d_cons,nxtD,xrD,xoD,roEq,minL,List.append_nil,refsOp,refs,refsL,mask,maskF,place,placeF,okLog,pairOk,hit,inL,slotsF,ren,rnN,nrH,nrB,List.replicate_zero,List.replicate_succ,Nat.sub_self,Nat.add_zero,Nat.zero_add,Nat.reduceSub,Nat.not_lt_zero,Nat.zero_le,Nat.lt_add_one,go_sem,Nat.reduceLeDiff,Nat.reduceLT,Nat.reduceAdd,Nat.reduceSub,Nat.reduceBEq,f16,f17,f18]
   repeat ((with_reducible refine And.intro ?_ ?_);focus exact an2)
   obtain ⟨w19,hw20,H⟩:=bsi H
   replace hw20:=Option.some.inj hw20
   have lhw20:w19.length=v1_2.length+((gd r6.2.1.List v1_3.toNat).Held).length:=by rw [← hw20];exact cl
   refine subF_mean (t2:=(.top::.int .i64 p1::.ptr 0 0 0 0::.top::.top::.bool r1::.ro 41 r6.1.length false (enR c_TFrame r6.1)::.ptr 1 0 0 0::.top::.ro 43 w14.length false (enR c_TStored w14)::.sl 7 43 0 w19.length false::.int .i64 v1_3::tp 139 [])) (h2:=[.lit 25 [.int .i64 p0.Limit,.int .i64 p0.Stay,.ro 3 p0.List.length false (enR c_TSleeper p0.List),.ro 43 p0.Group.length false (enR c_TStored p0.Group)],.lit 25 [.int .i64 r6.2.1.Limit,.int .i64 r6.2.1.Stay,.ro 3 r6.2.1.List.length false (enR c_TSleeper r6.2.1.List),.ro 43 r6.2.1.Group.length false (enR c_TStored r6.2.1.Group)],.dead,.dead,.dead,.dead,.dead,.row 61 43 w19.length (enR c_TStored w19)]) ?_ ?_
   ·refine SubF_of ⟨[some 0,some 1,some 2,some 3,some 4,some 5,some 6,some 7],?_,?_,by rfl,by rfl⟩
    ·simp [CvL,Cv,getM,tp,lhw20]
    ·exact ⟨(by simp [CvB,CvL,Cv,blkAt,geth]),(by simp [CvB,CvL,Cv,blkAt,geth]),CvB_dead,CvB_dead,CvB_dead,CvB_dead,CvB_dead,CvB_row nr_TStored lhw20 (hw20 ▸ (app_row2 (show ([] ++ v1_2).length=v1_2.length from by simp) (f:=c_TStored) ([] ++ v1_2) ((gd r6.2.1.List v1_3.toNat).Held) (app_row (f:=c_TStored) [] v1_2 (lit_row (f:=c_TStored) [] (fun _ _=>rfl) rfl) (fun _ _ _ _=>rfl)) (fun _ _ _ _=>rfl))),trivial⟩
   simp only [tp]
   refine fz_mean [7] ?_ ?_
   ·simp only [go_sem,Nat.reduceBEq]
    try exact at0
   simp only [go_sem,Nat.reduceBEq,Nat.reduceAdd]
   refine rg ctNo_ok ?_
   simp only [go_sem]
   refine ⟨_,(Option.some.inj H).symm,?_⟩
   refine SubF_of ⟨[some 0,some 1],?_,?_,by rfl,by rfl⟩
   ·simp [CvL,Cv,getM]
   ·exact ⟨cv,cv,trivial⟩
  ·obtain ⟨w1_4,w1_5⟩:=e
   try dsimp only at H ⊢
   try simp only [tp]
   try simp only [m_normal]
   refine sq ctNo_ok ?_
   simp only [go_sem]
   refine seqM ?_
   refine sq ctNo_ok ?_
   simp only [go_sem]
   refine blkM ?_
   refine loop_den (fun s:Int × Int=>(.top::.int .i64 p1::.ptr 0 0 0 0::.top::.top::.bool r1::.ro 41 r6.1.length false (enR c_TFrame r6.1)::.ptr 1 0 0 0::.top::.ro 43 w1_4.length false (enR c_TStored w1_4)::.ro 43 w1_5.length false (enR c_TStored w1_5)::.top::.int .i64 s.1::.int .i64 s.2::tp 137 [])) (fun s=>[.lit 25 [.int .i64 p0.Limit,.int .i64 p0.Stay,.ro 3 p0.List.length false (enR c_TSleeper p0.List),.ro 43 p0.Group.length false (enR c_TStored p0.Group)],.lit 25 [.int .i64 r6.2.1.Limit,.int .i64 r6.2.1.Stay,.ro 3 r6.2.1.List.length false (enR c_TSleeper r6.2.1.List),.ro 43 r6.2.1.Group.length false (enR c_TStored r6.2.1.Group)]]) (fun e:Int=>(.top::.int .i64 p1::.top::.top::.top::.bool r1::.ro 41 r6.1.length false (enR c_TFrame r6.1)::.ptr 1 0 0 0::.top::.ro 43 w1_4.length false (enR c_TStored w1_4)::.ro 43 w1_5.length false (enR c_TStored w1_5)::.top::.int .i64 e::tp 138 [])) (fun e=>[.dead,.lit 25 [.int .i64 r6.2.1.Limit,.int .i64 r6.2.1.Stay,.ro 3 r6.2.1.List.length false (enR c_TSleeper r6.2.1.List),.ro 43 r6.2.1.Group.length false (enR c_TStored r6.2.1.Group)]]) H ?_ (fun s o H hn1_2 hn2_2=>?_) (fun w2_3 H=>?_)
   ·refine SubF_of ⟨[some 0,some 1],?_,?_,by rfl,by rfl⟩
    ·simp [CvL,Cv,getM,tp]
    ·exact ⟨cv,cv,trivial⟩
   ·obtain ⟨v2_1,v2_2⟩:=s
    unfold F5_L2 at H
    try dsimp only at H ⊢
    try simp only [tp]
    refine seqM ?_
    refine sq ctNo_ok ?_
    simp only [go_sem,Nat.reduceAdd]
    repeat ((with_reducible refine And.intro ?_ ?_);focus exact an0)
    refine condM' rfl trivial (fun hc=>?_) (fun hc=>?_)
    ·have hk21:(bLt v2_2 (w1_4.length:Nat))=false:=by simpa using hc
     replace H:=cond_f hc H
     refine rg ctNo_ok ?_
     simp only [go_sem]
     refine ⟨_,(Option.some.inj H).symm,?_⟩
     refine SubF_of ⟨[some 0,some 1],?_,?_,by rfl,by rfl⟩
     ·simp [CvL,Cv,getM]
     ·exact ⟨CvB_dead,cv,trivial⟩
    have hk21:(bLt v2_2 (w1_4.length:Nat))=true:=by simpa using hc
    replace H:=cond_t hc H
    refine rg ctNo_ok ?_
    simp only [go_sem]
    refine seqM ?_
    refine blkM ?_
    refine seqM ?_
    obtain ⟨f22,H⟩:=need_some.1 H
    replace f22:=inb_iff.1 f22
    refine draw_quiet shT_ok ctNo_ok (by kernel_rfl) (by kernel_rfl) ?_
    simp only [go_sem,Nat.reduceLeDiff,Nat.reduceLT,Nat.reduceAdd,f22]
    repeat ((with_reducible refine And.intro ?_ ?_);focus exact an4)
    refine condM rfl trivial (fun hc=>?_) (fun hc=>?_)
    ·have hk23:(bLt (wr .i64 (p1 - ((gd w1_4 v2_2.toNat).At))) p0.Stay)=true:=by simpa using hc
     replace H:=cond_t hc H
     refine rg ctNo_ok ?_
     simp only [go_sem]
     refine rg ctNo_ok ?_
     simp only [go_sem]
     refine ⟨_,(Option.some.inj H).symm,?_⟩
     refine SubF_of ⟨[some 0,some 1],?_,?_,by rfl,by rfl⟩
     ·simp [CvL,Cv,getM]
     ·exact ⟨cv,cv,trivial⟩
    have hk23:(bLt (wr .i64 (p1 - ((gd w1_4 v2_2.toNat).At))) p0.Stay)=false:=by simpa using hc
    replace H:=cond_f hc H
    refine rg ctNo_ok ?_
    simp only [go_sem]
    refine rg ctNo_ok ?_
    simp only [go_sem]
    refine ⟨_,(Option.some.inj H).symm,?_⟩
    refine SubF_of ⟨[some 0,some 1],?_,?_,by rfl,by rfl⟩
    ·simp [CvL,Cv,getM]
    ·exact ⟨cv,cv,trivial⟩
   ·try dsimp only at H ⊢
    try simp only [tp]
    try simp only [m_normal]
    refine seqM ?_
    refine sq ctNo_ok ?_
    simp only [go_sem]
    refine blkM ?_
    refine loop_den (fun s:Int=>(.top::.int .i64 p1::.top::.top::.top::.bool r1::.ro 41 r6.1.length false (enR c_TFrame r6.1)::.ptr 1 0 0 0::.top::.ro 43 w1_4.length false (enR c_TStored w1_4)::.ro 43 w1_5.length false (enR c_TStored w1_5)::.top::.int .i64 w2_3::.top::.int .i64 s::tp 136 [])) (fun s=>[.dead,.lit 25 [.int .i64 r6.2.1.Limit,.int .i64 r6.2.1.Stay,.ro 3 r6.2.1.List.length false (enR c_TSleeper r6.2.1.List),.ro 43 r6.2.1.Group.length false (enR c_TStored r6.2.1.Group)]]) (fun e:Unit=>(.top::.int .i64 p1::.top::.top::.top::.bool r1::.ro 41 r6.1.length false (enR c_TFrame r6.1)::.ptr 1 0 0 0::.top::.ro 43 w1_4.length false (enR c_TStored w1_4)::.ro 43 w1_5.length false (enR c_TStored w1_5)::.top::.int .i64 w2_3::tp 138 [])) (fun e=>[.dead,.lit 25 [.int .i64 r6.2.1.Limit,.int .i64 r6.2.1.Stay,.ro 3 r6.2.1.List.length false (enR c_TSleeper r6.2.1.List),.ro 43 r6.2.1.Group.length false (enR c_TStored r6.2.1.Group)]]) H ?_ (fun v3_1 o H hn1_3 hn2_3=>?_) (fun e H=>?_)
    ·refine SubF_of ⟨[some 0,some 1],?_,?_,by rfl,by rfl⟩
     ·simp [CvL,Cv,getM,tp]
     ·exact ⟨CvB_dead,cv,trivial⟩
    ·unfold F5_L3 at H
     try dsimp only at H ⊢
     try simp only [tp]
     refine seqM ?_
     refine sq ctNo_ok ?_
     simp only [go_sem,Nat.reduceAdd]
     repeat ((with_reducible refine And.intro ?_ ?_);focus exact an0)
     refine condM' rfl trivial (fun hc=>?_) (fun hc=>?_)
     ·have hk24:(bLt v3_1 (w1_5.length:Nat))=false:=by simpa using hc
      replace H:=cond_f hc H
      refine rg ctNo_ok ?_
      simp only [go_sem]
      refine ⟨_,(Option.some.inj H).symm,?_⟩
      refine SubF_of ⟨[some 0,some 1],?_,?_,by rfl,by rfl⟩
      ·simp [CvL,Cv,getM]
      ·exact ⟨CvB_dead,cv,trivial⟩
     have hk24:(bLt v3_1 (w1_5.length:Nat))=true:=by simpa using hc
     replace H:=cond_t hc H
     refine rg ctNo_ok ?_
     simp only [go_sem]
     refine seqM ?_
     refine blkM ?_
     refine seqM ?_
     obtain ⟨f25,H⟩:=need_some.1 H
     replace f25:=inb_iff.1 f25
     refine draw_quiet shT_ok ctNo_ok (by kernel_rfl) (by kernel_rfl) ?_
     simp only [go_sem,Nat.reduceLeDiff,Nat.reduceLT,Nat.reduceAdd,f25]
     repeat ((with_reducible refine And.intro ?_ ?_);focus exact an4)
     refine condM rfl trivial (fun hc=>?_) (fun hc=>?_)
     ·have hk26:(bLe r6.2.1.Stay (wr .i64 (p1 - ((gd w1_5 v3_1.toNat).At))))=true:=by simpa using hc
      replace H:=cond_t hc H
      refine sq ctNo_ok ?_
      simp only [go_sem]
      refine rg ctNo_ok ?_
      simp only [go_sem]
      have H:=hn2_3 _ (Option.some.inj H).symm
      obtain rfl:=Option.some.inj H
      first|rfl|simp only [Bool.and_false,Bool.false_and,Bool.and_true,Bool.true_and]
     have hk26:(bLe r6.2.1.Stay (wr .i64 (p1 - ((gd w1_5 v3_1.toNat).At))))=false:=by simpa using hc
     replace H:=cond_f hc H
     refine rg ctNo_ok ?_
     simp only [go_sem]
     refine rg ctNo_ok ?_
     simp only [go_sem]
     refine ⟨_,(Option.some.inj H).symm,?_⟩
     refine SubF_of ⟨[some 0,some 1],?_,?_,by rfl,by rfl⟩
     ·simp [CvL,Cv,getM]
     ·exact ⟨CvB_dead,cv,trivial⟩
    ·try dsimp only at H ⊢
     try simp only [tp]
     try simp only [m_normal]
     refine seqM ?_
     obtain ⟨r27,e28,H⟩:=bsi H
     refine rg ct5t2_ok ?_
     simp only [go_sem,Nat.reduceLT,Nat.reduceAdd,ct5t2_25,body25,e28]
     repeat ((with_reducible refine And.intro ?_ ?_);focus exact an0)
     refine seqM ?_
     obtain ⟨f29,H⟩:=need_some.1 H
     replace f29:=g_iff.1 f29
     refine rg ct5t3_ok ?_
     simp only [go_sem,Nat.reduceLT,Nat.reduceAdd,ct5t3_16,body16]
     repeat ((with_reducible refine And.intro ?_ ?_);focus (first|(with_reducible trivial)|omega|exact f29|(intro g;have q:=f29 (by first|exact g|(rw [g];rfl)|simpa using g);first|exact q|exact ⟨q.1,q.2.1⟩|exact q.2.2|omega|exact ⟨g,q⟩|exact ⟨trivial,q⟩|exact ⟨g,q.1,q.2.1⟩|exact ⟨g,q.2.2⟩)|(intro g;(try have q0:=f29 (by first|exact g|(rw [g];rfl)|simpa using g));and_intros<;>first|(with_reducible trivial)|assumption|exact nfc|(intro g2;rw [g,g2];rfl)|(intro g2;assumption)|(simp only [g,Bool.true_and,Bool.and_true,Bool.not_false,Bool.not_true];assumption)|grind)|(and_intros<;>first|(with_reducible trivial)|omega|assumption|exact nfc|first|exact rfl|exact trivial|exact fitI|exact .inr rfl|exact .inl rfl|exact fun x hx=>absurd hx (by omega))|grind))
     refine rg ctNo_ok ?_
     simp only [go_sem]
     obtain rfl:=Option.some.inj H
     first|rfl|simp only [Bool.and_false,Bool.false_and,Bool.and_true,Bool.true_and]
 ·cases hb
end Go.Proofs.Ytefiemaoacmdkaa
