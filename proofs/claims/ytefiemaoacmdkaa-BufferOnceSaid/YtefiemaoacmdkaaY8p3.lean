/-
  What BufferOnce reaches.
-/
import Derived.Test.YtefiemaoacmdkaaY8p2
namespace Go.Proofs.Ytefiemaoacmdkaa
open Go.Am
set_option maxHeartbeats 4000000
set_option maxRecDepth 20000
set_option linter.unusedVariables false
set_option linter.unusedSimpArgs false
noncomputable def ct23t0:Ct:=tab [(18,yF wP)]
theorem ct23t0_ok:yZ Try.prog ct23t0:=zR ok18 <| zY
theorem ct23t0_18 (l:List AV) (h:List ABlk):ct23t0 18 l h=yF wP l h:=rfl
noncomputable def ct23t1:Ct:=tab [(81,yF uF)]
theorem ct23t1_ok:yZ Try.prog ct23t1:=zR ok81 <| zY
theorem ct23t1_81 (l:List AV) (h:List ABlk):ct23t1 81 l h=yF uF l h:=rfl
noncomputable def ct23t2 (gi:Nat):Ct:=tab [(65,xU (kT gi))]
theorem ct23t2_ok (gi:Nat):yZ Try.prog (ct23t2 gi):=zR (ok65f gi) <| zY
theorem ct23t2_65 (gi:Nat) (l:List AV) (h:List ABlk):(ct23t2 gi) 65 l h=xU (kT gi) l h:=rfl
noncomputable def ct23t3:Ct:=tab [(56,yF body56)]
theorem ct23t3_ok:yZ Try.prog ct23t3:=zR ok56 <| zY
theorem ct23t3_56 (l:List AV) (h:List ABlk):ct23t3 56 l h=yF body56 l h:=rfl
noncomputable def ct23t4:Ct:=tab [(58,yF fZ)]
theorem ct23t4_ok:yZ Try.prog ct23t4:=zR ok58_1 <| zY
theorem ct23t4_58 (l:List AV) (h:List ABlk):ct23t4 58 l h=yF fZ l h:=rfl
noncomputable def ct23t5:Ct:=tab [(60,delN 61 43)]
theorem ct23t5_ok:yZ Try.prog ct23t5:=zR ok60 <| zY
theorem ct23t5_60 (l:List AV) (h:List ABlk):ct23t5 60 l h=delN 61 43 l h:=rfl
noncomputable def F23_L1 (r5:Int × Bool) (r8:TBuffer) (v1_1:Int) (v1_2:TStored):Option (Lp (Int × TStored) ((TStored) ⊕ (TFrame × TBuffer × Int))) :=
 bif (bLt v1_1 (((gd r8.List r5.1.toNat).Held).length:Nat)) then (need (inb v1_1 (((gd r8.List r5.1.toNat).Held).length)) <| (F56 (TStored.mk ((gd ((gd r8.List r5.1.toNat).Held) v1_1.toNat).Cat) ((gd ((gd r8.List r5.1.toNat).Held) v1_1.toNat).At) (eF ((gd ((gd r8.List r5.1.toNat).Held) v1_1.toNat).Frame))) v1_2).bind fun r17=>bif (bLt 0 r17) then (need (inb v1_1 (((gd r8.List r5.1.toNat).Held).length)) <| some (.next (wr .i64 (v1_1+1),(TStored.mk ((gd ((gd r8.List r5.1.toNat).Held) v1_1.toNat).Cat) ((gd ((gd r8.List r5.1.toNat).Held) v1_1.toNat).At) (eF ((gd ((gd r8.List r5.1.toNat).Held) v1_1.toNat).Frame)))))) else (some (.next (wr .i64 (v1_1+1),v1_2)))) else (some (.done (.inl v1_2)))
noncomputable def F23 (p0:TBuffer) (p1:Int):Option (TFrame × TBuffer × Int) :=
 (F18 p0).bind fun r1=>bif (!bEq r1 0) then (some ((TFrame.mk (THeader.mk 0 0 false false false false false false false 0 (A6u8.mk 0 0 0 0 0 0) (A6u8.mk 0 0 0 0 0 0) (A6u8.mk 0 0 0 0 0 0) (A6u8.mk 0 0 0 0 0 0) 0 0 0 0 false false) []),(TBuffer.mk 0 0 [] []),r1)) else (bif ((bLt p1 1) || (bLt 255 p1)) then (some ((TFrame.mk (THeader.mk 0 0 false false false false false false false 0 (A6u8.mk 0 0 0 0 0 0) (A6u8.mk 0 0 0 0 0 0) (A6u8.mk 0 0 0 0 0 0) (A6u8.mk 0 0 0 0 0 0) 0 0 0 0 false false) []),(TBuffer.mk 0 0 [] []),2)) else ((F81 p0 p1).bind fun r5=>bif (!r5.2) then (some ((TFrame.mk (THeader.mk 0 0 false false false false false false false 0 (A6u8.mk 0 0 0 0 0 0) (A6u8.mk 0 0 0 0 0 0) (A6u8.mk 0 0 0 0 0 0) (A6u8.mk 0 0 0 0 0 0) 0 0 0 0 false false) []),(TBuffer.mk 0 0 [] []),6)) else ((cH r5.1.toNat p0).bind fun r8=>need (inb r5.1 r8.List.length) <| bif (!((gd r8.List r5.1.toNat).Asleep)) then (some ((TFrame.mk (THeader.mk 0 0 false false false false false false false 0 (A6u8.mk 0 0 0 0 0 0) (A6u8.mk 0 0 0 0 0 0) (A6u8.mk 0 0 0 0 0 0) (A6u8.mk 0 0 0 0 0 0) 0 0 0 0 false false) []),(TBuffer.mk 0 0 [] []),20)) else (bif (bEq (((gd r8.List r5.1.toNat).Held).length:Nat) 0) then (some ((TFrame.mk (THeader.mk 0 0 false false false false false false false 0 (A6u8.mk 0 0 0 0 0 0) (A6u8.mk 0 0 0 0 0 0) (A6u8.mk 0 0 0 0 0 0) (A6u8.mk 0 0 0 0 0 0) 0 0 0 0 false false) []),(TBuffer.mk 0 0 [] []),6)) else (bif (bLt (((gd r8.List r5.1.toNat).Held).length:Nat) 1) then (none) else (need (inb 0 (((gd r8.List r5.1.toNat).Held).length)) <| lp (xC (fun s=>F23_L1 r5 r8 s.1 s.2) (1,(TStored.mk ((gd ((gd r8.List r5.1.toNat).Held) 0).Cat) ((gd ((gd r8.List r5.1.toNat).Held) 0).At) (eF ((gd ((gd r8.List r5.1.toNat).Held) 0).Frame))))) (fun w1_5=>(F58_1 ((gd r8.List r5.1.toNat).Held) w1_5.Cat).bind fun r21=>need (inb r21 (((gd r8.List r5.1.toNat).Held).length)) <| need (delb r21 (wr .i64 (r21+1)) (((gd r8.List r5.1.toNat).Held).length)) <| (some (kH ((gd r8.List r5.1.toNat).Held) r21 (wr .i64 (r21+1)))).bind fun w25=>(some (r8.List.set r5.1.toNat (TSleeper.mk ((gd r8.List r5.1.toNat).Aid) ((gd r8.List r5.1.toNat).Asleep) w25))).bind fun w27=>some ((TFrame.mk (THeader.mk ((((gd ((gd r8.List r5.1.toNat).Held) r21.toNat).Frame).Head).Kind) ((((gd ((gd r8.List r5.1.toNat).Held) r21.toNat).Frame).Head).Sub) ((((gd ((gd r8.List r5.1.toNat).Held) r21.toNat).Frame).Head).ToDs) ((((gd ((gd r8.List r5.1.toNat).Held) r21.toNat).Frame).Head).FromDs) ((((gd ((gd r8.List r5.1.toNat).Held) r21.toNat).Frame).Head).More) ((((gd ((gd r8.List r5.1.toNat).Held) r21.toNat).Frame).Head).Retry) ((((gd ((gd r8.List r5.1.toNat).Held) r21.toNat).Frame).Head).Sleep) (bLt 0 (w25.length:Nat)) ((((gd ((gd r8.List r5.1.toNat).Held) r21.toNat).Frame).Head).Protected) ((((gd ((gd r8.List r5.1.toNat).Held) r21.toNat).Frame).Head).Duration) (A6u8.mk (((((gd ((gd r8.List r5.1.toNat).Held) r21.toNat).Frame).Head).A1).x0) (((((gd ((gd r8.List r5.1.toNat).Held) r21.toNat).Frame).Head).A1).x1) (((((gd ((gd r8.List r5.1.toNat).Held) r21.toNat).Frame).Head).A1).x2) (((((gd ((gd r8.List r5.1.toNat).Held) r21.toNat).Frame).Head).A1).x3) (((((gd ((gd r8.List r5.1.toNat).Held) r21.toNat).Frame).Head).A1).x4) (((((gd ((gd r8.List r5.1.toNat).Held) r21.toNat).Frame).Head).A1).x5)) (A6u8.mk (((((gd ((gd r8.List r5.1.toNat).Held) r21.toNat).Frame).Head).A2).x0) (((((gd ((gd r8.List r5.1.toNat).Held) r21.toNat).Frame).Head).A2).x1) (((((gd ((gd r8.List r5.1.toNat).Held) r21.toNat).Frame).Head).A2).x2) (((((gd ((gd r8.List r5.1.toNat).Held) r21.toNat).Frame).Head).A2).x3) (((((gd ((gd r8.List r5.1.toNat).Held) r21.toNat).Frame).Head).A2).x4) (((((gd ((gd r8.List r5.1.toNat).Held) r21.toNat).Frame).Head).A2).x5)) (A6u8.mk (((((gd ((gd r8.List r5.1.toNat).Held) r21.toNat).Frame).Head).A3).x0) (((((gd ((gd r8.List r5.1.toNat).Held) r21.toNat).Frame).Head).A3).x1) (((((gd ((gd r8.List r5.1.toNat).Held) r21.toNat).Frame).Head).A3).x2) (((((gd ((gd r8.List r5.1.toNat).Held) r21.toNat).Frame).Head).A3).x3) (((((gd ((gd r8.List r5.1.toNat).Held) r21.toNat).Frame).Head).A3).x4) (((((gd ((gd r8.List r5.1.toNat).Held) r21.toNat).Frame).Head).A3).x5)) (A6u8.mk (((((gd ((gd r8.List r5.1.toNat).Held) r21.toNat).Frame).Head).A4).x0) (((((gd ((gd r8.List r5.1.toNat).Held) r21.toNat).Frame).Head).A4).x1) (((((gd ((gd r8.List r5.1.toNat).Held) r21.toNat).Frame).Head).A4).x2) (((((gd ((gd r8.List r5.1.toNat).Held) r21.toNat).Frame).Head).A4).x3) (((((gd ((gd r8.List r5.1.toNat).Held) r21.toNat).Frame).Head).A4).x4) (((((gd ((gd r8.List r5.1.toNat).Held) r21.toNat).Frame).Head).A4).x5)) ((((gd ((gd r8.List r5.1.toNat).Held) r21.toNat).Frame).Head).Seq) ((((gd ((gd r8.List r5.1.toNat).Held) r21.toNat).Frame).Head).Frag) ((((gd ((gd r8.List r5.1.toNat).Held) r21.toNat).Frame).Head).Tid) ((((gd ((gd r8.List r5.1.toNat).Held) r21.toNat).Frame).Head).Ack) ((((gd ((gd r8.List r5.1.toNat).Held) r21.toNat).Frame).Head).Amsdu) ((((gd ((gd r8.List r5.1.toNat).Held) r21.toNat).Frame).Head).Eosp)) (((gd ((gd r8.List r5.1.toNat).Held) r21.toNat).Frame).Body)),(TBuffer.mk r8.Limit r8.Stay w27 r8.Group),0)) some))))))
noncomputable def fM:List AV->Nat->AR
 | [v0,v1],_=>.pure (aK 4 wC v0/\iK .i64 v1/\(F23 (zG (aL v0)) (iA v1)).isSome=true) (.tup [.agg (.int .u8 ((((gt (F23 (zG (aL v0)) (iA v1))).1).Head).Kind)::.int .u8 ((((gt (F23 (zG (aL v0)) (iA v1))).1).Head).Sub)::.bool ((((gt (F23 (zG (aL v0)) (iA v1))).1).Head).ToDs)::.bool ((((gt (F23 (zG (aL v0)) (iA v1))).1).Head).FromDs)::.bool ((((gt (F23 (zG (aL v0)) (iA v1))).1).Head).More)::.bool ((((gt (F23 (zG (aL v0)) (iA v1))).1).Head).Retry)::.bool ((((gt (F23 (zG (aL v0)) (iA v1))).1).Head).Sleep)::.bool ((((gt (F23 (zG (aL v0)) (iA v1))).1).Head).MoreData)::.bool ((((gt (F23 (zG (aL v0)) (iA v1))).1).Head).Protected)::.int .i64 ((((gt (F23 (zG (aL v0)) (iA v1))).1).Head).Duration)::.int .u8 (((((gt (F23 (zG (aL v0)) (iA v1))).1).Head).A1).x0)::.int .u8 (((((gt (F23 (zG (aL v0)) (iA v1))).1).Head).A1).x1)::.int .u8 (((((gt (F23 (zG (aL v0)) (iA v1))).1).Head).A1).x2)::.int .u8 (((((gt (F23 (zG (aL v0)) (iA v1))).1).Head).A1).x3)::.int .u8 (((((gt (F23 (zG (aL v0)) (iA v1))).1).Head).A1).x4)::.int .u8 (((((gt (F23 (zG (aL v0)) (iA v1))).1).Head).A1).x5)::.int .u8 (((((gt (F23 (zG (aL v0)) (iA v1))).1).Head).A2).x0)::.int .u8 (((((gt (F23 (zG (aL v0)) (iA v1))).1).Head).A2).x1)::.int .u8 (((((gt (F23 (zG (aL v0)) (iA v1))).1).Head).A2).x2)::.int .u8 (((((gt (F23 (zG (aL v0)) (iA v1))).1).Head).A2).x3)::.int .u8 (((((gt (F23 (zG (aL v0)) (iA v1))).1).Head).A2).x4)::.int .u8 (((((gt (F23 (zG (aL v0)) (iA v1))).1).Head).A2).x5)::.int .u8 (((((gt (F23 (zG (aL v0)) (iA v1))).1).Head).A3).x0)::.int .u8 (((((gt (F23 (zG (aL v0)) (iA v1))).1).Head).A3).x1)::.int .u8 (((((gt (F23 (zG (aL v0)) (iA v1))).1).Head).A3).x2)::.int .u8 (((((gt (F23 (zG (aL v0)) (iA v1))).1).Head).A3).x3)::.int .u8 (((((gt (F23 (zG (aL v0)) (iA v1))).1).Head).A3).x4)::.int .u8 (((((gt (F23 (zG (aL v0)) (iA v1))).1).Head).A3).x5)::.int .u8 (((((gt (F23 (zG (aL v0)) (iA v1))).1).Head).A4).x0)::.int .u8 (((((gt (F23 (zG (aL v0)) (iA v1))).1).Head).A4).x1)::.int .u8 (((((gt (F23 (zG (aL v0)) (iA v1))).1).Head).A4).x2)::.int .u8 (((((gt (F23 (zG (aL v0)) (iA v1))).1).Head).A4).x3)::.int .u8 (((((gt (F23 (zG (aL v0)) (iA v1))).1).Head).A4).x4)::.int .u8 (((((gt (F23 (zG (aL v0)) (iA v1))).1).Head).A4).x5)::.int .i64 ((((gt (F23 (zG (aL v0)) (iA v1))).1).Head).Seq)::.int .i64 ((((gt (F23 (zG (aL v0)) (iA v1))).1).Head).Frag)::.int .i64 ((((gt (F23 (zG (aL v0)) (iA v1))).1).Head).Tid)::.int .u8 ((((gt (F23 (zG (aL v0)) (iA v1))).1).Head).Ack)::.bool ((((gt (F23 (zG (aL v0)) (iA v1))).1).Head).Amsdu)::.bool ((((gt (F23 (zG (aL v0)) (iA v1))).1).Head).Eosp)::.ro 1 ((((gt (F23 (zG (aL v0)) (iA v1))).1).Body).length) false (enR xM (((gt (F23 (zG (aL v0)) (iA v1))).1).Body))::[]),.agg [.int .i64 (((gt (F23 (zG (aL v0)) (iA v1))).2.1).Limit),.int .i64 (((gt (F23 (zG (aL v0)) (iA v1))).2.1).Stay),.ro 3 ((((gt (F23 (zG (aL v0)) (iA v1))).2.1).List).length) false (enR zC (((gt (F23 (zG (aL v0)) (iA v1))).2.1).List)),.ro 43 ((((gt (F23 (zG (aL v0)) (iA v1))).2.1).Group).length) false (enR zE (((gt (F23 (zG (aL v0)) (iA v1))).2.1).Group))],.int .i64 ((gt (F23 (zG (aL v0)) (iA v1))).2.2)])
 | _,_=>.fail
theorem ok23:wM Try.prog 23 (xU fM):=by
 refine uZ fM (rs:=[.cell 4 33,.cell 5 25,.tmp 6]) Try.func23 (by kernel_rfl) rfl rfl ?_
 intro l s ob v ns hb hob
 rcases hb with ⟨hb,rfl⟩|hb
 ·unfold fM at hb
  split at hb
  ·rename_i v0 v1
   injection hb with q1 q2;subst q1 q2
   obtain ⟨hk0_0,hk1_0,hob⟩:=hob
   obtain ⟨r,H⟩:=oE.1 hob
   rw [H,yQ]
   have hw0:=wU hk0_0
   have hw1:=yI hk1_0
   generalize zG (aL v0)=p0 at H hw0
   generalize iA v1=p1 at H hw1
   refine ⟨[.agg [.int .i64 p0.Limit,.int .i64 p0.Stay,.ro 3 p0.List.length false (enR zC p0.List),.ro 43 p0.Group.length false (enR zE p0.Group)],.int .i64 p1],.tup [.agg (.int .u8 r.1.Head.Kind::.int .u8 r.1.Head.Sub::.bool r.1.Head.ToDs::.bool r.1.Head.FromDs::.bool r.1.Head.More::.bool r.1.Head.Retry::.bool r.1.Head.Sleep::.bool r.1.Head.MoreData::.bool r.1.Head.Protected::.int .i64 r.1.Head.Duration::.int .u8 r.1.Head.A1.x0::.int .u8 r.1.Head.A1.x1::.int .u8 r.1.Head.A1.x2::.int .u8 r.1.Head.A1.x3::.int .u8 r.1.Head.A1.x4::.int .u8 r.1.Head.A1.x5::.int .u8 r.1.Head.A2.x0::.int .u8 r.1.Head.A2.x1::.int .u8 r.1.Head.A2.x2::.int .u8 r.1.Head.A2.x3::.int .u8 r.1.Head.A2.x4::.int .u8 r.1.Head.A2.x5::.int .u8 r.1.Head.A3.x0::.int .u8 r.1.Head.A3.x1::.int .u8 r.1.Head.A3.x2::.int .u8 r.1.Head.A3.x3::.int .u8 r.1.Head.A3.x4::.int .u8 r.1.Head.A3.x5::.int .u8 r.1.Head.A4.x0::.int .u8 r.1.Head.A4.x1::.int .u8 r.1.Head.A4.x2::.int .u8 r.1.Head.A4.x3::.int .u8 r.1.Head.A4.x4::.int .u8 r.1.Head.A4.x5::.int .i64 r.1.Head.Seq::.int .i64 r.1.Head.Frag::.int .i64 r.1.Head.Tid::.int .u8 r.1.Head.Ack::.bool r.1.Head.Amsdu::.bool r.1.Head.Eosp::.ro 1 r.1.Body.length false (enR xM r.1.Body)::[]),.agg [.int .i64 r.2.1.Limit,.int .i64 r.2.1.Stay,.ro 3 r.2.1.List.length false (enR zC r.2.1.List),.ro 43 r.2.1.Group.length false (enR zE r.2.1.Group)],.int .i64 r.2.2],[],(fun E vs F=>yO hw0.1 F (fun vs F=>yO hw1.1 F (fun vs F=>F))),by simp only [ren,uS],trivial,?_⟩
   rw [Try.ntmps23]
   simp only [lC,lN,Nat.reduceAdd,Nat.reduceSub,rS,rZ,aC,aN]
   unfold F23 at H
   delta eF at H
   try dsimp only at H
   refine sq zA ?_
   simp only [go_sem,Nat.reduceAdd]
   refine zK ?_
   refine qZ ?_
   refine xQ zQ zA 2 ?_
   simp only [zM,tS,tZ,dS,dZ,go_sem,Nat.reduceLT,Nat.reduceAdd]
   repeat ((with_reducible refine aI ?_ ?_);exact an0)
   refine gX (rs:=[.tmp 4,.tmp 5,.tmp 6]) Try.func51 (by kernel_rfl) rfl rfl Try.ntmps51 (caps:=[]) (tc:=[.agg [.int .i64 p0.Limit,.int .i64 p0.Stay,.ro 3 p0.List.length false (enR zC p0.List),.ro 43 p0.Group.length false (enR zE p0.Group)],.int .i64 p1]) rfl (by simp only [go_sem]) rfl ?_
   simp only [lC,lN,Nat.reduceAdd,Nat.reduceSub,rS,rZ,aC,aN]
   refine sq zA ?_
   simp only [go_sem,Nat.reduceAdd]
   refine zK ?_
   refine zK ?_
   obtain ⟨r1,e2,H⟩:=bsi H
   refine rg ct23t0_ok ?_
   simp only [go_sem,Nat.reduceLT,Nat.reduceAdd,ct23t0_18,wP,e2]
   repeat ((with_reducible refine aI ?_ ?_);exact an0)
   refine sq zA ?_
   simp only [go_sem]
   refine yM rfl trivial (fun hc=>?_) (fun hc=>?_)
   ·have hk3:(bEq r1 0)=false:=by simpa using hc
    replace H:=yA hc H
    refine sq zA ?_
    simp only [go_sem]
    refine rg zA ?_
    simp only [go_sem]
    refine xQ zQ zA 7 ?_
    simp only [zM,tS,tZ,dS,dZ,go_sem,Nat.reduceLT,Nat.reduceAdd]
    repeat ((with_reducible refine aI ?_ ?_);exact an0)
    refine wS ?_
    refine zK ?_
    refine wN ?_
    refine sq zA ?_
    simp only [go_sem]
    refine yM rfl trivial (fun hc=>?_) (fun hc=>?_)
    rotate_left
    ·simp [hk3] at hc
    refine sq zA ?_
    simp only [go_sem,Nat.reduceAdd]
    repeat ((with_reducible refine aI ?_ ?_);exact an5)
    refine rg zA ?_
    simp only [go_sem,Nat.reduceLT,Nat.reduceAdd]
    obtain rfl:=Option.some.inj H
    refine ⟨[0,1,2,3],?_,?_,[],?_,?_,rfl⟩
    ·simp only [go_sem]
     try exact at0
    ·simp only [go_sem]
     try exact at0
    ·simp only [go_sem]
     exact yY (zB (yV (zB zF (zB zF (zB yU (zB yU (zB yU (zB yU (zB yU (zB yU (zB yU (zB zF (zB zF (zB zF (zB zF (zB zF (zB zF (zB zF (zB zF (zB zF (zB zF (zB zF (zB zF (zB zF (zB zF (zB zF (zB zF (zB zF (zB zF (zB zF (zB zF (zB zF (zB zF (zB zF (zB zF (zB zF (zB zF (zB zF (zB zF (zB zF (zB yU (zB yU (zB (zJ (α:=Int)) zO)))))))))))))))))))))))))))))))))))))))))) (zB (yV (zB zF (zB zF (zB (zJ (α:=TSleeper)) (zB (zJ (α:=TStored)) zO))))) (zB zF zO)))
    ·simp only [go_sem,CvH]
   have hk3:(bEq r1 0)=true:=by simpa using hc
   replace H:=zZ hc H
   refine rg zA ?_
   simp only [go_sem]
   refine zK ?_
   refine sq zA ?_
   simp only [go_sem]
   repeat ((with_reducible refine aI ?_ ?_);exact an5)
   refine yM rfl trivial (fun hc=>?_) (fun hc=>?_)
   ·have hk4:((bLt p1 1) || (bLt 255 p1))=true:=by simpa using hc
    replace H:=yA hc H
    refine sq zA ?_
    simp only [go_sem]
    refine rg zA ?_
    simp only [go_sem]
    refine xQ zQ zA 7 ?_
    simp only [zM,tS,tZ,dS,dZ,go_sem,Nat.reduceLT,Nat.reduceAdd]
    repeat ((with_reducible refine aI ?_ ?_);exact an0)
    refine wS ?_
    refine zK ?_
    refine wN ?_
    refine sq zA ?_
    simp only [go_sem,(by decide:bEq (2) (0)=false)]
    refine yM rfl trivial (fun hc=>?_) (fun hc=>?_)
    rotate_left
    ·cases hc
    refine sq zA ?_
    simp only [go_sem,Nat.reduceAdd]
    repeat ((with_reducible refine aI ?_ ?_);exact an5)
    refine rg zA ?_
    simp only [go_sem,Nat.reduceLT,Nat.reduceAdd]
    obtain rfl:=Option.some.inj H
    refine ⟨[0,1,2,3],?_,?_,[],?_,?_,rfl⟩
    ·simp only [go_sem]
     try exact at0
    ·simp only [go_sem]
     try exact at0
    ·simp only [go_sem]
     exact yY (zB (yV (zB zF (zB zF (zB yU (zB yU (zB yU (zB yU (zB yU (zB yU (zB yU (zB zF (zB zF (zB zF (zB zF (zB zF (zB zF (zB zF (zB zF (zB zF (zB zF (zB zF (zB zF (zB zF (zB zF (zB zF (zB zF (zB zF (zB zF (zB zF (zB zF (zB zF (zB zF (zB zF (zB zF (zB zF (zB zF (zB zF (zB zF (zB zF (zB yU (zB yU (zB (zJ (α:=Int)) zO)))))))))))))))))))))))))))))))))))))))))) (zB (yV (zB zF (zB zF (zB (zJ (α:=TSleeper)) (zB (zJ (α:=TStored)) zO))))) (zB zF zO)))
    ·simp only [go_sem,CvH]
   have hk4:((bLt p1 1) || (bLt 255 p1))=false:=by simpa using hc
   replace H:=zZ hc H
   refine rg zA ?_
   simp only [go_sem]
   refine zK ?_
   obtain ⟨r5,e6,H⟩:=bsi H
   refine rg ct23t1_ok ?_
   simp only [go_sem,Nat.reduceLT,Nat.reduceAdd,ct23t1_81,uF,e6]
   repeat ((with_reducible refine aI ?_ ?_);exact an0)
   refine zK ?_
   refine sq zA ?_
   simp only [go_sem]
   refine yM rfl trivial (fun hc=>?_) (fun hc=>?_)
   ·have hk7:(r5.2)=false:=by simpa using hc
    replace H:=yA hc H
    refine sq zA ?_
    simp only [go_sem]
    refine rg zA ?_
    simp only [go_sem]
    refine xQ zQ zA 7 ?_
    simp only [zM,tS,tZ,dS,dZ,go_sem,Nat.reduceLT,Nat.reduceAdd]
    repeat ((with_reducible refine aI ?_ ?_);exact an0)
    refine wS ?_
    refine zK ?_
    refine wN ?_
    refine sq zA ?_
    simp only [go_sem,(by decide:bEq (6) (0)=false)]
    refine yM rfl trivial (fun hc=>?_) (fun hc=>?_)
    rotate_left
    ·cases hc
    refine sq zA ?_
    simp only [go_sem,Nat.reduceAdd]
    repeat ((with_reducible refine aI ?_ ?_);exact an5)
    refine rg zA ?_
    simp only [go_sem,Nat.reduceLT,Nat.reduceAdd]
    obtain rfl:=Option.some.inj H
    refine ⟨[0,1,2,3],?_,?_,[],?_,?_,rfl⟩
    ·simp only [go_sem]
     try exact at0
    ·simp only [go_sem]
     try exact at0
    ·simp only [go_sem]
     exact yY (zB (yV (zB zF (zB zF (zB yU (zB yU (zB yU (zB yU (zB yU (zB yU (zB yU (zB zF (zB zF (zB zF (zB zF (zB zF (zB zF (zB zF (zB zF (zB zF (zB zF (zB zF (zB zF (zB zF (zB zF (zB zF (zB zF (zB zF (zB zF (zB zF (zB zF (zB zF (zB zF (zB zF (zB zF (zB zF (zB zF (zB zF (zB zF (zB zF (zB yU (zB yU (zB (zJ (α:=Int)) zO)))))))))))))))))))))))))))))))))))))))))) (zB (yV (zB zF (zB zF (zB (zJ (α:=TSleeper)) (zB (zJ (α:=TStored)) zO))))) (zB zF zO)))
    ·simp only [go_sem,CvH]
   have hk7:(r5.2)=true:=by simpa using hc
   replace H:=zZ hc H
   refine rg zA ?_
   simp only [go_sem]
   refine zK ?_
   obtain ⟨r8,e9,H⟩:=bsi H
   refine rg (ct23t2_ok r5.1.toNat) ?_
   simp only [go_sem,Nat.reduceLT,Nat.reduceAdd,ct23t2_65,kT,e9]
   repeat ((with_reducible refine aI ?_ ?_);exact an0)
   refine zK ?_
   obtain ⟨f10,H⟩:=nI H
   refine vS zQ zA (by kernel_rfl) (by kernel_rfl) ?_
   simp only [go_sem,Nat.reduceLeDiff,Nat.reduceLT,Nat.reduceAdd,f10]
   repeat ((with_reducible refine aI ?_ ?_);exact an5)
   refine rg zA ?_
   simp only [go_sem]
   refine xQ zQ zA 7 ?_
   simp only [zM,tS,tZ,dS,dZ,go_sem,Nat.reduceLT,Nat.reduceAdd]
   repeat ((with_reducible refine aI ?_ ?_);exact an0)
   refine wS ?_
   refine zK ?_
   refine wN ?_
   refine sq zA ?_
   simp only [go_sem,(by decide:bEq (0) (0)=true)]
   refine yM rfl trivial (fun hc=>?_) (fun hc=>?_)
   ·cases hc
   refine sq zA ?_
   simp only [go_sem,Nat.reduceLeDiff,Nat.reduceLT,Nat.reduceAdd,Nat.reduceSub,yH]
   repeat ((with_reducible refine aI ?_ ?_);exact an5)
   refine yM rfl trivial (fun hc=>?_) (fun hc=>?_)
   ·have hk11:((gd r8.List r5.1.toNat).Asleep)=false:=by simpa using hc
    replace H:=yA hc H
    refine sq zA ?_
    simp only [go_sem,Nat.reduceAdd]
    repeat ((with_reducible refine aI ?_ ?_);exact an5)
    refine rg zA ?_
    simp only [go_sem,Nat.reduceLT,Nat.reduceAdd]
    obtain rfl:=Option.some.inj H
    refine ⟨[0,1,2,3],?_,?_,[],?_,?_,rfl⟩
    ·simp only [go_sem]
     try exact at0
    ·simp only [go_sem,Nat.reduceBEq]
     try exact at0
    ·simp only [go_sem]
     exact yY (zB (yV (zB zF (zB zF (zB yU (zB yU (zB yU (zB yU (zB yU (zB yU (zB yU (zB zF (zB zF (zB zF (zB zF (zB zF (zB zF (zB zF (zB zF (zB zF (zB zF (zB zF (zB zF (zB zF (zB zF (zB zF (zB zF (zB zF (zB zF (zB zF (zB zF (zB zF (zB zF (zB zF (zB zF (zB zF (zB zF (zB zF (zB zF (zB zF (zB yU (zB yU (zB (zJ (α:=Int)) zO)))))))))))))))))))))))))))))))))))))))))) (zB (yV (zB zF (zB zF (zB (zJ (α:=TSleeper)) (zB (zJ (α:=TStored)) zO))))) (zB zF zO)))
    ·simp only [go_sem,CvH]
   have hk11:((gd r8.List r5.1.toNat).Asleep)=true:=by simpa using hc
   replace H:=zZ hc H
   refine sq zA ?_
   simp only [go_sem,Nat.reduceLT,Nat.reduceAdd,Nat.reduceSub,yH]
   repeat ((with_reducible refine aI ?_ ?_);exact an0)
   refine yM rfl trivial (fun hc=>?_) (fun hc=>?_)
   ·have hk12:(bEq (((gd r8.List r5.1.toNat).Held).length:Nat) 0)=true:=by simpa using hc
    replace H:=yA hc H
    refine sq zA ?_
    simp only [go_sem,Nat.reduceAdd]
    repeat ((with_reducible refine aI ?_ ?_);exact an5)
    refine rg zA ?_
    simp only [go_sem,Nat.reduceLT,Nat.reduceAdd]
    obtain rfl:=Option.some.inj H
    refine ⟨[0,1,2,3],?_,?_,[],?_,?_,rfl⟩
    ·simp only [go_sem]
     try exact at0
    ·simp only [go_sem,Nat.reduceBEq]
     try exact at0
    ·simp only [go_sem]
     exact yY (zB (yV (zB zF (zB zF (zB yU (zB yU (zB yU (zB yU (zB yU (zB yU (zB yU (zB zF (zB zF (zB zF (zB zF (zB zF (zB zF (zB zF (zB zF (zB zF (zB zF (zB zF (zB zF (zB zF (zB zF (zB zF (zB zF (zB zF (zB zF (zB zF (zB zF (zB zF (zB zF (zB zF (zB zF (zB zF (zB zF (zB zF (zB zF (zB zF (zB yU (zB yU (zB (zJ (α:=Int)) zO)))))))))))))))))))))))))))))))))))))))))) (zB (yV (zB zF (zB zF (zB (zJ (α:=TSleeper)) (zB (zJ (α:=TStored)) zO))))) (zB zF zO)))
    ·simp only [go_sem,CvH]
   have hk12:(bEq (((gd r8.List r5.1.toNat).Held).length:Nat) 0)=false:=by simpa using hc
   replace H:=zZ hc H
   refine rg zA ?_
   simp only [go_sem]
   refine zK ?_
   refine qZ ?_
   refine xQ zQ zA 4 ?_
   simp only [zM,tS,tZ,dS,dZ,go_sem,Nat.reduceLT,Nat.reduceAdd,Nat.reduceSub,yH]
   repeat ((with_reducible refine aI ?_ ?_);exact an0)
   refine gX (rs:=[.cell 4 61]) Try.func55 (by kernel_rfl) rfl rfl Try.ntmps55 (caps:=[]) (tc:=[.sl 5 43 0 (((gd r8.List r5.1.toNat).Held).length) false,.fn 56 []]) rfl (by simp only [go_sem]) rfl ?_
   simp only [lC,lN,Nat.reduceAdd,Nat.reduceSub,rS,rZ,aC,aN]
   refine sq zA ?_
   simp only [go_sem,Nat.reduceAdd]
   refine zK ?_
   refine sq zA ?_
   simp only [go_sem]
   repeat ((with_reducible refine aI ?_ ?_);exact an0)
   refine yM rfl trivial (fun hc=>?_) (fun hc=>?_)
   ·have hk13:(bLt (((gd r8.List r5.1.toNat).Held).length:Nat) 1)=true:=by simpa using hc
    replace H:=yA hc H
    cases H
   have hk13:(bLt (((gd r8.List r5.1.toNat).Held).length:Nat) 1)=false:=by simpa using hc
   replace H:=zZ hc H
   refine rg zA ?_
   simp only [go_sem]
   refine zK ?_
   obtain ⟨f14,H⟩:=nI H
   refine rg zA ?_
   simp only [go_sem,Nat.reduceLT,Nat.reduceAdd,f14]
   repeat ((with_reducible refine aI ?_ ?_);exact an5)
   refine zK ?_
   refine sq zA ?_
   simp only [go_sem]
   refine wN ?_
   refine xX (fun s:Int × TStored=>(.sl 5 43 0 (((gd r8.List r5.1.toNat).Held).length) false::.fn 56 []::.top::.top::.ptr 7 0 0 0::.ptr 8 0 0 0::.int .i64 s.1::tp 26 [])) (fun s=>[.dead,.lit 33 (.int .u8 0::.int .u8 0::.bool false::.bool false::.bool false::.bool false::.bool false::.bool false::.bool false::.int .i64 0::.int .u8 0::.int .u8 0::.int .u8 0::.int .u8 0::.int .u8 0::.int .u8 0::.int .u8 0::.int .u8 0::.int .u8 0::.int .u8 0::.int .u8 0::.int .u8 0::.int .u8 0::.int .u8 0::.int .u8 0::.int .u8 0::.int .u8 0::.int .u8 0::.int .u8 0::.int .u8 0::.int .u8 0::.int .u8 0::.int .u8 0::.int .u8 0::.int .i64 0::.int .i64 0::.int .i64 0::.int .u8 0::.bool false::.bool false::.ro 0 0 true (fun _ _=>.top)::[]),.lit 25 [.int .i64 0,.int .i64 0,.ro 0 0 true (fun _ _=>.top),.ro 0 0 true (fun _ _=>.top)],.lit 25 [.int .i64 r8.Limit,.int .i64 r8.Stay,.sl 4 3 0 r8.List.length false,.sl 6 43 0 r8.Group.length false],.row 57 3 r8.List.length (upc (enR zC r8.List) r5.1.toNat 2 [.sl 5 43 0 (((gd r8.List r5.1.toNat).Held).length) false]),.row 61 43 (((gd r8.List r5.1.toNat).Held).length) (enR zE ((gd r8.List r5.1.toNat).Held)),.row 61 43 r8.Group.length (enR zE r8.Group),.lit 61 (.int .u8 0::.int .i64 0::.int .u8 0::.int .u8 0::.bool false::.bool false::.bool false::.bool false::.bool false::.bool false::.bool false::.int .i64 0::.int .u8 0::.int .u8 0::.int .u8 0::.int .u8 0::.int .u8 0::.int .u8 0::.int .u8 0::.int .u8 0::.int .u8 0::.int .u8 0::.int .u8 0::.int .u8 0::.int .u8 0::.int .u8 0::.int .u8 0::.int .u8 0::.int .u8 0::.int .u8 0::.int .u8 0::.int .u8 0::.int .u8 0::.int .u8 0::.int .u8 0::.int .u8 0::.int .i64 0::.int .i64 0::.int .i64 0::.int .u8 0::.bool false::.bool false::.ro 0 0 true (fun _ _=>.top)::[]),.lit 61 (.int .u8 s.2.Cat::.int .i64 s.2.At::.int .u8 s.2.Frame.Head.Kind::.int .u8 s.2.Frame.Head.Sub::.bool s.2.Frame.Head.ToDs::.bool s.2.Frame.Head.FromDs::.bool s.2.Frame.Head.More::.bool s.2.Frame.Head.Retry::.bool s.2.Frame.Head.Sleep::.bool s.2.Frame.Head.MoreData::.bool s.2.Frame.Head.Protected::.int .i64 s.2.Frame.Head.Duration::.int .u8 s.2.Frame.Head.A1.x0::.int .u8 s.2.Frame.Head.A1.x1::.int .u8 s.2.Frame.Head.A1.x2::.int .u8 s.2.Frame.Head.A1.x3::.int .u8 s.2.Frame.Head.A1.x4::.int .u8 s.2.Frame.Head.A1.x5::.int .u8 s.2.Frame.Head.A2.x0::.int .u8 s.2.Frame.Head.A2.x1::.int .u8 s.2.Frame.Head.A2.x2::.int .u8 s.2.Frame.Head.A2.x3::.int .u8 s.2.Frame.Head.A2.x4::.int .u8 s.2.Frame.Head.A2.x5::.int .u8 s.2.Frame.Head.A3.x0::.int .u8 s.2.Frame.Head.A3.x1::.int .u8 s.2.Frame.Head.A3.x2::.int .u8 s.2.Frame.Head.A3.x3::.int .u8 s.2.Frame.Head.A3.x4::.int .u8 s.2.Frame.Head.A3.x5::.int .u8 s.2.Frame.Head.A4.x0::.int .u8 s.2.Frame.Head.A4.x1::.int .u8 s.2.Frame.Head.A4.x2::.int .u8 s.2.Frame.Head.A4.x3::.int .u8 s.2.Frame.Head.A4.x4::.int .u8 s.2.Frame.Head.A4.x5::.int .i64 s.2.Frame.Head.Seq::.int .i64 s.2.Frame.Head.Frag::.int .i64 s.2.Frame.Head.Tid::.int .u8 s.2.Frame.Head.Ack::.bool s.2.Frame.Head.Amsdu::.bool s.2.Frame.Head.Eosp::.ro 1 s.2.Frame.Body.length false (enR xM s.2.Frame.Body)::[])]) (fun e:TStored=>(tp 4 (.ptr 7 0 0 0::.ptr 8 0 0 0::tp 27 []))) (fun e=>[.dead,.lit 33 (.int .u8 0::.int .u8 0::.bool false::.bool false::.bool false::.bool false::.bool false::.bool false::.bool false::.int .i64 0::.int .u8 0::.int .u8 0::.int .u8 0::.int .u8 0::.int .u8 0::.int .u8 0::.int .u8 0::.int .u8 0::.int .u8 0::.int .u8 0::.int .u8 0::.int .u8 0::.int .u8 0::.int .u8 0::.int .u8 0::.int .u8 0::.int .u8 0::.int .u8 0::.int .u8 0::.int .u8 0::.int .u8 0::.int .u8 0::.int .u8 0::.int .u8 0::.int .i64 0::.int .i64 0::.int .i64 0::.int .u8 0::.bool false::.bool false::.ro 0 0 true (fun _ _=>.top)::[]),.lit 25 [.int .i64 0,.int .i64 0,.ro 0 0 true (fun _ _=>.top),.ro 0 0 true (fun _ _=>.top)],.lit 25 [.int .i64 r8.Limit,.int .i64 r8.Stay,.sl 4 3 0 r8.List.length false,.sl 6 43 0 r8.Group.length false],.row 57 3 r8.List.length (upc (enR zC r8.List) r5.1.toNat 2 [.sl 5 43 0 (((gd r8.List r5.1.toNat).Held).length) false]),.row 61 43 (((gd r8.List r5.1.toNat).Held).length) (enR zE ((gd r8.List r5.1.toNat).Held)),.row 61 43 r8.Group.length (enR zE r8.Group),.lit 61 (.int .u8 0::.int .i64 0::.int .u8 0::.int .u8 0::.bool false::.bool false::.bool false::.bool false::.bool false::.bool false::.bool false::.int .i64 0::.int .u8 0::.int .u8 0::.int .u8 0::.int .u8 0::.int .u8 0::.int .u8 0::.int .u8 0::.int .u8 0::.int .u8 0::.int .u8 0::.int .u8 0::.int .u8 0::.int .u8 0::.int .u8 0::.int .u8 0::.int .u8 0::.int .u8 0::.int .u8 0::.int .u8 0::.int .u8 0::.int .u8 0::.int .u8 0::.int .u8 0::.int .u8 0::.int .i64 0::.int .i64 0::.int .i64 0::.int .u8 0::.bool false::.bool false::.ro 0 0 true (fun _ _=>.top)::[]),.lit 61 (.int .u8 e.Cat::.int .i64 e.At::.int .u8 e.Frame.Head.Kind::.int .u8 e.Frame.Head.Sub::.bool e.Frame.Head.ToDs::.bool e.Frame.Head.FromDs::.bool e.Frame.Head.More::.bool e.Frame.Head.Retry::.bool e.Frame.Head.Sleep::.bool e.Frame.Head.MoreData::.bool e.Frame.Head.Protected::.int .i64 e.Frame.Head.Duration::.int .u8 e.Frame.Head.A1.x0::.int .u8 e.Frame.Head.A1.x1::.int .u8 e.Frame.Head.A1.x2::.int .u8 e.Frame.Head.A1.x3::.int .u8 e.Frame.Head.A1.x4::.int .u8 e.Frame.Head.A1.x5::.int .u8 e.Frame.Head.A2.x0::.int .u8 e.Frame.Head.A2.x1::.int .u8 e.Frame.Head.A2.x2::.int .u8 e.Frame.Head.A2.x3::.int .u8 e.Frame.Head.A2.x4::.int .u8 e.Frame.Head.A2.x5::.int .u8 e.Frame.Head.A3.x0::.int .u8 e.Frame.Head.A3.x1::.int .u8 e.Frame.Head.A3.x2::.int .u8 e.Frame.Head.A3.x3::.int .u8 e.Frame.Head.A3.x4::.int .u8 e.Frame.Head.A3.x5::.int .u8 e.Frame.Head.A4.x0::.int .u8 e.Frame.Head.A4.x1::.int .u8 e.Frame.Head.A4.x2::.int .u8 e.Frame.Head.A4.x3::.int .u8 e.Frame.Head.A4.x4::.int .u8 e.Frame.Head.A4.x5::.int .i64 e.Frame.Head.Seq::.int .i64 e.Frame.Head.Frag::.int .i64 e.Frame.Head.Tid::.int .u8 e.Frame.Head.Ack::.bool e.Frame.Head.Amsdu::.bool e.Frame.Head.Eosp::.ro 1 e.Frame.Body.length false (enR xM e.Frame.Body)::[])]) H ?_ (fun s o H hn1_1 hn2_1=>?_) (fun w1_5 H=>?_)
   ·refine zT ⟨[some 0,some 1,some 2,some 3,some 4,some 5,some 6,some 7,some 8],?_,?_,by rfl,by rfl⟩
    ·simp [CvL,Cv,zX,tp]
    ·exact ⟨zD,cv,cv,cv,(jA (i:=r5.1.toNat) (L:=r8.List) zH (fun x y hx=>by simp only [xG hx]) (fun y hy=>match y,hy with|0,_=>by simp [yH,zL,Cv,enR,zC]|1,_=>by simp [yH,zL,Cv,enR,zC]|2,_=>by simp [yH,zL,Cv,zX,enR,zC]|(y+3),h=>absurd h nlt)),(zW nfA),(zW nfA),cv,cv,trivial⟩
   ·obtain ⟨v1_1,v1_2⟩:=s
    unfold F23_L1 at H
    delta eF at H
    try dsimp only at H ⊢
    try simp only [tp]
    refine zK ?_
    refine sq zA ?_
    simp only [go_sem,Nat.reduceAdd]
    repeat ((with_reducible refine aI ?_ ?_);exact an0)
    refine condM' rfl trivial (fun hc=>?_) (fun hc=>?_)
    ·have hk15:(bLt v1_1 (((gd r8.List r5.1.toNat).Held).length:Nat))=false:=by simpa using hc
     replace H:=zZ hc H
     refine rg zA ?_
     simp only [go_sem]
     refine ⟨_,(Option.some.inj H).symm,?_⟩
     refine zT ⟨[some 0,some 1,some 2,some 3,some 4,some 5,some 6,some 7,some 8],?_,?_,by rfl,by rfl⟩
     ·simp [CvL,Cv,zX]
     ·exact ⟨zD,cv,cv,cv,(jA (i:=r5.1.toNat) (L:=r8.List) zH (fun x y hx=>by simp only [xG hx]) (fun y hy=>match y,hy with|0,_=>by simp [yH,zL,Cv,enR,zC]|1,_=>by simp [yH,zL,Cv,enR,zC]|2,_=>by simp [yH,zL,Cv,zX,enR,zC]|(y+3),h=>absurd h nlt)),(zW nfA),(zW nfA),cv,cv,trivial⟩
    have hk15:(bLt v1_1 (((gd r8.List r5.1.toNat).Held).length:Nat))=true:=by simpa using hc
    replace H:=yA hc H
    refine rg zA ?_
    simp only [go_sem]
    refine zK ?_
    refine wN ?_
    refine zK ?_
    obtain ⟨f16,H⟩:=nI H
    obtain ⟨r17,e18,H⟩:=bsi H
    refine vS zQ ct23t3_ok (by kernel_rfl) (by kernel_rfl) ?_
    simp only [go_sem,Nat.reduceLT,Nat.reduceAdd,ct23t3_56,body56,f16,e18]
    repeat ((with_reducible refine aI ?_ ?_);exact an0)
    refine condM' rfl trivial (fun hc=>?_) (fun hc=>?_)
    ·have hk19:(bLt 0 r17)=false:=by simpa using hc
     replace H:=zZ hc H
     refine rg zA ?_
     simp only [go_sem]
     refine rg zA ?_
     simp only [go_sem]
     refine ⟨_,(Option.some.inj H).symm,?_⟩
     refine zT ⟨[some 0,some 1,some 2,some 3,some 4,some 5,some 6,some 7,some 8],?_,?_,by rfl,by rfl⟩
     ·simp [CvL,Cv,zX]
     ·exact ⟨zD,cv,cv,cv,(jA (i:=r5.1.toNat) (L:=r8.List) zH (fun x y hx=>by simp only [xG hx]) (fun y hy=>match y,hy with|0,_=>by simp [yH,zL,Cv,enR,zC]|1,_=>by simp [yH,zL,Cv,enR,zC]|2,_=>by simp [yH,zL,Cv,zX,enR,zC]|(y+3),h=>absurd h nlt)),(zW nfA),(zW nfA),cv,cv,trivial⟩
    have hk19:(bLt 0 r17)=true:=by simpa using hc
    replace H:=yA hc H
    obtain ⟨f20,H⟩:=nI H
    refine rg zA ?_
    simp only [go_sem,Nat.reduceLT,Nat.reduceAdd,f20]
    repeat ((with_reducible refine aI ?_ ?_);exact an5)
    refine rg zA ?_
    simp only [go_sem]
    refine ⟨_,(Option.some.inj H).symm,?_⟩
    refine zT ⟨[some 0,some 1,some 2,some 3,some 4,some 5,some 6,some 7,some 8],?_,?_,by rfl,by rfl⟩
    ·simp [CvL,Cv,zX]
    ·exact ⟨zD,cv,cv,cv,(jA (i:=r5.1.toNat) (L:=r8.List) zH (fun x y hx=>by simp only [xG hx]) (fun y hy=>match y,hy with|0,_=>by simp [yH,zL,Cv,enR,zC]|1,_=>by simp [yH,zL,Cv,enR,zC]|2,_=>by simp [yH,zL,Cv,zX,enR,zC]|(y+3),h=>absurd h nlt)),(zW nfA),(zW nfA),cv,cv,trivial⟩
   ·try dsimp only at H ⊢
    try simp only [tp]
    try simp only [xS]
    refine sq zA ?_
    simp only [go_sem,Nat.reduceLT,Nat.reduceAdd]
    repeat ((with_reducible refine aI ?_ ?_);exact an5)
    refine rg zA ?_
    simp only [go_sem,Nat.reduceLT,Nat.reduceAdd]
    refine xQ zQ zA 3 ?_
    simp only [zM,tS,tZ,dS,dZ,go_sem,Nat.reduceLeDiff,Nat.reduceLT,Nat.reduceAdd]
    repeat ((with_reducible refine aI ?_ ?_);exact an0)
    refine wS ?_
    refine zK ?_
    obtain ⟨r21,e22,H⟩:=bsi H
    refine rg ct23t4_ok ?_
    simp only [go_sem,Nat.reduceLT,Nat.reduceAdd,Nat.reduceSub,yH,ct23t4_58,fZ,e22]
    repeat ((with_reducible refine aI ?_ ?_);exact an0)
    refine zK ?_
    obtain ⟨f23,H⟩:=nI H
    refine rg zA ?_
    simp only [go_sem,Nat.reduceLT,Nat.reduceAdd,Nat.reduceSub,reduceCtorEq,yH,f23]
    repeat ((with_reducible refine aI ?_ ?_);exact an5)
    refine zK ?_
    obtain ⟨f24,H⟩:=yT.1 H
    replace f24:=delb_iff.1 f24
    refine rg ct23t5_ok ?_
    simp only [go_sem,Nat.reduceLT,Nat.reduceAdd,Nat.reduceSub,yH,ct23t5_60,delN,f24]
    repeat ((with_reducible refine aI ?_ ?_);exact an0)
    refine zK ?_
    obtain ⟨w25,hw26,H⟩:=bsj H
    have lhw26:w25.length=((gd r8.List r5.1.toNat).Held).length - ((wr .i64 (r21+1)).toNat - r21.toNat):=by rw [← hw26];exact (del_len f24 cl)
    refine vO (t2:=(tp 4 (.ptr 1 0 0 0::.ptr 2 0 0 0::.top::.ptr 3 0 0 0::.ptr 4 3 r5.1.toNat 0::tp 75 []))) (h2:=[.dead,.lit 33 (.int .u8 ((((gd ((gd r8.List r5.1.toNat).Held) r21.toNat).Frame).Head).Kind)::.int .u8 ((((gd ((gd r8.List r5.1.toNat).Held) r21.toNat).Frame).Head).Sub)::.bool ((((gd ((gd r8.List r5.1.toNat).Held) r21.toNat).Frame).Head).ToDs)::.bool ((((gd ((gd r8.List r5.1.toNat).Held) r21.toNat).Frame).Head).FromDs)::.bool ((((gd ((gd r8.List r5.1.toNat).Held) r21.toNat).Frame).Head).More)::.bool ((((gd ((gd r8.List r5.1.toNat).Held) r21.toNat).Frame).Head).Retry)::.bool ((((gd ((gd r8.List r5.1.toNat).Held) r21.toNat).Frame).Head).Sleep)::.bool ((((gd ((gd r8.List r5.1.toNat).Held) r21.toNat).Frame).Head).MoreData)::.bool ((((gd ((gd r8.List r5.1.toNat).Held) r21.toNat).Frame).Head).Protected)::.int .i64 ((((gd ((gd r8.List r5.1.toNat).Held) r21.toNat).Frame).Head).Duration)::.int .u8 (((((gd ((gd r8.List r5.1.toNat).Held) r21.toNat).Frame).Head).A1).x0)::.int .u8 (((((gd ((gd r8.List r5.1.toNat).Held) r21.toNat).Frame).Head).A1).x1)::.int .u8 (((((gd ((gd r8.List r5.1.toNat).Held) r21.toNat).Frame).Head).A1).x2)::.int .u8 (((((gd ((gd r8.List r5.1.toNat).Held) r21.toNat).Frame).Head).A1).x3)::.int .u8 (((((gd ((gd r8.List r5.1.toNat).Held) r21.toNat).Frame).Head).A1).x4)::.int .u8 (((((gd ((gd r8.List r5.1.toNat).Held) r21.toNat).Frame).Head).A1).x5)::.int .u8 (((((gd ((gd r8.List r5.1.toNat).Held) r21.toNat).Frame).Head).A2).x0)::.int .u8 (((((gd ((gd r8.List r5.1.toNat).Held) r21.toNat).Frame).Head).A2).x1)::.int .u8 (((((gd ((gd r8.List r5.1.toNat).Held) r21.toNat).Frame).Head).A2).x2)::.int .u8 (((((gd ((gd r8.List r5.1.toNat).Held) r21.toNat).Frame).Head).A2).x3)::.int .u8 (((((gd ((gd r8.List r5.1.toNat).Held) r21.toNat).Frame).Head).A2).x4)::.int .u8 (((((gd ((gd r8.List r5.1.toNat).Held) r21.toNat).Frame).Head).A2).x5)::.int .u8 (((((gd ((gd r8.List r5.1.toNat).Held) r21.toNat).Frame).Head).A3).x0)::.int .u8 (((((gd ((gd r8.List r5.1.toNat).Held) r21.toNat).Frame).Head).A3).x1)::.int .u8 (((((gd ((gd r8.List r5.1.toNat).Held) r21.toNat).Frame).Head).A3).x2)::.int .u8 (((((gd ((gd r8.List r5.1.toNat).Held) r21.toNat).Frame).Head).A3).x3)::.int .u8 (((((gd ((gd r8.List r5.1.toNat).Held) r21.toNat).Frame).Head).A3).x4)::.int .u8 (((((gd ((gd r8.List r5.1.toNat).Held) r21.toNat).Frame).Head).A3).x5)::.int .u8 (((((gd ((gd r8.List r5.1.toNat).Held) r21.toNat).Frame).Head).A4).x0)::.int .u8 (((((gd ((gd r8.List r5.1.toNat).Held) r21.toNat).Frame).Head).A4).x1)::.int .u8 (((((gd ((gd r8.List r5.1.toNat).Held) r21.toNat).Frame).Head).A4).x2)::.int .u8 (((((gd ((gd r8.List r5.1.toNat).Held) r21.toNat).Frame).Head).A4).x3)::.int .u8 (((((gd ((gd r8.List r5.1.toNat).Held) r21.toNat).Frame).Head).A4).x4)::.int .u8 (((((gd ((gd r8.List r5.1.toNat).Held) r21.toNat).Frame).Head).A4).x5)::.int .i64 ((((gd ((gd r8.List r5.1.toNat).Held) r21.toNat).Frame).Head).Seq)::.int .i64 ((((gd ((gd r8.List r5.1.toNat).Held) r21.toNat).Frame).Head).Frag)::.int .i64 ((((gd ((gd r8.List r5.1.toNat).Held) r21.toNat).Frame).Head).Tid)::.int .u8 ((((gd ((gd r8.List r5.1.toNat).Held) r21.toNat).Frame).Head).Ack)::.bool ((((gd ((gd r8.List r5.1.toNat).Held) r21.toNat).Frame).Head).Amsdu)::.bool ((((gd ((gd r8.List r5.1.toNat).Held) r21.toNat).Frame).Head).Eosp)::.ro 1 ((((gd ((gd r8.List r5.1.toNat).Held) r21.toNat).Frame).Body).length) false (enR xM (((gd ((gd r8.List r5.1.toNat).Held) r21.toNat).Frame).Body))::[]),.lit 25 [.int .i64 0,.int .i64 0,.ro 0 0 true (fun _ _=>.top),.ro 0 0 true (fun _ _=>.top)],.lit 25 [.int .i64 r8.Limit,.int .i64 r8.Stay,.sl 4 3 0 r8.List.length false,.sl 6 43 0 r8.Group.length false],.row 57 3 r8.List.length (upc (enR zC r8.List) r5.1.toNat 0 [.int .i64 ((gd r8.List r5.1.toNat).Aid),.bool ((gd r8.List r5.1.toNat).Asleep),.sl 10 43 0 w25.length false]),.dead,.row 61 43 r8.Group.length (enR zE r8.Group),.lit 61 (.int .u8 w1_5.Cat::.int .i64 w1_5.At::.int .u8 w1_5.Frame.Head.Kind::.int .u8 w1_5.Frame.Head.Sub::.bool w1_5.Frame.Head.ToDs::.bool w1_5.Frame.Head.FromDs::.bool w1_5.Frame.Head.More::.bool w1_5.Frame.Head.Retry::.bool w1_5.Frame.Head.Sleep::.bool w1_5.Frame.Head.MoreData::.bool w1_5.Frame.Head.Protected::.int .i64 w1_5.Frame.Head.Duration::.int .u8 w1_5.Frame.Head.A1.x0::.int .u8 w1_5.Frame.Head.A1.x1::.int .u8 w1_5.Frame.Head.A1.x2::.int .u8 w1_5.Frame.Head.A1.x3::.int .u8 w1_5.Frame.Head.A1.x4::.int .u8 w1_5.Frame.Head.A1.x5::.int .u8 w1_5.Frame.Head.A2.x0::.int .u8 w1_5.Frame.Head.A2.x1::.int .u8 w1_5.Frame.Head.A2.x2::.int .u8 w1_5.Frame.Head.A2.x3::.int .u8 w1_5.Frame.Head.A2.x4::.int .u8 w1_5.Frame.Head.A2.x5::.int .u8 w1_5.Frame.Head.A3.x0::.int .u8 w1_5.Frame.Head.A3.x1::.int .u8 w1_5.Frame.Head.A3.x2::.int .u8 w1_5.Frame.Head.A3.x3::.int .u8 w1_5.Frame.Head.A3.x4::.int .u8 w1_5.Frame.Head.A3.x5::.int .u8 w1_5.Frame.Head.A4.x0::.int .u8 w1_5.Frame.Head.A4.x1::.int .u8 w1_5.Frame.Head.A4.x2::.int .u8 w1_5.Frame.Head.A4.x3::.int .u8 w1_5.Frame.Head.A4.x4::.int .u8 w1_5.Frame.Head.A4.x5::.int .i64 w1_5.Frame.Head.Seq::.int .i64 w1_5.Frame.Head.Frag::.int .i64 w1_5.Frame.Head.Tid::.int .u8 w1_5.Frame.Head.Ack::.bool w1_5.Frame.Head.Amsdu::.bool w1_5.Frame.Head.Eosp::.ro 1 w1_5.Frame.Body.length false (enR xM w1_5.Frame.Body)::[]),.lit 61 (.int .u8 w1_5.Cat::.int .i64 w1_5.At::.int .u8 w1_5.Frame.Head.Kind::.int .u8 w1_5.Frame.Head.Sub::.bool w1_5.Frame.Head.ToDs::.bool w1_5.Frame.Head.FromDs::.bool w1_5.Frame.Head.More::.bool w1_5.Frame.Head.Retry::.bool w1_5.Frame.Head.Sleep::.bool w1_5.Frame.Head.MoreData::.bool w1_5.Frame.Head.Protected::.int .i64 w1_5.Frame.Head.Duration::.int .u8 w1_5.Frame.Head.A1.x0::.int .u8 w1_5.Frame.Head.A1.x1::.int .u8 w1_5.Frame.Head.A1.x2::.int .u8 w1_5.Frame.Head.A1.x3::.int .u8 w1_5.Frame.Head.A1.x4::.int .u8 w1_5.Frame.Head.A1.x5::.int .u8 w1_5.Frame.Head.A2.x0::.int .u8 w1_5.Frame.Head.A2.x1::.int .u8 w1_5.Frame.Head.A2.x2::.int .u8 w1_5.Frame.Head.A2.x3::.int .u8 w1_5.Frame.Head.A2.x4::.int .u8 w1_5.Frame.Head.A2.x5::.int .u8 w1_5.Frame.Head.A3.x0::.int .u8 w1_5.Frame.Head.A3.x1::.int .u8 w1_5.Frame.Head.A3.x2::.int .u8 w1_5.Frame.Head.A3.x3::.int .u8 w1_5.Frame.Head.A3.x4::.int .u8 w1_5.Frame.Head.A3.x5::.int .u8 w1_5.Frame.Head.A4.x0::.int .u8 w1_5.Frame.Head.A4.x1::.int .u8 w1_5.Frame.Head.A4.x2::.int .u8 w1_5.Frame.Head.A4.x3::.int .u8 w1_5.Frame.Head.A4.x4::.int .u8 w1_5.Frame.Head.A4.x5::.int .i64 w1_5.Frame.Head.Seq::.int .i64 w1_5.Frame.Head.Frag::.int .i64 w1_5.Frame.Head.Tid::.int .u8 w1_5.Frame.Head.Ack::.bool w1_5.Frame.Head.Amsdu::.bool w1_5.Frame.Head.Eosp::.ro 1 w1_5.Frame.Body.length false (enR xM w1_5.Frame.Body)::[]),.lit 5 [.int .u8 w1_5.Cat],.row 61 43 w25.length (enR zE w25)]) ?_ ?_
    ·refine zT ⟨[some 0,some 1,some 2,some 3,some 4,some 5,some 6,some 7,some 8,some 9,some 10],?_,?_,by rfl,by rfl⟩
     ·simp [CvL,Cv,zX,tp]
     ·exact ⟨zD,(by simp [CvB,CvL,Cv,xH,geth]),(by simp [CvB,CvL,Cv,xH,geth]),(by simp [CvB,CvL,Cv,xH,geth,zX]),(bR (i:=r5.1.toNat) (L:=r8.List) zH (fun x y hx=>by simp only [xG hx]) (fun x y hx=>by simp only [xG hx]) (fun y hy=>match y,hy with|0,_=>by simp [yH,zL,Cv,enR,zC,lhw26]|1,_=>by simp [yH,zL,Cv,enR,zC,lhw26]|2,_=>by simp [yH,zL,Cv,zX,enR,zC,lhw26]|(y+3),h=>absurd h nlt)),zD,zS zV rfl (fun _ _ _ _=>rfl),(by simp [CvB,CvL,Cv,xH,geth]),(by simp [CvB,CvL,Cv,xH,geth]),(by simp [CvB,CvL,Cv,xH,geth]),zS zV lhw26 (hw26 ▸ (del_row f24 cl (fun _ _ _ _=>rfl))),trivial⟩
    simp only [tp]
    refine rg zA ?_
    simp only [go_sem,Nat.reduceLeDiff,Nat.reduceLT,Nat.reduceAdd,Nat.reduceSub,reduceCtorEq,yH]
    repeat ((with_reducible refine aI ?_ ?_);exact an0)
    refine zK ?_
    refine yL zQ zA 0 (by kernel_rfl) (by kernel_rfl) ?_
    intro an han
    simp only [wK,xR,vL,xrD,xoD,vM,wY,List.append_nil,xA,refs,mask,xZ,place,xI,wA,xK,hit,inL,xD,nrH,nrB,nrL,nr,rZ,Nat.sub_self,Nat.add_zero,Nat.zero_add,Nat.reduceSub,Nat.lt_add_one,go_sem,Nat.reduceLeDiff,Nat.reduceLT,Nat.reduceAdd,Nat.reduceSub,Nat.reduceBEq]
    repeat ((with_reducible refine aI ?_ ?_);exact an4)
    refine cN [10] [4] ?_ ?_
    ·simp only [go_sem,Nat.reduceBEq,Nat.reduceAdd,kV,fzObB2]
     first|exact (fT (L:=r8.List) (i:=r5.1.toNat) (fun a y=>yB (zH a) y) (fun x y hx=>by simp only [xG hx]) (fun y hy=>match y,hy with|0,_=>(by (simp [yH,zL,xP,inL,geth,vW,enR,zC];all_goals (first|(with_reducible trivial)|(intros;exact yB (NRf.h _) _)|(intros;exact nfc))))|1,_=>(by (simp [yH,zL,xP,inL,geth,vW,enR,zC];all_goals (first|(with_reducible trivial)|(intros;exact yB (NRf.h _) _)|(intros;exact nfc))))|2,_=>(by (simp [yH,zL,xP,inL,geth,vW,enR,zC];all_goals (first|(with_reducible trivial)|(intros;exact yB (NRf.h _) _)|(intros;exact nfc))))|(y+3),h=>absurd h nlt))|(and_intros<;>first|exact (fT (L:=r8.List) (i:=r5.1.toNat) (fun a y=>yB (zH a) y) (fun x y hx=>by simp only [xG hx]) (fun y hy=>match y,hy with|0,_=>(by (simp [yH,zL,xP,enR,zC];all_goals (first|(with_reducible trivial)|(intros;exact yB (NRf.h _) _)|(intros;exact nfc))))|1,_=>(by (simp [yH,zL,xP,enR,zC];all_goals (first|(with_reducible trivial)|(intros;exact yB (NRf.h _) _)|(intros;exact nfc))))|2,_=>(by (simp [yH,zL,xP,inL,geth,vW,enR,zC];all_goals (first|(with_reducible trivial)|(intros;exact yB (NRf.h _) _)|(intros;exact nfc))))|(y+3),h=>absurd h nlt))|(with_reducible trivial)|omega|exact nfc|trivial)
    simp only [go_sem,Nat.reduceBEq,Nat.reduceAdd,fzH2,eN,fzB2]
    obtain ⟨w27,hw28,H⟩:=bsj H
    have lhw28:w27.length=r8.List.length:=by rw [← hw28];exact (by simp only [List.length_set])
    refine vO (t2:=(tp 4 (.ptr 1 0 0 0::.ptr 2 0 0 0::.int .i64 0::tp 77 []))) (h2:=[.dead,.lit 33 (.int .u8 ((((gd ((gd r8.List r5.1.toNat).Held) r21.toNat).Frame).Head).Kind)::.int .u8 ((((gd ((gd r8.List r5.1.toNat).Held) r21.toNat).Frame).Head).Sub)::.bool ((((gd ((gd r8.List r5.1.toNat).Held) r21.toNat).Frame).Head).ToDs)::.bool ((((gd ((gd r8.List r5.1.toNat).Held) r21.toNat).Frame).Head).FromDs)::.bool ((((gd ((gd r8.List r5.1.toNat).Held) r21.toNat).Frame).Head).More)::.bool ((((gd ((gd r8.List r5.1.toNat).Held) r21.toNat).Frame).Head).Retry)::.bool ((((gd ((gd r8.List r5.1.toNat).Held) r21.toNat).Frame).Head).Sleep)::.bool (bLt 0 (w25.length:Nat))::.bool ((((gd ((gd r8.List r5.1.toNat).Held) r21.toNat).Frame).Head).Protected)::.int .i64 ((((gd ((gd r8.List r5.1.toNat).Held) r21.toNat).Frame).Head).Duration)::.int .u8 (((((gd ((gd r8.List r5.1.toNat).Held) r21.toNat).Frame).Head).A1).x0)::.int .u8 (((((gd ((gd r8.List r5.1.toNat).Held) r21.toNat).Frame).Head).A1).x1)::.int .u8 (((((gd ((gd r8.List r5.1.toNat).Held) r21.toNat).Frame).Head).A1).x2)::.int .u8 (((((gd ((gd r8.List r5.1.toNat).Held) r21.toNat).Frame).Head).A1).x3)::.int .u8 (((((gd ((gd r8.List r5.1.toNat).Held) r21.toNat).Frame).Head).A1).x4)::.int .u8 (((((gd ((gd r8.List r5.1.toNat).Held) r21.toNat).Frame).Head).A1).x5)::.int .u8 (((((gd ((gd r8.List r5.1.toNat).Held) r21.toNat).Frame).Head).A2).x0)::.int .u8 (((((gd ((gd r8.List r5.1.toNat).Held) r21.toNat).Frame).Head).A2).x1)::.int .u8 (((((gd ((gd r8.List r5.1.toNat).Held) r21.toNat).Frame).Head).A2).x2)::.int .u8 (((((gd ((gd r8.List r5.1.toNat).Held) r21.toNat).Frame).Head).A2).x3)::.int .u8 (((((gd ((gd r8.List r5.1.toNat).Held) r21.toNat).Frame).Head).A2).x4)::.int .u8 (((((gd ((gd r8.List r5.1.toNat).Held) r21.toNat).Frame).Head).A2).x5)::.int .u8 (((((gd ((gd r8.List r5.1.toNat).Held) r21.toNat).Frame).Head).A3).x0)::.int .u8 (((((gd ((gd r8.List r5.1.toNat).Held) r21.toNat).Frame).Head).A3).x1)::.int .u8 (((((gd ((gd r8.List r5.1.toNat).Held) r21.toNat).Frame).Head).A3).x2)::.int .u8 (((((gd ((gd r8.List r5.1.toNat).Held) r21.toNat).Frame).Head).A3).x3)::.int .u8 (((((gd ((gd r8.List r5.1.toNat).Held) r21.toNat).Frame).Head).A3).x4)::.int .u8 (((((gd ((gd r8.List r5.1.toNat).Held) r21.toNat).Frame).Head).A3).x5)::.int .u8 (((((gd ((gd r8.List r5.1.toNat).Held) r21.toNat).Frame).Head).A4).x0)::.int .u8 (((((gd ((gd r8.List r5.1.toNat).Held) r21.toNat).Frame).Head).A4).x1)::.int .u8 (((((gd ((gd r8.List r5.1.toNat).Held) r21.toNat).Frame).Head).A4).x2)::.int .u8 (((((gd ((gd r8.List r5.1.toNat).Held) r21.toNat).Frame).Head).A4).x3)::.int .u8 (((((gd ((gd r8.List r5.1.toNat).Held) r21.toNat).Frame).Head).A4).x4)::.int .u8 (((((gd ((gd r8.List r5.1.toNat).Held) r21.toNat).Frame).Head).A4).x5)::.int .i64 ((((gd ((gd r8.List r5.1.toNat).Held) r21.toNat).Frame).Head).Seq)::.int .i64 ((((gd ((gd r8.List r5.1.toNat).Held) r21.toNat).Frame).Head).Frag)::.int .i64 ((((gd ((gd r8.List r5.1.toNat).Held) r21.toNat).Frame).Head).Tid)::.int .u8 ((((gd ((gd r8.List r5.1.toNat).Held) r21.toNat).Frame).Head).Ack)::.bool ((((gd ((gd r8.List r5.1.toNat).Held) r21.toNat).Frame).Head).Amsdu)::.bool ((((gd ((gd r8.List r5.1.toNat).Held) r21.toNat).Frame).Head).Eosp)::.ro 1 ((((gd ((gd r8.List r5.1.toNat).Held) r21.toNat).Frame).Body).length) false (enR xM (((gd ((gd r8.List r5.1.toNat).Held) r21.toNat).Frame).Body))::[]),.lit 25 [.int .i64 r8.Limit,.int .i64 r8.Stay,.sl 4 3 0 w27.length false,.sl 6 43 0 r8.Group.length false],.lit 25 [.int .i64 r8.Limit,.int .i64 r8.Stay,.sl 4 3 0 w27.length false,.sl 6 43 0 r8.Group.length false],.row 57 3 w27.length (enR zC w27),.dead,.row 61 43 r8.Group.length (enR zE r8.Group),.lit 61 (.int .u8 w1_5.Cat::.int .i64 w1_5.At::.int .u8 w1_5.Frame.Head.Kind::.int .u8 w1_5.Frame.Head.Sub::.bool w1_5.Frame.Head.ToDs::.bool w1_5.Frame.Head.FromDs::.bool w1_5.Frame.Head.More::.bool w1_5.Frame.Head.Retry::.bool w1_5.Frame.Head.Sleep::.bool w1_5.Frame.Head.MoreData::.bool w1_5.Frame.Head.Protected::.int .i64 w1_5.Frame.Head.Duration::.int .u8 w1_5.Frame.Head.A1.x0::.int .u8 w1_5.Frame.Head.A1.x1::.int .u8 w1_5.Frame.Head.A1.x2::.int .u8 w1_5.Frame.Head.A1.x3::.int .u8 w1_5.Frame.Head.A1.x4::.int .u8 w1_5.Frame.Head.A1.x5::.int .u8 w1_5.Frame.Head.A2.x0::.int .u8 w1_5.Frame.Head.A2.x1::.int .u8 w1_5.Frame.Head.A2.x2::.int .u8 w1_5.Frame.Head.A2.x3::.int .u8 w1_5.Frame.Head.A2.x4::.int .u8 w1_5.Frame.Head.A2.x5::.int .u8 w1_5.Frame.Head.A3.x0::.int .u8 w1_5.Frame.Head.A3.x1::.int .u8 w1_5.Frame.Head.A3.x2::.int .u8 w1_5.Frame.Head.A3.x3::.int .u8 w1_5.Frame.Head.A3.x4::.int .u8 w1_5.Frame.Head.A3.x5::.int .u8 w1_5.Frame.Head.A4.x0::.int .u8 w1_5.Frame.Head.A4.x1::.int .u8 w1_5.Frame.Head.A4.x2::.int .u8 w1_5.Frame.Head.A4.x3::.int .u8 w1_5.Frame.Head.A4.x4::.int .u8 w1_5.Frame.Head.A4.x5::.int .i64 w1_5.Frame.Head.Seq::.int .i64 w1_5.Frame.Head.Frag::.int .i64 w1_5.Frame.Head.Tid::.int .u8 w1_5.Frame.Head.Ack::.bool w1_5.Frame.Head.Amsdu::.bool w1_5.Frame.Head.Eosp::.ro 1 w1_5.Frame.Body.length false (enR xM w1_5.Frame.Body)::[]),.lit 61 (.int .u8 w1_5.Cat::.int .i64 w1_5.At::.int .u8 w1_5.Frame.Head.Kind::.int .u8 w1_5.Frame.Head.Sub::.bool w1_5.Frame.Head.ToDs::.bool w1_5.Frame.Head.FromDs::.bool w1_5.Frame.Head.More::.bool w1_5.Frame.Head.Retry::.bool w1_5.Frame.Head.Sleep::.bool w1_5.Frame.Head.MoreData::.bool w1_5.Frame.Head.Protected::.int .i64 w1_5.Frame.Head.Duration::.int .u8 w1_5.Frame.Head.A1.x0::.int .u8 w1_5.Frame.Head.A1.x1::.int .u8 w1_5.Frame.Head.A1.x2::.int .u8 w1_5.Frame.Head.A1.x3::.int .u8 w1_5.Frame.Head.A1.x4::.int .u8 w1_5.Frame.Head.A1.x5::.int .u8 w1_5.Frame.Head.A2.x0::.int .u8 w1_5.Frame.Head.A2.x1::.int .u8 w1_5.Frame.Head.A2.x2::.int .u8 w1_5.Frame.Head.A2.x3::.int .u8 w1_5.Frame.Head.A2.x4::.int .u8 w1_5.Frame.Head.A2.x5::.int .u8 w1_5.Frame.Head.A3.x0::.int .u8 w1_5.Frame.Head.A3.x1::.int .u8 w1_5.Frame.Head.A3.x2::.int .u8 w1_5.Frame.Head.A3.x3::.int .u8 w1_5.Frame.Head.A3.x4::.int .u8 w1_5.Frame.Head.A3.x5::.int .u8 w1_5.Frame.Head.A4.x0::.int .u8 w1_5.Frame.Head.A4.x1::.int .u8 w1_5.Frame.Head.A4.x2::.int .u8 w1_5.Frame.Head.A4.x3::.int .u8 w1_5.Frame.Head.A4.x4::.int .u8 w1_5.Frame.Head.A4.x5::.int .i64 w1_5.Frame.Head.Seq::.int .i64 w1_5.Frame.Head.Frag::.int .i64 w1_5.Frame.Head.Tid::.int .u8 w1_5.Frame.Head.Ack::.bool w1_5.Frame.Head.Amsdu::.bool w1_5.Frame.Head.Eosp::.ro 1 w1_5.Frame.Body.length false (enR xM w1_5.Frame.Body)::[]),.lit 5 [.int .u8 w1_5.Cat],.dead]) ?_ ?_
    ·refine zT ⟨[some 0,some 1,some 2,some 3,some 4,some 5,some 6,some 7,some 8,some 9,some 10],?_,?_,by rfl,by rfl⟩
     ·simp [CvL,Cv,zX,tp]
     ·exact ⟨zD,(by simp [CvB,CvL,Cv,xH,geth]),(by simp [CvB,CvL,Cv,xH,geth,zX,lhw28]),(by simp [CvB,CvL,Cv,xH,geth,zX,lhw28]),zS zH lhw28 (hw28 ▸ (foc_row (L:=r8.List) (i:=r5.1.toNat) (fun a y=>yB (zH a) y) (fun x y hx=>by simp only [xG hx]) (fun y hy=>match y,hy with|0,_=>by simp [yH,zL,fzV,enR,zC]|1,_=>by simp [yH,zL,fzV,enR,zC]|2,_=>by simp [yH,zL,fzV,inL,geth,enR,zC,eV]|(y+3),h=>absurd h nlt))),zD,zS zV rfl (fun _ _ _ _=>rfl),(by simp [CvB,CvL,Cv,xH,geth]),(by simp [CvB,CvL,Cv,xH,geth]),(by simp [CvB,CvL,Cv,xH,geth]),zD,trivial⟩
    simp only [tp]
    refine rg zA ?_
    simp only [go_sem,Nat.reduceLT,Nat.reduceAdd]
    obtain rfl:=Option.some.inj H
    refine ⟨[4,6,1,2,3,7,8,9],?_,?_,[],?_,?_,rfl⟩
    ·simp only [go_sem,Nat.reduceBEq]
     try exact at0
    ·simp only [go_sem,Nat.reduceBEq]
     try exact at0
    ·simp only [go_sem,Nat.reduceBEq]
     exact yY (zB (yV (zB zF (zB zF (zB yU (zB yU (zB yU (zB yU (zB yU (zB yU (zB yU (zB zF (zB zF (zB zF (zB zF (zB zF (zB zF (zB zF (zB zF (zB zF (zB zF (zB zF (zB zF (zB zF (zB zF (zB zF (zB zF (zB zF (zB zF (zB zF (zB zF (zB zF (zB zF (zB zF (zB zF (zB zF (zB zF (zB zF (zB zF (zB zF (zB yU (zB yU (zB (vZ (by simp only [nref])) zO)))))))))))))))))))))))))))))))))))))))))) (zB (yV (zB zF (zB zF (zB (xN (by first|rfl|simp) (fun _ _ _ _=>rfl)) (zB (xN (by first|rfl|simp) (fun _ _ _ _=>rfl)) zO))))) (zB zF zO)))
    ·simp only [go_sem,CvH]
  ·cases hb
 ·unfold fM at hb
  split at hb<;>cases hb
noncomputable def F38 (p0:TFrame):Option (Int) :=
 bif (!bEq (p0.Body.length:Nat) 2) then (some (-1)) else (need (inb 0 p0.Body.length) <| need (inb 1 p0.Body.length) <| some (orI .i64 (shlI .i64 (wr .i64 (gd p0.Body 0)) 8) (wr .i64 (gd p0.Body 1))))
noncomputable def gE:List AV->AR
 | [v0]=>.pure (aK 41 vT v0/\(F38 (zU (aL v0))).isSome=true) (.int .i64 (gt (F38 (zU (aL v0)))))
 | _=>.fail
theorem ok38:wM Try.prog 38 (yF gE):=by
 refine wE gE (rs:=[.tmp 2]) Try.func38 (by kernel_rfl) rfl rfl ?_
 intro l ob v hb hob
 unfold gE at hb
 split at hb
 ·rename_i v0
  injection hb with q1 q2;subst q1 q2
  obtain ⟨hk0_0,hob⟩:=hob
  obtain ⟨r,H⟩:=oE.1 hob
  rw [H,yQ]
  have hw0:=gC hk0_0
  generalize zU (aL v0)=p0 at H hw0
  refine ⟨[.agg (.int .u8 p0.Head.Kind::.int .u8 p0.Head.Sub::.bool p0.Head.ToDs::.bool p0.Head.FromDs::.bool p0.Head.More::.bool p0.Head.Retry::.bool p0.Head.Sleep::.bool p0.Head.MoreData::.bool p0.Head.Protected::.int .i64 p0.Head.Duration::.int .u8 p0.Head.A1.x0::.int .u8 p0.Head.A1.x1::.int .u8 p0.Head.A1.x2::.int .u8 p0.Head.A1.x3::.int .u8 p0.Head.A1.x4::.int .u8 p0.Head.A1.x5::.int .u8 p0.Head.A2.x0::.int .u8 p0.Head.A2.x1::.int .u8 p0.Head.A2.x2::.int .u8 p0.Head.A2.x3::.int .u8 p0.Head.A2.x4::.int .u8 p0.Head.A2.x5::.int .u8 p0.Head.A3.x0::.int .u8 p0.Head.A3.x1::.int .u8 p0.Head.A3.x2::.int .u8 p0.Head.A3.x3::.int .u8 p0.Head.A3.x4::.int .u8 p0.Head.A3.x5::.int .u8 p0.Head.A4.x0::.int .u8 p0.Head.A4.x1::.int .u8 p0.Head.A4.x2::.int .u8 p0.Head.A4.x3::.int .u8 p0.Head.A4.x4::.int .u8 p0.Head.A4.x5::.int .i64 p0.Head.Seq::.int .i64 p0.Head.Frag::.int .i64 p0.Head.Tid::.int .u8 p0.Head.Ack::.bool p0.Head.Amsdu::.bool p0.Head.Eosp::.ro 1 p0.Body.length false (enR xM p0.Body)::[])],_,(fun E vs F=>yO hw0.1 F (fun vs F=>F)),rfl,rfl,?_⟩
  rw [Try.ntmps38]
  simp only [lC,lN,Nat.reduceAdd,Nat.reduceSub,rS,rZ,aC,aN]
  unfold F38 at H
  try dsimp only at H
  refine sq zA ?_
  simp only [go_sem]
  refine zK ?_
  refine sq zA ?_
  simp only [go_sem,Nat.reduceLT,Nat.reduceAdd]
  repeat ((with_reducible refine aI ?_ ?_);exact an0)
  refine yM rfl trivial (fun hc=>?_) (fun hc=>?_)
  ·have hk1:(bEq (p0.Body.length:Nat) 2)=false:=by simpa using hc
   replace H:=yA hc H
   refine sq zA ?_
   simp only [go_sem]
   refine rg zA ?_
   simp only [go_sem]
   obtain rfl:=Option.some.inj H
   first|rfl|simp only [Bool.and_false,Bool.false_and,Bool.and_true,Bool.true_and]
  have hk1:(bEq (p0.Body.length:Nat) 2)=true:=by simpa using hc
  replace H:=zZ hc H
  refine rg zA ?_
  simp only [go_sem]
  refine zK ?_
  obtain ⟨f2,H⟩:=nI H
  obtain ⟨f3,H⟩:=nI H
  refine vS zQ zA (by kernel_rfl) (by kernel_rfl) ?_
  simp only [go_sem,Nat.reduceLT,Nat.reduceAdd,Int.reduceToNat,f2,f3]
  repeat ((with_reducible refine aI ?_ ?_);exact an5)
  refine rg zA ?_
  simp only [go_sem]
  obtain rfl:=Option.some.inj H
  first|rfl|simp only [Bool.and_false,Bool.false_and,Bool.and_true,Bool.true_and]
 ·cases hb
noncomputable def ct20t0:Ct:=tab [(12,xU fL)]
theorem ct20t0_ok:yZ Try.prog ct20t0:=zR ok12 <| zY
theorem ct20t0_12 (l:List AV) (h:List ABlk):ct20t0 12 l h=xU fL l h:=rfl
noncomputable def ct20t1:Ct:=tab [(40,xU fO)]
theorem ct20t1_ok:yZ Try.prog ct20t1:=zR ok40 <| zY
theorem ct20t1_40 (l:List AV) (h:List ABlk):ct20t1 40 l h=xU fO l h:=rfl
noncomputable def ct20t2:Ct:=tab [(50,xU fP)]
theorem ct20t2_ok:yZ Try.prog ct20t2:=zR ok50 <| zY
theorem ct20t2_50 (l:List AV) (h:List ABlk):ct20t2 50 l h=xU fP l h:=rfl
noncomputable def ct20t3:Ct:=tab [(24,frC (xU jI)),(37,edC qD)]
theorem ct20t3_ok:yZ Try.prog ct20t3:=zR (fr_ok ok24) <| zR ok37 <| zY
theorem ct20t3_24 (l:List AV) (h:List ABlk):ct20t3 24 l h=frC (xU jI) l h:=rfl
theorem ct20t3_37 (l:List AV) (h:List ABlk):ct20t3 37 l h=edC qD l h:=rfl
noncomputable def ct20t4:Ct:=tab [(23,xU fM)]
theorem ct20t4_ok:yZ Try.prog ct20t4:=zR ok23 <| zY
theorem ct20t4_23 (l:List AV) (h:List ABlk):ct20t4 23 l h=xU fM l h:=rfl
noncomputable def ct20t5:Ct:=tab [(38,yF gE)]
theorem ct20t5_ok:yZ Try.prog ct20t5:=zR ok38 <| zY
theorem ct20t5_38 (l:List AV) (h:List ABlk):ct20t5 38 l h=yF gE l h:=rfl
noncomputable def F20:Option (Bool) :=
 (F12 2 100).bind fun r1=>(F40 r1.1 7).bind fun r3=>(F50 r3.1 7).bind fun r5=>(F37 1).bind fun r7=>(F24 r5.1 7 1 (eF r7) 10).bind fun r9=>(F37 2).bind fun r11=>(F24 r9.2.2.1 7 2 (eF r11) 11).bind fun r13=>(F37 3).bind fun r15=>(F24 r13.2.2.1 7 1 (eF r15) 12).bind fun r17=>(F23 r17.2.2.1 7).bind fun r19=>need (bif (((((((((((bEq r1.2 0) && (bEq r3.2 0)) && (bEq r5.2 0)) && (bEq r9.2.2.2 0)) && (bEq r13.2.2.2 0)) && (bEq r17.2.2.2 0)) && (bEq r19.2.2 0)) && (bEq (r9.2.1.length:Nat) 0)) && (bEq (r13.2.1.length:Nat) 0)) && (bEq (r17.1.length:Nat) 0)) && (bEq (r17.2.1.length:Nat) 1)) then inb 0 r17.2.1.length else true) <| need (bif (((((((((((bEq r1.2 0) && (bEq r3.2 0)) && (bEq r5.2 0)) && (bEq r9.2.2.2 0)) && (bEq r13.2.2.2 0)) && (bEq r17.2.2.2 0)) && (bEq r19.2.2 0)) && (bEq (r9.2.1.length:Nat) 0)) && (bEq (r13.2.1.length:Nat) 0)) && (bEq (r17.1.length:Nat) 0)) && (bEq (r17.2.1.length:Nat) 1)) then ((F38 (eF (gd r17.2.1 0))).isSome) else true) <| need (bif ((((((((((((bEq r1.2 0) && (bEq r3.2 0)) && (bEq r5.2 0)) && (bEq r9.2.2.2 0)) && (bEq r13.2.2.2 0)) && (bEq r17.2.2.2 0)) && (bEq r19.2.2 0)) && (bEq (r9.2.1.length:Nat) 0)) && (bEq (r13.2.1.length:Nat) 0)) && (bEq (r17.1.length:Nat) 0)) && (bEq (r17.2.1.length:Nat) 1)) && (bEq (gt (F38 (eF (gd r17.2.1 0)))) 1)) then ((F38 r19.1).isSome) else true) <| need (bif (((((((((((((((bEq r1.2 0) && (bEq r3.2 0)) && (bEq r5.2 0)) && (bEq r9.2.2.2 0)) && (bEq r13.2.2.2 0)) && (bEq r17.2.2.2 0)) && (bEq r19.2.2 0)) && (bEq (r9.2.1.length:Nat) 0)) && (bEq (r13.2.1.length:Nat) 0)) && (bEq (r17.1.length:Nat) 0)) && (bEq (r17.2.1.length:Nat) 1)) && (bEq (gt (F38 (eF (gd r17.2.1 0)))) 1)) && (bEq (gt (F38 r19.1)) 2)) && r19.1.Head.MoreData) && (bEq (r19.2.1.List.length:Nat) 1)) then inb 0 r19.2.1.List.length else true) <| some ((((((((((((((((bEq r1.2 0) && (bEq r3.2 0)) && (bEq r5.2 0)) && (bEq r9.2.2.2 0)) && (bEq r13.2.2.2 0)) && (bEq r17.2.2.2 0)) && (bEq r19.2.2 0)) && (bEq (r9.2.1.length:Nat) 0)) && (bEq (r13.2.1.length:Nat) 0)) && (bEq (r17.1.length:Nat) 0)) && (bEq (r17.2.1.length:Nat) 1)) && (bEq (gt (F38 (eF (gd r17.2.1 0)))) 1)) && (bEq (gt (F38 r19.1)) 2)) && r19.1.Head.MoreData) && (bEq (r19.2.1.List.length:Nat) 1)) && (bEq (((gd r19.2.1.List 0).Held).length:Nat) 1))
noncomputable def body20:List AV->AR
 | []=>.pure ((F20).isSome=true) (.bool (gt F20))
 | _=>.fail
theorem ok20:wM Try.prog 20 (yF body20):=by
 refine wE body20 (rs:=[.tmp 0]) Try.func20 (by kernel_rfl) rfl rfl ?_
 intro l ob v hb hob
 unfold body20 at hb
 split at hb
 ·injection hb with q1 q2;subst q1 q2
  obtain ⟨r,H⟩:=oE.1 hob
  rw [H,yQ]
  refine ⟨[],_,(fun E vs F=>F),rfl,rfl,?_⟩
  rw [Try.ntmps20]
  simp only [lN,Nat.reduceSub,rS,rZ,aN]
  unfold F20 at H
  delta eF at H
  try dsimp only at H
  refine sq zA ?_
  simp only [go_sem]
  refine zK ?_
  obtain ⟨r1,e2,H⟩:=bsi H
  refine rg ct20t0_ok ?_
  simp only [go_sem,Nat.reduceLT,Nat.reduceAdd,ct20t0_12,fL,e2]
  repeat ((with_reducible refine aI ?_ ?_);exact an0)
  refine zK ?_
  obtain ⟨r3,e4,H⟩:=bsi H
  refine rg ct20t1_ok ?_
  simp only [go_sem,Nat.reduceLT,Nat.reduceAdd,ct20t1_40,fO,e4]
  repeat ((with_reducible refine aI ?_ ?_);exact an0)
  refine zK ?_
  obtain ⟨r5,e6,H⟩:=bsi H
  refine rg ct20t2_ok ?_
  simp only [go_sem,Nat.reduceLT,Nat.reduceAdd,ct20t2_50,fP,e6]
  repeat ((with_reducible refine aI ?_ ?_);exact an0)
  refine zK ?_
  obtain ⟨r7,e8,H⟩:=bsi H
  obtain ⟨r9,e10,H⟩:=bsi H
  refine yL zQ ct20t3_ok 1 (by kernel_rfl) (by kernel_rfl) ?_
  intro an han
  simp only [wK,xR,vL,xrD,xoD,vM,wY,List.append_nil,xA,refs,vF,mask,xZ,place,xI,wA,xK,hit,inL,xD,ren,uS,rnN,nrH,nrB,nrL,nr,rZ,rS,Nat.sub_self,Nat.add_zero,Nat.zero_add,Nat.reduceSub,Nat.lt_add_one,go_sem,Nat.reduceLeDiff,Nat.reduceLT,Nat.reduceAdd,Nat.reduceSub,Nat.reduceBEq,frC,obR,fzL,fzV,fzH,cO,fzB,xP,uI,qA,dU,vW,vF,refs,inL,ct20t3_24,jI,ct20t3_37,qD,e8,e10]
  repeat ((with_reducible refine aI ?_ ?_);exact an4)
  refine zK ?_
  obtain ⟨r11,e12,H⟩:=bsi H
  obtain ⟨r13,e14,H⟩:=bsi H
  refine yL zQ ct20t3_ok 1 (by kernel_rfl) (by kernel_rfl) ?_
  intro an han
  simp only [wK,xR,vL,xrD,xoD,vM,wY,List.append_nil,xA,refs,vF,mask,xZ,place,xI,wA,xK,hit,inL,xD,ren,uS,rnN,nrH,nrB,nrL,nr,rZ,rS,Nat.sub_self,Nat.add_zero,Nat.zero_add,Nat.reduceSub,Nat.lt_add_one,go_sem,Nat.reduceLeDiff,Nat.reduceLT,Nat.reduceAdd,Nat.reduceSub,Nat.reduceBEq,frC,obR,fzL,fzV,fzH,cO,fzB,xP,uI,qA,dU,vW,vF,refs,inL,ct20t3_24,jI,ct20t3_37,qD,e12,e14]
  repeat ((with_reducible refine aI ?_ ?_);exact an4)
  refine zK ?_
  obtain ⟨r15,e16,H⟩:=bsi H
  obtain ⟨r17,e18,H⟩:=bsi H
  refine yL zQ ct20t3_ok 1 (by kernel_rfl) (by kernel_rfl) ?_
  intro an han
  simp only [wK,xR,vL,xrD,xoD,vM,wY,List.append_nil,xA,refs,vF,mask,xZ,place,xI,wA,xK,hit,inL,xD,ren,uS,rnN,nrH,nrB,nrL,nr,rZ,rS,Nat.sub_self,Nat.add_zero,Nat.zero_add,Nat.reduceSub,Nat.lt_add_one,go_sem,Nat.reduceLeDiff,Nat.reduceLT,Nat.reduceAdd,Nat.reduceSub,Nat.reduceBEq,frC,obR,fzL,fzV,fzH,cO,fzB,xP,uI,qA,dU,vW,vF,refs,inL,ct20t3_24,jI,ct20t3_37,qD,e16,e18]
  repeat ((with_reducible refine aI ?_ ?_);exact an4)
  refine zK ?_
  obtain ⟨r19,e20,H⟩:=bsi H
  refine rg ct20t4_ok ?_
  simp only [go_sem,Nat.reduceLT,Nat.reduceAdd,ct20t4_23,fM,e20]
  repeat ((with_reducible refine aI ?_ ?_);exact an0)
  refine sq zA ?_
  simp only [go_sem]
  repeat ((with_reducible refine aI ?_ ?_);exact an5)
  refine zK ?_
  obtain ⟨f21,H⟩:=yT.1 H
  replace f21:=tU.1 f21
  replace f21:=fun g=>uQ.1 (f21 g)
  obtain ⟨f22,H⟩:=yT.1 H
  replace f22:=tU.1 f22
  obtain ⟨f23,H⟩:=yT.1 H
  replace f23:=tU.1 f23
  obtain ⟨f24,H⟩:=yT.1 H
  replace f24:=tU.1 f24
  replace f24:=fun g=>uQ.1 (f24 g)
  refine rg ct20t5_ok ?_
  simp only [go_sem,Nat.reduceLeDiff,Nat.reduceLT,Nat.reduceAdd,reduceCtorEq,ct20t5_38,gE]
  repeat ((with_reducible refine And.intro ?_ ?_);focus (first|(with_reducible trivial)|omega|exact f21|exact f22|exact f23|exact f24|(intro g;have q:=f21 (by first|exact g|(rw [g];rfl)|simpa using g);first|exact q|exact ⟨q.1,q.2.1⟩|exact q.2.2|omega|exact ⟨g,q⟩|exact ⟨trivial,q⟩|exact ⟨g,q.1,q.2.1⟩|exact ⟨g,q.2.2⟩)|(intro g;have q:=f22 (by first|exact g|(rw [g];rfl)|simpa using g);first|exact q|exact ⟨q.1,q.2.1⟩|exact q.2.2|omega|exact ⟨g,q⟩|exact ⟨trivial,q⟩|exact ⟨g,q.1,q.2.1⟩|exact ⟨g,q.2.2⟩)|(intro g;have q:=f23 (by first|exact g|(rw [g];rfl)|simpa using g);first|exact q|exact ⟨q.1,q.2.1⟩|exact q.2.2|omega|exact ⟨g,q⟩|exact ⟨trivial,q⟩|exact ⟨g,q.1,q.2.1⟩|exact ⟨g,q.2.2⟩)|(intro g;have q:=f24 (by first|exact g|(rw [g];rfl)|simpa using g);first|exact q|exact ⟨q.1,q.2.1⟩|exact q.2.2|omega|exact ⟨g,q⟩|exact ⟨trivial,q⟩|exact ⟨g,q.1,q.2.1⟩|exact ⟨g,q.2.2⟩)|(intro g;(try have q0:=f21 (by first|exact g|(rw [g];rfl)|simpa using g));(try have q1:=f22 (by first|exact g|(rw [g];rfl)|simpa using g));(try have q2:=f23 (by first|exact g|(rw [g];rfl)|simpa using g));(try have q3:=f24 (by first|exact g|(rw [g];rfl)|simpa using g));and_intros<;>first|(with_reducible trivial)|assumption|exact nfc|(intro g2;rw [g,g2];rfl)|(intro g2;assumption)|(simp only [g,Bool.true_and,Bool.and_true,Bool.not_false,Bool.not_true];assumption)|grind)|(and_intros<;>first|(with_reducible trivial)|omega|assumption|exact nfc|first|exact rfl|exact trivial|exact qV|exact .inr rfl|exact .inl rfl|exact fun x hx=>absurd hx (by omega))|grind))
  refine rg zA ?_
  simp only [go_sem]
  obtain rfl:=Option.some.inj H
  first|rfl|simp only [Bool.and_false,Bool.false_and,Bool.and_true,Bool.true_and]
 ·cases hb
noncomputable def cF (p0:List TStored) (v1_1:List TFrame) (v1_2:Int):Option (Lp ((List TFrame) × Int) ((List TFrame) ⊕ (List TFrame))) :=
 bif (bLt v1_2 (p0.length:Nat)) then (need (inb v1_2 p0.length) <| need (capb 104 (v1_1.length+1)) <| some (.next ((v1_1 ++ [(eF ((gd p0 v1_2.toNat).Frame))]),wr .i64 (v1_2+1)))) else (some (.done (.inl v1_1)))
noncomputable def F53 (p0:List TStored):Option (List TFrame) :=
 lp (xC (fun s=>cF p0 s.1 s.2) ([],0)) (fun w1_3=>some w1_3) some
noncomputable def tE:List AV->Nat->AR
 | [v0],s=>.heap (lK xW 43 v0/\(F53 (lA yG v0)).isSome=true) (.sl s 41 0 ((gt (F53 (lA yG v0))).length) false) [.row 33 41 ((gt (F53 (lA yG v0))).length) (enR zI (gt (F53 (lA yG v0))))]
 | _,_=>.fail
theorem ok53:wM Try.prog 53 (xU tE):=by
 refine uZ tE (rs:=[.tmp 2]) Try.func53 (by kernel_rfl) rfl rfl ?_
 intro l s ob v ns hb hob
 rcases hb with ⟨hb,rfl⟩|hb
 ·unfold tE at hb
  split at hb<;>cases hb
 ·unfold tE at hb
  split at hb
  ·rename_i v0
   injection hb with q1 q2 q3;subst q1 q2 q3
   obtain ⟨hk0_0,hob⟩:=hob
   obtain ⟨r,H⟩:=oE.1 hob
   rw [H,yQ]
   have hw0:=qX (fun r h=>uY h) hk0_0
   generalize lA yG v0=p0 at H hw0
   refine ⟨[.ro 43 p0.length false (enR zE p0)],.sl 0 41 0 r.length false,[.row 33 41 r.length (enR zI r)],(fun E vs F=>yO hw0.1 F (fun vs F=>F)),by simp only [ren,rnN_0],⟨gD xE,trivial⟩,?_⟩
   rw [Try.ntmps53]
   simp only [lC,lN,Nat.reduceAdd,Nat.reduceSub,rS,rZ,aC,aN]
   unfold F53 at H
   try dsimp only at H
   refine sq zA ?_
   simp only [go_sem]
   refine zK ?_
   refine sq zA ?_
   simp only [go_sem]
   repeat ((with_reducible refine aI ?_ ?_);exact an0)
   refine wN ?_
   refine xX (fun s:(List TFrame) × Int=>(.top::.top::.sl 0 41 0 s.1.length false::.top::.top::.ro 43 p0.length false (enR zE p0)::.int .i64 (p0.length:Nat)::.int .i64 s.2::tp 10 [])) (fun s=>[.row 33 41 s.1.length (enR zI s.1)]) (fun e:List TFrame=>(.top::.top::.sl 0 41 0 e.length false::tp 15 [])) (fun e=>[.row 33 41 e.length (enR zI e)]) H ?_ (fun s o H hn1_1 hn2_1=>?_) (fun w1_3 H=>?_)
   ·refine zT ⟨[none],?_,?_,by rfl,by rfl⟩
    ·simp [CvL,Cv,tp]
    ·exact ⟨qO,trivial⟩
   ·obtain ⟨v1_1,v1_2⟩:=s
    unfold cF at H
    delta eF at H
    try dsimp only at H ⊢
    try simp only [tp]
    refine sq zA ?_
    simp only [go_sem]
    refine zK ?_
    refine condM' rfl trivial (fun hc=>?_) (fun hc=>?_)
    ·have hk1:(bLt v1_2 (p0.length:Nat))=false:=by simpa using hc
     replace H:=zZ hc H
     refine rg zA ?_
     simp only [go_sem]
     refine ⟨_,(Option.some.inj H).symm,?_⟩
     refine zT ⟨[some 0],?_,?_,by rfl,by rfl⟩
     ·simp [CvL,Cv,zX]
     ·exact ⟨zS xE cl (fun _ _ _ _=>rfl),trivial⟩
    have hk1:(bLt v1_2 (p0.length:Nat))=true:=by simpa using hc
    replace H:=yA hc H
    refine rg zA ?_
    simp only [go_sem]
    refine zK ?_
    refine wN ?_
    refine zK ?_
    obtain ⟨f2,H⟩:=nI H
    refine rg zA ?_
    simp only [go_sem,Nat.reduceLT,Nat.reduceAdd,f2]
    repeat ((with_reducible refine aI ?_ ?_);exact an5)
    obtain ⟨f3,H⟩:=nC H
    refine rg zA ?_
    simp only [go_sem,Nat.reduceLeDiff,Nat.reduceLT,Nat.reduceAdd,Nat.reduceBEq,reduceCtorEq,f3]
    repeat ((with_reducible refine aI ?_ ?_);exact an1)
    refine rg zA ?_
    simp only [go_sem]
    refine ⟨_,(Option.some.inj H).symm,?_⟩
    refine zT ⟨[some 3],?_,?_,by rfl,by rfl⟩
    ·simp [CvL,Cv,zX]
    ·exact ⟨zS xE cl (wW (f:=zI) v1_1 [(eF ((gd p0 v1_2.toNat).Frame))] (fun _ _ _ _=>rfl) (wF (f:=zI) [(eF ((gd p0 v1_2.toNat).Frame))] (fun _ _=>rfl) rfl)),trivial⟩
   ·try dsimp only at H ⊢
    try simp only [tp]
    try simp only [xS]
    refine sq zA ?_
    simp only [go_sem]
    refine rg zA ?_
    simp only [go_sem]
    obtain rfl:=Option.some.inj H
    refine ⟨[],?_,?_,[some 0],?_,?_,by rfl⟩
    ·simp only [go_sem]
    ·simp only [go_sem]
    ·simp [fzV,inL,Cv,zX]
     all_goals first|exact cl
    ·simp only [go_sem,CvH]
     exact zS xE cl (fun _ _ _ _=>rfl)
  ·cases hb
noncomputable def F84_0 (p0:TSleeper) (p1:Int):Option (Bool) :=
 some (bEq p0.Aid p1)
noncomputable def qR:List AV->AR
 | [v0,v1]=>.pure (aK 3 wG v0/\rK 1 cS v1/\(F84_0 (yK (aL v0)) (tT (rG v1))).isSome=true) (.bool (gt (F84_0 (yK (aL v0)) (tT (rG v1)))))
 | _=>.fail
theorem ok84_0:wM Try.prog 84 (yF qR):=by
 refine wE qR (rs:=[.tmp 3]) Try.func84 (by kernel_rfl) rfl rfl ?_
 intro l ob v hb hob
 unfold qR at hb
 split at hb
 ·rename_i v0 v1
  injection hb with q1 q2;subst q1 q2
  obtain ⟨hk0_0,hk1_0,hob⟩:=hob
  obtain ⟨r,H⟩:=oE.1 hob
  rw [H,yQ]
  have hw0:=bP hk0_0
  have hw1:=rK_wk (f:=xF) (g:=tT) (fun r h=>w_i64 h) hk1_0
  generalize yK (aL v0)=p0 at H hw0
  generalize tT (rG v1)=p1 at H hw1
  refine ⟨[.agg [.int .i64 p0.Aid,.bool p0.Asleep,.ro 43 p0.Held.length false (enR zE p0.Held)],.rptr 1 1 0 0 (enR xF [p1])],_,(fun E vs F=>yO hw0.1 F (fun vs F=>yO hw1.1 F (fun vs F=>F))),rfl,rfl,?_⟩
  rw [Try.ntmps84]
  simp only [lC,lN,Nat.reduceAdd,Nat.reduceSub,rS,rZ,aC,aN]
  unfold F84_0 at H
  try dsimp only at H
  refine sq zA ?_
  simp only [go_sem]
  refine sq zA ?_
  simp only [go_sem,Nat.reduceLeDiff,Nat.reduceLT,Nat.reduceAdd]
  repeat ((with_reducible refine aI ?_ ?_);exact an5)
  refine rg zA ?_
  simp only [go_sem]
  obtain rfl:=Option.some.inj H
  first|rfl|simp only [Bool.and_false,Bool.false_and,Bool.and_true,Bool.true_and]
 ·cases hb
noncomputable def ct106_1t0:Ct:=tab [(84,yF qR)]
theorem ct106_1t0_ok:yZ Try.prog ct106_1t0:=zR ok84_0 <| zY
theorem ct106_1t0_84 (l:List AV) (h:List ABlk):ct106_1t0 84 l h=yF qR l h:=rfl
noncomputable def F106_1_L1 (p0:List TSleeper) (p1:Int) (v1_1:Int):Option (Lp (Int) ((Unit) ⊕ (Int))) :=
 bif (bLt v1_1 (p0.length:Nat)) then (need (inb v1_1 p0.length) <| (F84_0 (gd p0 v1_1.toNat) p1).bind fun r3=>bif r3 then (some (.done (.inr v1_1))) else (some (.next (wr .i64 (v1_1+1))))) else (some (.done (.inl ())))
noncomputable def F106_1 (p0:List TSleeper) (p1:Int):Option (Int) :=
 lp (xC (fun s=>F106_1_L1 p0 p1 s) 0) (fun _=>some (-1)) some
noncomputable def jY:List AV->AR
 | [v0,.fn 84 [v1]]=>.pure (lK wG 3 v0/\rK 1 cS v1/\(F106_1 (lA yK v0) (tT (rG v1))).isSome=true) (.int .i64 (gt (F106_1 (lA yK v0) (tT (rG v1)))))
 | _=>.fail
theorem ok106_1:wM Try.prog 106 (yF jY):=by
 refine wE jY (rs:=[.tmp 4]) Try.func106 (by kernel_rfl) rfl rfl ?_
 intro l ob v hb hob
 unfold jY at hb
 split at hb
 ·rename_i v0 v1
  injection hb with q1 q2;subst q1 q2
  obtain ⟨hk0_0,hk1_0,hob⟩:=hob
  obtain ⟨r,H⟩:=oE.1 hob
  rw [H,yQ]
  have hw0:=qX (fun r h=>tN h) hk0_0
  have hw1:=rK_wk (f:=xF) (g:=tT) (fun r h=>w_i64 h) hk1_0
  generalize lA yK v0=p0 at H hw0
  generalize tT (rG v1)=p1 at H hw1
  refine ⟨[.ro 3 p0.length false (enR zC p0),.fn 84 [.rptr 1 1 0 0 (enR xF [p1])]],_,(fun E vs F=>yO hw0.1 F (fun vs F=>yO (fn_wk (LW_cons hw1.1 LW_nil)) F (fun vs F=>F))),rfl,rfl,?_⟩
  rw [Try.ntmps106]
  simp only [lC,lN,Nat.reduceAdd,Nat.reduceSub,rS,rZ,aC,aN]
  unfold F106_1 at H
  try dsimp only at H
  refine sq zA ?_
  simp only [go_sem]
  refine zK ?_
  refine sq zA ?_
  simp only [go_sem]
  repeat ((with_reducible refine aI ?_ ?_);exact an0)
  refine wN ?_
  refine xX (fun s:Int=>(.ro 3 p0.length false (enR zC p0)::.fn 84 [.rptr 1 1 0 0 (enR xF [p1])]::tp 5 (.int .i64 (p0.length:Nat)::.int .i64 s::tp 10 []))) (fun s=>[]) (fun e:Unit=>(tp 19 [])) (fun e=>[]) H ?_ (fun v1_1 o H hn1_1 hn2_1=>?_) (fun e H=>?_)
  ·refine zT ⟨[],?_,?_,by rfl,by rfl⟩
   ·simp [CvL,Cv,tp]
   ·trivial
  ·unfold F106_1_L1 at H
   try dsimp only at H ⊢
   try simp only [tp]
   refine sq zA ?_
   simp only [go_sem]
   refine zK ?_
   refine condM' rfl trivial (fun hc=>?_) (fun hc=>?_)
   ·have hk1:(bLt v1_1 (p0.length:Nat))=false:=by simpa using hc
    replace H:=zZ hc H
    refine rg zA ?_
    simp only [go_sem]
    refine ⟨_,(Option.some.inj H).symm,?_⟩
    refine zT ⟨[],?_,?_,by rfl,by rfl⟩
    ·simp [CvL,Cv]
    ·trivial
   have hk1:(bLt v1_1 (p0.length:Nat))=true:=by simpa using hc
   replace H:=yA hc H
   refine rg zA ?_
   simp only [go_sem]
   refine zK ?_
   refine wN ?_
   refine sq zA ?_
   simp only [go_sem]
   refine zK ?_
   obtain ⟨f2,H⟩:=nI H
   obtain ⟨r3,e4,H⟩:=bsi H
   refine rg ct106_1t0_ok ?_
   simp only [go_sem,Nat.reduceLT,Nat.reduceAdd,ct106_1t0_84,qR,f2,e4]
   repeat ((with_reducible refine aI ?_ ?_);exact an0)
   refine yM rfl trivial (fun hc=>?_) (fun hc=>?_)
   ·have hk5:(r3)=true:=by simpa using hc
    replace H:=yA hc H
    refine sq zA ?_
    simp only [go_sem]
    refine rg zA ?_
    simp only [go_sem]
    have H:=hn2_1 _ (Option.some.inj H).symm
    obtain rfl:=Option.some.inj H
    first|rfl|simp only [Bool.and_false,Bool.false_and,Bool.and_true,Bool.true_and]
   have hk5:(r3)=false:=by simpa using hc
   replace H:=zZ hc H
   refine rg zA ?_
   simp only [go_sem]
   refine rg zA ?_
   simp only [go_sem]
   refine ⟨_,(Option.some.inj H).symm,?_⟩
   refine zT ⟨[],?_,?_,by rfl,by rfl⟩
   ·simp [CvL,Cv]
   ·trivial
  ·try dsimp only at H ⊢
   try simp only [tp]
   try simp only [xS]
   refine sq zA ?_
   simp only [go_sem]
   refine rg zA ?_
   simp only [go_sem]
   obtain rfl:=Option.some.inj H
   first|rfl|simp only [Bool.and_false,Bool.false_and,Bool.and_true,Bool.true_and]
 ·cases hb
noncomputable def ct83_0t0:Ct:=tab [(106,yF jY)]
theorem ct83_0t0_ok:yZ Try.prog ct83_0t0:=zR ok106_1 <| zY
theorem ct83_0t0_106 (l:List AV) (h:List ABlk):ct83_0t0 106 l h=yF jY l h:=rfl
noncomputable def ct83_0t1:Ct:=tab [(84,yF qR)]
theorem ct83_0t1_ok:yZ Try.prog ct83_0t1:=zR ok84_0 <| zY
theorem ct83_0t1_84 (l:List AV) (h:List ABlk):ct83_0t1 84 l h=yF qR l h:=rfl
noncomputable def F83_0_L1 (p1:Int) (v1_1:List TSleeper) (v1_2:Int) (v1_3:Int):Option (Lp ((List TSleeper) × Int × Int) (((List TSleeper) × Int) ⊕ (List TSleeper))) :=
 bif (bLt v1_3 (v1_1.length:Nat)) then (need (inb v1_3 v1_1.length) <| (F84_0 (gd v1_1 v1_3.toNat) p1).bind fun r6=>bif (!r6) then (need (inb v1_2 v1_1.length) <| some (.next ((v1_1.set v1_2.toNat (gd v1_1 v1_3.toNat)),wr .i64 (v1_2+1),wr .i64 (v1_3+1)))) else (some (.next (v1_1,v1_2,wr .i64 (v1_3+1))))) else (some (.done (.inl (v1_1,v1_2))))
noncomputable def F83_0 (p0:List TSleeper) (p1:Int):Option (List TSleeper) :=
 (F106_1 p0 p1).bind fun r1=>bif (bEq r1 (-1)) then (some p0) else (lp (xC (fun s=>F83_0_L1 p1 s.1 s.2.1 s.2.2) (p0,r1,wr .i64 (r1+1))) (fun e1=>need (slb e1.2 (e1.1.length:Nat) e1.1.length) <| need (slb 0 e1.2 e1.1.length) <| some (List.take e1.2.toNat e1.1)) some)
noncomputable def eC:List AV->List ABlk->ED
 | [v0,.fn 84 [v1]],h=>.ed [slN v0] (oS 57 3 h v0/\lK wG 3 (roW h v0)/\rK 1 cS v1/\(F83_0 (lA yK (roW h v0)) (tT (rG v1))).isSome=true) (.sl 1 3 0 ((gt (F83_0 (lA yK (roW h v0)) (tT (rG v1)))).length) false) [.dead,.row 57 3 ((gt (F83_0 (lA yK (roW h v0)) (tT (rG v1)))).length) (enR zC (gt (F83_0 (lA yK (roW h v0)) (tT (rG v1)))))]
 | _,_=>.fail
theorem ok83_0:wM Try.prog 83 (edC eC):=by
 refine edit_fnM eC (rs:=[.tmp 4]) Try.func83 (by kernel_rfl) rfl rfl ?_
 intro l h bs ob q0 g0 hb hob
 unfold eC at hb
 split at hb
 ·rename_i v0 v1
  injection hb with q1 q2 q3 q4;subst q1 q2 q3 q4
  obtain ⟨hk0_0,hk0_1,hk1_0,hob⟩:=hob
  obtain ⟨r,H⟩:=oE.1 hob
  rw [H,yQ]
  obtain ⟨p0,hp0⟩:∃ p0,p0=lA yK (roW h v0):=⟨_,rfl⟩
  rw [← hp0] at H
  obtain ⟨ev0,eb0⟩:=own_row2 (f:=zC) (g:=yK) (bs:=[slN v0]) (i:=0) (fun hr=>tN hr) hk0_0 hk0_1 (L:=p0) (by rw [hp0]) rfl
  have hw1:=rK_wk (f:=xF) (g:=tT) (fun r h=>w_i64 h) hk1_0
  obtain ⟨p1,hp_p1⟩:∃ p1,p1=tT (rG v1):=⟨_,rfl⟩
  rw [← hp_p1] at H hw1
  refine ⟨[.sl 0 3 0 p0.length false,.fn 84 [.rptr 1 1 0 0 (enR xF [p1])]],[.row 57 3 p0.length (enR zC p0)],rfl,⟨ev0,⟨(EV_fn ⟨(EV_wk hw1),trivial⟩),trivial⟩⟩,⟨eb0,trivial⟩,⟨trivial,⟨(nfB_en zH),trivial⟩⟩,?_⟩
  rw [Try.ntmps83]
  simp only [lC,lN,Nat.reduceAdd,Nat.reduceSub,rS,rZ,aC,aN]
  unfold F83_0 at H
  try dsimp only at H
  refine sq zA ?_
  simp only [go_sem]
  refine zK ?_
  obtain ⟨r1,e2,H⟩:=bsi H
  refine rg ct83_0t0_ok ?_
  simp only [go_sem,Nat.reduceLT,ct83_0t0_106,jY,e2]
  repeat ((with_reducible refine aI ?_ ?_);exact an0)
  refine zK ?_
  refine sq zA ?_
  simp only [go_sem]
  refine yM rfl trivial (fun hc=>?_) (fun hc=>?_)
  ·have hk3:(bEq r1 (-1))=true:=by simpa using hc
   replace H:=yA hc H
   refine sq zA ?_
   simp only [go_sem]
   refine rg zA ?_
   simp only [go_sem]
   obtain rfl:=Option.some.inj H
   refine RetE_mk [] [some 0,some 0] ?_ ?_ ?_ ?_ (by rfl) (by rfl)
   ·simp only [go_sem]
    try exact at0
   ·simp only [go_sem]
    try exact at0
   ·simp only [go_sem]
    exact (by first|(simp [Cv,zX];done)|(simp [Cv,CvL,zX,yQ];omega))
   ·simp only [go_sem,CvH]
    first|exact ⟨zD,zS zH cl (fun _ _ _ _=>rfl)⟩|trivial
  have hk3:(bEq r1 (-1))=false:=by simpa using hc
  replace H:=zZ hc H
  refine rg zA ?_
  simp only [go_sem]
  refine zK ?_
  refine sq zA ?_
  simp only [go_sem]
  refine wN ?_
  refine xX (fun s:(List TSleeper) × Int × Int=>(.sl 1 3 0 s.1.length false::.fn 84 [.rptr 1 1 0 0 (enR xF [p1])]::.top::.top::.top::.int .i64 s.2.1::.int .i64 s.2.2::tp 35 [])) (fun s=>[.dead,.row 57 3 s.1.length (enR zC s.1)]) (fun e:(List TSleeper) × Int=>(.sl 1 3 0 e.1.length false::tp 4 (.int .i64 e.2::tp 36 []))) (fun e=>[.dead,.row 57 3 e.1.length (enR zC e.1)]) H ?_ (fun s o H hn1_1 hn2_1=>?_) (fun e H=>?_)
  ·refine zT ⟨[some 0,some 0],?_,?_,by rfl,by rfl⟩
   ·simp [CvL,Cv,zX,tp]
   ·exact ⟨zD,zS zH cl (fun _ _ _ _=>rfl),trivial⟩
  ·obtain ⟨v1_1,v1_2,v1_3⟩:=s
   unfold F83_0_L1 at H
   try dsimp only at H ⊢
   try simp only [tp]
   refine zK ?_
   refine sq zA ?_
   simp only [go_sem]
   repeat ((with_reducible refine aI ?_ ?_);exact an0)
   refine condM' rfl trivial (fun hc=>?_) (fun hc=>?_)
   ·have hk4:(bLt v1_3 (v1_1.length:Nat))=false:=by simpa using hc
    replace H:=zZ hc H
    refine rg zA ?_
    simp only [go_sem]
    refine ⟨_,(Option.some.inj H).symm,?_⟩
    refine zT ⟨[some 0,some 1],?_,?_,by rfl,by rfl⟩
    ·simp [CvL,Cv,zX]
    ·exact ⟨zD,zS zH cl (fun _ _ _ _=>rfl),trivial⟩
   have hk4:(bLt v1_3 (v1_1.length:Nat))=true:=by simpa using hc
   replace H:=yA hc H
   refine rg zA ?_
   simp only [go_sem]
   refine zK ?_
   refine wN ?_
   refine zK ?_
   obtain ⟨f5,H⟩:=nI H
   refine rg zA ?_
   simp only [go_sem,Nat.reduceLT,Nat.reduceAdd,f5]
   repeat ((with_reducible refine aI ?_ ?_);exact an5)
   refine zK ?_
   obtain ⟨r6,e7,H⟩:=bsi H
   refine rg ct83_0t1_ok ?_
   simp only [go_sem,Nat.reduceLT,Nat.reduceAdd,ct83_0t1_84,qR,e7]
   repeat ((with_reducible refine aI ?_ ?_);exact an0)
   refine condM' rfl trivial (fun hc=>?_) (fun hc=>?_)
   ·have hk8:(r6)=true:=by simpa using hc
    replace H:=zZ hc H
    refine rg zA ?_
    simp only [go_sem]
    refine rg zA ?_
    simp only [go_sem]
    refine ⟨_,(Option.some.inj H).symm,?_⟩
    refine zT ⟨[some 0,some 1],?_,?_,by rfl,by rfl⟩
    ·simp [CvL,Cv,zX]
    ·exact ⟨zD,zS zH cl (fun _ _ _ _=>rfl),trivial⟩
   have hk8:(r6)=false:=by simpa using hc
   replace H:=yA hc H
   refine zK ?_
   obtain ⟨f9,H⟩:=nI H
   refine rg zA ?_
   simp only [go_sem,Nat.reduceLT,Nat.reduceAdd,f9]
   repeat ((with_reducible refine aI ?_ ?_);exact an5)
   refine rg zA ?_
   simp only [go_sem]
   refine rg zA ?_
   simp only [go_sem]
   refine ⟨_,(Option.some.inj H).symm,?_⟩
   refine zT ⟨[some 0,some 1],?_,?_,by rfl,by rfl⟩
   ·simp [CvL,Cv,zX]
   ·exact ⟨zD,zS zH cl (tD (f:=zC) v1_1 v1_2.toNat 0 (gd v1_1 v1_3.toNat) (fun _ _ _ _=>rfl) (fun y hy=>match y,hy with|0,_=>rfl|1,_=>rfl|2,_=>rfl|(y+3),h=>absurd h nlt)),trivial⟩
  ·obtain ⟨w1_4,w1_5⟩:=e
   try dsimp only at H ⊢
   try simp only [tp]
   try simp only [xS]
   refine zK ?_
   obtain ⟨f10,H⟩:=nS H
   refine rg zA ?_
   simp only [go_sem,Nat.reduceLeDiff,Nat.reduceAdd,f10]
   repeat ((with_reducible refine aI ?_ ?_);exact an3)
   refine zK ?_
   obtain ⟨f11,H⟩:=nS H
   refine rg zA ?_
   simp only [go_sem,f11]
   repeat ((with_reducible refine aI ?_ ?_);exact an5)
   refine rg zA ?_
   simp only [go_sem]
   obtain rfl:=Option.some.inj H
   refine RetE_mk [] [some 0,some 1] ?_ ?_ ?_ ?_ (by rfl) (by rfl)
   ·simp only [go_sem]
    try exact at0
   ·simp only [go_sem]
    try exact at0
   ·simp only [go_sem]
    exact (by first|(simp [Cv,zX,(show (List.take w1_5.toNat w1_4).length=w1_5.toNat from tM (n:=w1_4.length) cl (by omega))];done)|(simp [Cv,CvL,zX,yQ,(show (List.take w1_5.toNat w1_4).length=w1_5.toNat from tM (n:=w1_4.length) cl (by omega))];omega))
   ·simp only [go_sem,CvH]
    first|exact ⟨zD,(CvB_pre zH (by rw [show (List.take w1_5.toNat w1_4).length=w1_5.toNat from tM (n:=w1_4.length) cl (by omega)];omega) (clr_row (fun _ _ _ _=>rfl)))⟩|trivial
 ·cases hb
noncomputable def ct42t0:Ct:=tab [(18,yF wP)]
theorem ct42t0_ok:yZ Try.prog ct42t0:=zR ok18 <| zY
theorem ct42t0_18 (l:List AV) (h:List ABlk):ct42t0 18 l h=yF wP l h:=rfl
noncomputable def ct42t1:Ct:=tab [(81,yF uF)]
theorem ct42t1_ok:yZ Try.prog ct42t1:=zR ok81 <| zY
theorem ct42t1_81 (l:List AV) (h:List ABlk):ct42t1 81 l h=yF uF l h:=rfl
noncomputable def ct42t2:Ct:=tab [(65,xU vX)]
theorem ct42t2_ok:yZ Try.prog ct42t2:=zR ok65 <| zY
theorem ct42t2_65 (l:List AV) (h:List ABlk):ct42t2 65 l h=xU vX l h:=rfl
noncomputable def ct42t3:Ct:=tab [(53,xU tE)]
theorem ct42t3_ok:yZ Try.prog ct42t3:=zR ok53 <| zY
theorem ct42t3_53 (l:List AV) (h:List ABlk):ct42t3 53 l h=xU tE l h:=rfl
noncomputable def ct42t4:Ct:=tab [(83,edC eC)]
theorem ct42t4_ok:yZ Try.prog ct42t4:=zR ok83_0 <| zY
theorem ct42t4_83 (l:List AV) (h:List ABlk):ct42t4 83 l h=edC eC l h:=rfl
noncomputable def ct42t5:Ct:=tab [(47,yF qE)]
theorem ct42t5_ok:yZ Try.prog ct42t5:=zR ok47 <| zY
theorem ct42t5_47 (l:List AV) (h:List ABlk):ct42t5 47 l h=yF qE l h:=rfl
noncomputable def F42 (p0:TBuffer) (p1:Int):Option ((List TFrame) × TBuffer × Int) :=
 (F18 p0).bind fun r1=>bif (!bEq r1 0) then (some ([],(TBuffer.mk 0 0 [] []),r1)) else (bif ((bLt p1 1) || (bLt 255 p1)) then (some ([],(TBuffer.mk 0 0 [] []),2)) else ((F81 p0 p1).bind fun r5=>bif (!r5.2) then (some ([],(TBuffer.mk 0 0 [] []),6)) else ((F65 p0).bind fun r8=>need (inb r5.1 r8.List.length) <| (F53 ((gd r8.List r5.1.toNat).Held)).bind fun r11=>(F83_0 r8.List p1).bind fun r13=>(F47 (TBuffer.mk r8.Limit r8.Stay r13 r8.Group)).bind fun r15=>bif (!r15) then ((F53 r8.Group).bind fun r18=>need (capb 104 (r11.length+r18.length)) <| some ((r11 ++ r18),(TBuffer.mk r8.Limit r8.Stay r13 []),0)) else (need (capb 104 r11.length) <| (some (r11 ++ ([]:List TFrame))).bind fun w22=>some (w22,(TBuffer.mk r8.Limit r8.Stay r13 r8.Group),0)))))
noncomputable def body42:List AV->Nat->AR
 | [v0,v1],_=>.pure (aK 4 wC v0/\iK .i64 v1/\(F42 (zG (aL v0)) (iA v1)).isSome=true) (.tup [.ro 41 (((gt (F42 (zG (aL v0)) (iA v1))).1).length) false (enR zI ((gt (F42 (zG (aL v0)) (iA v1))).1)),.agg [.int .i64 (((gt (F42 (zG (aL v0)) (iA v1))).2.1).Limit),.int .i64 (((gt (F42 (zG (aL v0)) (iA v1))).2.1).Stay),.ro 3 ((((gt (F42 (zG (aL v0)) (iA v1))).2.1).List).length) false (enR zC (((gt (F42 (zG (aL v0)) (iA v1))).2.1).List)),.ro 43 ((((gt (F42 (zG (aL v0)) (iA v1))).2.1).Group).length) false (enR zE (((gt (F42 (zG (aL v0)) (iA v1))).2.1).Group))],.int .i64 ((gt (F42 (zG (aL v0)) (iA v1))).2.2)])
 | _,_=>.fail
theorem ok42:wM Try.prog 42 (xU body42):=by
 refine uZ body42 (rs:=[.tmp 4,.cell 5 25,.tmp 6]) Try.func42 (by kernel_rfl) rfl rfl ?_
 intro l s ob v ns hb hob
 rcases hb with ⟨hb,rfl⟩|hb
 ·unfold body42 at hb
  split at hb
  ·rename_i v0 v1
   injection hb with q1 q2;subst q1 q2
   obtain ⟨hk0_0,hk1_0,hob⟩:=hob
   obtain ⟨r,H⟩:=oE.1 hob
   rw [H,yQ]
   have hw0:=wU hk0_0
   have hw1:=yI hk1_0
   generalize zG (aL v0)=p0 at H hw0
   generalize iA v1=p1 at H hw1
   refine ⟨[.agg [.int .i64 p0.Limit,.int .i64 p0.Stay,.ro 3 p0.List.length false (enR zC p0.List),.ro 43 p0.Group.length false (enR zE p0.Group)],.int .i64 p1],.tup [.ro 41 r.1.length false (enR zI r.1),.agg [.int .i64 r.2.1.Limit,.int .i64 r.2.1.Stay,.ro 3 r.2.1.List.length false (enR zC r.2.1.List),.ro 43 r.2.1.Group.length false (enR zE r.2.1.Group)],.int .i64 r.2.2],[],(fun E vs F=>yO hw0.1 F (fun vs F=>yO hw1.1 F (fun vs F=>F))),by simp only [ren,uS],trivial,?_⟩
   rw [Try.ntmps42]
   simp only [lC,lN,Nat.reduceAdd,Nat.reduceSub,rS,rZ,aC,aN]
   unfold F42 at H
   try dsimp only at H
   refine sq zA ?_
   simp only [go_sem,Nat.reduceAdd]
   refine zK ?_
   refine qZ ?_
   refine xQ zQ zA 2 ?_
   simp only [zM,tS,tZ,dS,dZ,go_sem,Nat.reduceLT,Nat.reduceAdd]
   repeat ((with_reducible refine aI ?_ ?_);exact an0)
   refine gX (rs:=[.tmp 4,.tmp 5,.tmp 6]) Try.func51 (by kernel_rfl) rfl rfl Try.ntmps51 (caps:=[]) (tc:=[.agg [.int .i64 p0.Limit,.int .i64 p0.Stay,.ro 3 p0.List.length false (enR zC p0.List),.ro 43 p0.Group.length false (enR zE p0.Group)],.int .i64 p1]) rfl (by simp only [go_sem]) rfl ?_
   simp only [lC,lN,Nat.reduceAdd,Nat.reduceSub,rS,rZ,aC,aN]
   refine sq zA ?_
   simp only [go_sem,Nat.reduceAdd]
   refine zK ?_
   refine zK ?_
   obtain ⟨r1,e2,H⟩:=bsi H
   refine rg ct42t0_ok ?_
   simp only [go_sem,Nat.reduceLT,Nat.reduceAdd,ct42t0_18,wP,e2]
   repeat ((with_reducible refine aI ?_ ?_);exact an0)
   refine sq zA ?_
   simp only [go_sem]
   refine yM rfl trivial (fun hc=>?_) (fun hc=>?_)
   ·have hk3:(bEq r1 0)=false:=by simpa using hc
    replace H:=yA hc H
    refine sq zA ?_
    simp only [go_sem]
    refine rg zA ?_
    simp only [go_sem]
    refine xQ zQ zA 7 ?_
    simp only [zM,tS,tZ,dS,dZ,go_sem,Nat.reduceLT,Nat.reduceAdd]
    repeat ((with_reducible refine aI ?_ ?_);exact an0)
    refine wS ?_
    refine zK ?_
    refine sq zA ?_
    simp only [go_sem]
    refine yM rfl trivial (fun hc=>?_) (fun hc=>?_)
    rotate_left
    ·simp [hk3] at hc
    refine sq zA ?_
    simp only [go_sem,Nat.reduceAdd]
    repeat ((with_reducible refine aI ?_ ?_);exact an5)
    refine rg zA ?_
    simp only [go_sem,Nat.reduceLT,Nat.reduceAdd]
    obtain rfl:=Option.some.inj H
    refine ⟨[0,1,2,3],?_,?_,[],?_,?_,rfl⟩
    ·simp only [go_sem]
     try exact at0
    ·simp only [go_sem]
     try exact at0
    ·simp only [go_sem]
     exact yY (zB (zJ (α:=TFrame)) (zB (yV (zB zF (zB zF (zB (zJ (α:=TSleeper)) (zB (zJ (α:=TStored)) zO))))) (zB zF zO)))
    ·simp only [go_sem,CvH]
   have hk3:(bEq r1 0)=true:=by simpa using hc
   replace H:=zZ hc H
   refine rg zA ?_
   simp only [go_sem]
   refine zK ?_
   refine sq zA ?_
   simp only [go_sem]
   repeat ((with_reducible refine aI ?_ ?_);exact an5)
   refine yM rfl trivial (fun hc=>?_) (fun hc=>?_)
   ·have hk4:((bLt p1 1) || (bLt 255 p1))=true:=by simpa using hc
    replace H:=yA hc H
    refine sq zA ?_
    simp only [go_sem]
    refine rg zA ?_
    simp only [go_sem]
    refine xQ zQ zA 7 ?_
    simp only [zM,tS,tZ,dS,dZ,go_sem,Nat.reduceLT,Nat.reduceAdd]
    repeat ((with_reducible refine aI ?_ ?_);exact an0)
    refine wS ?_
    refine zK ?_
    refine sq zA ?_
    simp only [go_sem,(by decide:bEq (2) (0)=false)]
    refine yM rfl trivial (fun hc=>?_) (fun hc=>?_)
    rotate_left
    ·cases hc
    refine sq zA ?_
    simp only [go_sem,Nat.reduceAdd]
    repeat ((with_reducible refine aI ?_ ?_);exact an5)
    refine rg zA ?_
    simp only [go_sem,Nat.reduceLT,Nat.reduceAdd]
    obtain rfl:=Option.some.inj H
    refine ⟨[0,1,2,3],?_,?_,[],?_,?_,rfl⟩
    ·simp only [go_sem]
     try exact at0
    ·simp only [go_sem]
     try exact at0
    ·simp only [go_sem]
     exact yY (zB (zJ (α:=TFrame)) (zB (yV (zB zF (zB zF (zB (zJ (α:=TSleeper)) (zB (zJ (α:=TStored)) zO))))) (zB zF zO)))
    ·simp only [go_sem,CvH]
   have hk4:((bLt p1 1) || (bLt 255 p1))=false:=by simpa using hc
   replace H:=zZ hc H
   refine rg zA ?_
   simp only [go_sem]
   refine zK ?_
   obtain ⟨r5,e6,H⟩:=bsi H
   refine rg ct42t1_ok ?_
   simp only [go_sem,Nat.reduceLT,Nat.reduceAdd,ct42t1_81,uF,e6]
   repeat ((with_reducible refine aI ?_ ?_);exact an0)
   refine zK ?_
   refine sq zA ?_
   simp only [go_sem]
   refine yM rfl trivial (fun hc=>?_) (fun hc=>?_)
   ·have hk7:(r5.2)=false:=by simpa using hc
    replace H:=yA hc H
    refine sq zA ?_
    simp only [go_sem]
    refine rg zA ?_
    simp only [go_sem]
    refine xQ zQ zA 7 ?_
    simp only [zM,tS,tZ,dS,dZ,go_sem,Nat.reduceLT,Nat.reduceAdd]
    repeat ((with_reducible refine aI ?_ ?_);exact an0)
    refine wS ?_
    refine zK ?_
    refine sq zA ?_
    simp only [go_sem,(by decide:bEq (6) (0)=false)]
    refine yM rfl trivial (fun hc=>?_) (fun hc=>?_)
    rotate_left
    ·cases hc
    refine sq zA ?_
    simp only [go_sem,Nat.reduceAdd]
    repeat ((with_reducible refine aI ?_ ?_);exact an5)
    refine rg zA ?_
    simp only [go_sem,Nat.reduceLT,Nat.reduceAdd]
    obtain rfl:=Option.some.inj H
    refine ⟨[0,1,2,3],?_,?_,[],?_,?_,rfl⟩
    ·simp only [go_sem]
     try exact at0
    ·simp only [go_sem]
     try exact at0
    ·simp only [go_sem]
     exact yY (zB (zJ (α:=TFrame)) (zB (yV (zB zF (zB zF (zB (zJ (α:=TSleeper)) (zB (zJ (α:=TStored)) zO))))) (zB zF zO)))
    ·simp only [go_sem,CvH]
   have hk7:(r5.2)=true:=by simpa using hc
   replace H:=zZ hc H
   refine rg zA ?_
   simp only [go_sem]
   refine zK ?_
   obtain ⟨r8,e9,H⟩:=bsi H
   refine rg ct42t2_ok ?_
   simp only [go_sem,Nat.reduceLT,Nat.reduceAdd,ct42t2_65,vX,e9]
   repeat ((with_reducible refine aI ?_ ?_);exact an0)
   refine zK ?_
   obtain ⟨f10,H⟩:=nI H
   refine vS zQ zA (by kernel_rfl) (by kernel_rfl) ?_
   simp only [go_sem,Nat.reduceLeDiff,Nat.reduceLT,Nat.reduceAdd,f10]
   repeat ((with_reducible refine aI ?_ ?_);exact an5)
   refine rg zA ?_
   simp only [go_sem]
   refine xQ zQ zA 7 ?_
   simp only [zM,tS,tZ,dS,dZ,go_sem,Nat.reduceLT,Nat.reduceAdd]
   repeat ((with_reducible refine aI ?_ ?_);exact an0)
   refine wS ?_
   refine zK ?_
   refine sq zA ?_
   simp only [go_sem,(by decide:bEq (0) (0)=true)]
   refine yM rfl trivial (fun hc=>?_) (fun hc=>?_)
   ·cases hc
   refine rg zA ?_
   simp only [go_sem]
   refine zK ?_
   obtain ⟨r11,e12,H⟩:=bsi H
   refine rg ct42t3_ok ?_
   simp only [go_sem,Nat.reduceLT,Nat.reduceAdd,ct42t3_53,tE,e12]
   repeat ((with_reducible refine aI ?_ ?_);exact an0)
   refine zK ?_
   refine kW [1] ?_ ?_
   ·simp only [go_sem,Nat.reduceBEq]
    try exact at0
   simp only [go_sem,Nat.reduceBEq,Nat.reduceAdd]
   obtain ⟨r13,e14,H⟩:=bsi H
   refine rg ct42t4_ok ?_
   simp only [go_sem,Nat.reduceLeDiff,Nat.reduceLT,Nat.reduceAdd,ct42t4_83,eC,e14]
   repeat ((with_reducible refine aI ?_ ?_);exact an3)
   refine zK ?_
   refine qZ ?_
   refine xQ zQ zA 2 ?_
   simp only [zM,tS,tZ,dS,dZ,go_sem]
   repeat ((with_reducible refine aI ?_ ?_);exact an3)
   refine gX (rs:=[.tmp 2]) Try.func54 (by kernel_rfl) rfl rfl Try.ntmps54 (caps:=[]) (tc:=[.ptr 3 0 0 0]) rfl (by simp only [go_sem]) rfl ?_
   simp only [lC,lN,Nat.reduceAdd,Nat.reduceSub,rS,rZ,aC,aN]
   refine sq zA ?_
   simp only [go_sem]
   refine zK ?_
   refine zK ?_
   obtain ⟨r15,e16,H⟩:=bsi H
   refine rg ct42t5_ok ?_
   simp only [go_sem,Nat.reduceLT,Nat.reduceAdd,ct42t5_47,qE,e16]
   repeat ((with_reducible refine aI ?_ ?_);exact an0)
   refine yM rfl trivial (fun hc=>?_) (fun hc=>?_)
   ·have hk17:(r15)=false:=by simpa using hc
    replace H:=yA hc H
    refine kW [5] ?_ ?_
    ·simp only [go_sem,Nat.reduceBEq]
     try exact at0
    simp only [go_sem,Nat.reduceBEq,Nat.reduceAdd]
    obtain ⟨r18,e19,H⟩:=bsi H
    refine rg ct42t3_ok ?_
    simp only [go_sem,Nat.reduceLT,Nat.reduceAdd,ct42t3_53,tE,e19]
    repeat ((with_reducible refine aI ?_ ?_);exact an0)
    refine sq zA ?_
    simp only [go_sem]
    refine rg zA ?_
    simp only [go_sem]
    obtain ⟨f20,H⟩:=nC H
    refine xQ zQ zA 2 ?_
    simp only [zM,tS,tZ,dS,dZ,go_sem,Nat.reduceLeDiff,Nat.reduceAdd,f20]
    repeat ((with_reducible refine aI ?_ ?_);exact an1)
    refine wS ?_
    refine zK ?_
    refine yL zQ zA 0 (by kernel_rfl) (by kernel_rfl) ?_
    intro an han
    simp only [wK,xR,vL,xrD,xoD,vM,wY,List.append_nil,xA,refs,mask,xZ,place,xI,wA,xK,hit,inL,xD,nrH,nrB,nrL,nr,rZ,Nat.sub_self,Nat.add_zero,Nat.zero_add,Nat.reduceSub,Nat.lt_add_one,go_sem,Nat.reduceLeDiff,Nat.reduceLT,Nat.reduceAdd,Nat.reduceSub,Nat.reduceBEq]
    repeat ((with_reducible refine aI ?_ ?_);exact an2)
    refine rg zA ?_
    simp only [go_sem,Nat.reduceLT,Nat.reduceAdd]
    obtain rfl:=Option.some.inj H
    refine ⟨[9,7,0,2,3],?_,?_,[],?_,?_,rfl⟩
    ·simp only [go_sem,Nat.reduceBEq]
     try exact at0
    ·simp only [go_sem,Nat.reduceBEq]
     try exact at0
    ·simp only [go_sem,Nat.reduceBEq]
     exact yY (zB (xN (by first|rfl|simp) (wW (f:=zI) r11 r18 (fun _ _ _ _=>rfl) (fun _ _ _ _=>rfl))) (zB (yV (zB zF (zB zF (zB (xN (by first|rfl|simp) (fun _ _ _ _=>rfl)) (zB (zJ (α:=TStored)) zO))))) (zB zF zO)))
    ·simp only [go_sem,CvH]
   have hk17:(r15)=true:=by simpa using hc
   replace H:=zZ hc H
   refine rg zA ?_
   simp only [go_sem]
   refine sq zA ?_
   simp only [go_sem]
   refine rg zA ?_
   simp only [go_sem]
   obtain ⟨f21,H⟩:=nC H
   refine xQ zQ zA 2 ?_
   simp only [zM,tS,tZ,dS,dZ,go_sem,Nat.reduceLeDiff,Nat.reduceAdd,reduceCtorEq,f21]
   repeat ((with_reducible refine aI ?_ ?_);exact an1)
   refine wS ?_
   refine zK ?_
   obtain ⟨w22,hw23,H⟩:=bsj H
   have lhw23:w22.length=r11.length:=by rw [← hw23];exact (by simp [(show ([]:List TFrame).length=0 from rfl)])
   refine vO (t2:=(tp 4 (.sl 8 41 0 w22.length false::.ptr 2 0 0 0::.top::.ptr 3 0 0 0::tp 34 []))) (h2:=[.lit 25 [.int .i64 p0.Limit,.int .i64 p0.Stay,.ro 3 p0.List.length false (enR zC p0.List),.ro 43 p0.Group.length false (enR zE p0.Group)],.dead,.lit 25 [.int .i64 0,.int .i64 0,.ro 0 0 true (fun _ _=>.top),.ro 0 0 true (fun _ _=>.top)],.lit 25 [.int .i64 r8.Limit,.int .i64 r8.Stay,.sl 7 3 0 r13.length false,.sl 5 43 0 r8.Group.length false],.dead,.row 61 43 r8.Group.length (enR zE r8.Group),.dead,.row 57 3 r13.length (enR zC r13),.row 33 41 w22.length (enR zI w22)]) ?_ ?_
   ·refine zT ⟨[some 0,some 1,some 2,some 3,some 4,some 5,some 6,some 7,some 8],?_,?_,by rfl,by rfl⟩
    ·simp [CvL,Cv,zX,tp,lhw23]
    ·exact ⟨(by simp [CvB,CvL,Cv,xH,geth]),zD,(by simp [CvB,CvL,Cv,xH,geth]),(by simp [CvB,CvL,Cv,xH,geth,zX]),zD,zS zV rfl (fun _ _ _ _=>rfl),zD,zS zH rfl (fun _ _ _ _=>rfl),zS xE lhw23 (hw23 ▸ (wW (f:=zI) r11 ([]:List TFrame) (fun _ _ _ _=>rfl) (fun x y hx=>absurd hx (by simp)))),trivial⟩
   simp only [tp]
   refine yL zQ zA 0 (by kernel_rfl) (by kernel_rfl) ?_
   intro an han
   simp only [wK,xR,vL,xrD,xoD,vM,wY,List.append_nil,xA,refs,mask,xZ,place,xI,wA,xK,hit,inL,xD,nrH,nrB,nrL,nr,rZ,Nat.sub_self,Nat.add_zero,Nat.zero_add,Nat.reduceSub,Nat.lt_add_one,go_sem,Nat.reduceLeDiff,Nat.reduceLT,Nat.reduceAdd,Nat.reduceSub,Nat.reduceBEq]
   repeat ((with_reducible refine aI ?_ ?_);exact an4)
   refine rg zA ?_
   simp only [go_sem,Nat.reduceLT,Nat.reduceAdd]
   obtain rfl:=Option.some.inj H
   refine ⟨[8,7,5,0,2,3],?_,?_,[],?_,?_,rfl⟩
   ·simp only [go_sem,Nat.reduceBEq]
    try exact at0
   ·simp only [go_sem,Nat.reduceBEq]
    try exact at0
   ·simp only [go_sem,Nat.reduceBEq]
    exact yY (zB (xN (by first|rfl|simp) (fun _ _ _ _=>rfl)) (zB (yV (zB zF (zB zF (zB (xN (by first|rfl|simp) (fun _ _ _ _=>rfl)) (zB (xN (by first|rfl|simp) (fun _ _ _ _=>rfl)) zO))))) (zB zF zO)))
   ·simp only [go_sem,CvH]
  ·cases hb
 ·unfold body42 at hb
  split at hb<;>cases hb
noncomputable def F52_1:Option (List TFrame) :=
 some []
noncomputable def gF:List AV->Nat->AR
 | [.ro 0 0 true _],s=>.heap ((F52_1).isSome=true) (.sl s 41 0 ((gt F52_1).length) false) [.row 33 41 ((gt F52_1).length) (enR zI (gt F52_1))]
 | _,_=>.fail
theorem ok52_1:wM Try.prog 52 (xU gF):=by
 refine uZ gF (rs:=[.tmp 2]) Try.func52 (by kernel_rfl) rfl rfl ?_
 intro l s ob v ns hb hob
 rcases hb with ⟨hb,rfl⟩|hb
 ·unfold gF at hb
  split at hb<;>cases hb
 ·unfold gF at hb
  split at hb
  ·injection hb with q1 q2 q3;subst q1 q2 q3
   obtain ⟨r,H⟩:=oE.1 hob
   rw [H,yQ]
   refine ⟨[.ro 0 0 true (fun _ _=>.top)],.sl 0 41 0 r.length false,[.row 33 41 r.length (enR zI r)],(fun E vs F=>yO (fun _ _ h=>ro_nil h) F (fun vs F=>F)),by simp only [ren,rnN_0],⟨gD xE,trivial⟩,?_⟩
   rw [Try.ntmps52]
   simp only [lC,lN,Nat.reduceAdd,Nat.reduceSub,rS,rZ,aC,aN]
   unfold F52_1 at H
   try dsimp only at H
   refine sq zA ?_
   simp only [go_sem]
   refine zK ?_
   refine sq zA ?_
   simp only [go_sem]
   repeat ((with_reducible refine aI ?_ ?_);exact an0)
   refine wN ?_
   refine loop_roundsM 1 ?_
   refine rndM ?_
   refine sq zA ?_
   simp only [go_sem,(by decide:bLt (0) (0)=false)]
   refine zK ?_
   refine yM rfl trivial (fun hc=>?_) (fun hc=>?_)
   ·cases hc
   refine rg zA ?_
   simp only [go_sem]
   refine sq zA ?_
   simp only [go_sem]
   refine rg zA ?_
   simp only [go_sem]
   obtain rfl:=Option.some.inj H
   refine ⟨[],?_,?_,[none],?_,?_,by rfl⟩
   ·simp only [go_sem]
   ·simp only [go_sem]
   ·simp [fzV,Cv]
   ·simp only [go_sem,CvH]
    exact qO
  ·cases hb
noncomputable def ct21t0:Ct:=tab [(18,yF wP)]
theorem ct21t0_ok:yZ Try.prog ct21t0:=zR ok18 <| zY
theorem ct21t0_18 (l:List AV) (h:List ABlk):ct21t0 18 l h=yF wP l h:=rfl
noncomputable def ct21t1:Ct:=tab [(81,yF uF)]
theorem ct21t1_ok:yZ Try.prog ct21t1:=zR ok81 <| zY
theorem ct21t1_81 (l:List AV) (h:List ABlk):ct21t1 81 l h=yF uF l h:=rfl
noncomputable def ct21t2:Ct:=tab [(65,xU vX)]
theorem ct21t2_ok:yZ Try.prog ct21t2:=zR ok65 <| zY
theorem ct21t2_65 (l:List AV) (h:List ABlk):ct21t2 65 l h=xU vX l h:=rfl
noncomputable def ct21t3:Ct:=tab [(52,edC vA),(53,xU tE)]
theorem ct21t3_ok:yZ Try.prog ct21t3:=zR ok52_0 <| zR ok53 <| zY
theorem ct21t3_52 (l:List AV) (h:List ABlk):ct21t3 52 l h=edC vA l h:=rfl
theorem ct21t3_53 (l:List AV) (h:List ABlk):ct21t3 53 l h=xU tE l h:=rfl
noncomputable def ct21t4:Ct:=tab [(47,yF qE)]
theorem ct21t4_ok:yZ Try.prog ct21t4:=zR ok47 <| zY
theorem ct21t4_47 (l:List AV) (h:List ABlk):ct21t4 47 l h=yF qE l h:=rfl
noncomputable def ct21t5:Ct:=tab [(53,xU tE)]
theorem ct21t5_ok:yZ Try.prog ct21t5:=zR ok53 <| zY
theorem ct21t5_53 (l:List AV) (h:List ABlk):ct21t5 53 l h=xU tE l h:=rfl
noncomputable def ct21t6:Ct:=tab [(52,edC vA)]
theorem ct21t6_ok:yZ Try.prog ct21t6:=zR ok52_0 <| zY
theorem ct21t6_52 (l:List AV) (h:List ABlk):ct21t6 52 l h=edC vA l h:=rfl
noncomputable def ct21t7:Ct:=tab [(52,xU gF)]
theorem ct21t7_ok:yZ Try.prog ct21t7:=zR ok52_1 <| zY
theorem ct21t7_52 (l:List AV) (h:List ABlk):ct21t7 52 l h=xU gF l h:=rfl
noncomputable def F21 (p0:TBuffer) (p1:Int):Option ((List TFrame) × TBuffer × Int) :=
 (F18 p0).bind fun r1=>bif (!bEq r1 0) then (some ([],(TBuffer.mk 0 0 [] []),r1)) else (bif ((bLt p1 1) || (bLt 255 p1)) then (some ([],(TBuffer.mk 0 0 [] []),2)) else ((F81 p0 p1).bind fun r5=>bif (!r5.2) then (some ([],(TBuffer.mk 0 0 [] []),6)) else ((F65 p0).bind fun r8=>need (inb r5.1 r8.List.length) <| (F53 ((gd r8.List r5.1.toNat).Held)).bind fun r11=>(gY r11).bind fun r13=>(some ((r8.List.set r5.1.toNat (TSleeper.mk ((gd r8.List r5.1.toNat).Aid) false ((gd r8.List r5.1.toNat).Held))).set r5.1.toNat (TSleeper.mk ((gd (r8.List.set r5.1.toNat (TSleeper.mk ((gd r8.List r5.1.toNat).Aid) false ((gd r8.List r5.1.toNat).Held))) r5.1.toNat).Aid) ((gd (r8.List.set r5.1.toNat (TSleeper.mk ((gd r8.List r5.1.toNat).Aid) false ((gd r8.List r5.1.toNat).Held))) r5.1.toNat).Asleep) []))).bind fun w15=>(F47 (TBuffer.mk r8.Limit r8.Stay w15 r8.Group)).bind fun r17=>bif (!r17) then ((F53 r8.Group).bind fun r20=>(gY r20).bind fun r22=>need (capb 104 (r13.length+r22.length)) <| some ((r13 ++ r22),(TBuffer.mk r8.Limit r8.Stay w15 []),0)) else ((F52_1).bind fun r25=>need (capb 104 (r13.length+r25.length)) <| some ((r13 ++ r25),(TBuffer.mk r8.Limit r8.Stay w15 r8.Group),0)))))
noncomputable def body21:List AV->Nat->AR
 | [v0,v1],_=>.pure (aK 4 wC v0/\iK .i64 v1/\(F21 (zG (aL v0)) (iA v1)).isSome=true) (.tup [.ro 41 (((gt (F21 (zG (aL v0)) (iA v1))).1).length) false (enR zI ((gt (F21 (zG (aL v0)) (iA v1))).1)),.agg [.int .i64 (((gt (F21 (zG (aL v0)) (iA v1))).2.1).Limit),.int .i64 (((gt (F21 (zG (aL v0)) (iA v1))).2.1).Stay),.ro 3 ((((gt (F21 (zG (aL v0)) (iA v1))).2.1).List).length) false (enR zC (((gt (F21 (zG (aL v0)) (iA v1))).2.1).List)),.ro 43 ((((gt (F21 (zG (aL v0)) (iA v1))).2.1).Group).length) false (enR zE (((gt (F21 (zG (aL v0)) (iA v1))).2.1).Group))],.int .i64 ((gt (F21 (zG (aL v0)) (iA v1))).2.2)])
 | _,_=>.fail
theorem ok21:wM Try.prog 21 (xU body21):=by
 refine uZ body21 (rs:=[.tmp 4,.cell 5 25,.tmp 6]) Try.func21 (by kernel_rfl) rfl rfl ?_
 intro l s ob v ns hb hob
 rcases hb with ⟨hb,rfl⟩|hb
 ·unfold body21 at hb
  split at hb
  ·rename_i v0 v1
   injection hb with q1 q2;subst q1 q2
   obtain ⟨hk0_0,hk1_0,hob⟩:=hob
   obtain ⟨r,H⟩:=oE.1 hob
   rw [H,yQ]
   have hw0:=wU hk0_0
   have hw1:=yI hk1_0
   generalize zG (aL v0)=p0 at H hw0
   generalize iA v1=p1 at H hw1
   refine ⟨[.agg [.int .i64 p0.Limit,.int .i64 p0.Stay,.ro 3 p0.List.length false (enR zC p0.List),.ro 43 p0.Group.length false (enR zE p0.Group)],.int .i64 p1],.tup [.ro 41 r.1.length false (enR zI r.1),.agg [.int .i64 r.2.1.Limit,.int .i64 r.2.1.Stay,.ro 3 r.2.1.List.length false (enR zC r.2.1.List),.ro 43 r.2.1.Group.length false (enR zE r.2.1.Group)],.int .i64 r.2.2],[],(fun E vs F=>yO hw0.1 F (fun vs F=>yO hw1.1 F (fun vs F=>F))),by simp only [ren,uS],trivial,?_⟩
   rw [Try.ntmps21]
   simp only [lC,lN,Nat.reduceAdd,Nat.reduceSub,rS,rZ,aC,aN]
   unfold F21 at H
   try dsimp only at H
   refine sq zA ?_
   simp only [go_sem]
   refine zK ?_
   refine qZ ?_
   refine xQ zQ zA 2 ?_
   simp only [zM,tS,tZ,dS,dZ,go_sem,Nat.reduceLT,Nat.reduceAdd]
   repeat ((with_reducible refine aI ?_ ?_);exact an0)
   refine gX (rs:=[.tmp 4,.tmp 5,.tmp 6]) Try.func51 (by kernel_rfl) rfl rfl Try.ntmps51 (caps:=[]) (tc:=[.agg [.int .i64 p0.Limit,.int .i64 p0.Stay,.ro 3 p0.List.length false (enR zC p0.List),.ro 43 p0.Group.length false (enR zE p0.Group)],.int .i64 p1]) rfl (by simp only [go_sem]) rfl ?_
   simp only [lC,lN,Nat.reduceAdd,Nat.reduceSub,rS,rZ,aC,aN]
   refine sq zA ?_
   simp only [go_sem,Nat.reduceAdd]
   refine zK ?_
   refine zK ?_
   obtain ⟨r1,e2,H⟩:=bsi H
   refine rg ct21t0_ok ?_
   simp only [go_sem,Nat.reduceLT,Nat.reduceAdd,ct21t0_18,wP,e2]
   repeat ((with_reducible refine aI ?_ ?_);exact an0)
   refine sq zA ?_
   simp only [go_sem]
   refine yM rfl trivial (fun hc=>?_) (fun hc=>?_)
   ·have hk3:(bEq r1 0)=false:=by simpa using hc
    replace H:=yA hc H
    refine sq zA ?_
    simp only [go_sem]
    refine rg zA ?_
    simp only [go_sem]
    refine xQ zQ zA 7 ?_
    simp only [zM,tS,tZ,dS,dZ,go_sem,Nat.reduceLT,Nat.reduceAdd]
    repeat ((with_reducible refine aI ?_ ?_);exact an0)
    refine wS ?_
    refine zK ?_
    refine sq zA ?_
    simp only [go_sem]
    refine yM rfl trivial (fun hc=>?_) (fun hc=>?_)
    rotate_left
    ·simp [hk3] at hc
    refine sq zA ?_
    simp only [go_sem,Nat.reduceAdd]
    repeat ((with_reducible refine aI ?_ ?_);exact an5)
    refine rg zA ?_
    simp only [go_sem,Nat.reduceLT,Nat.reduceAdd]
    obtain rfl:=Option.some.inj H
    refine ⟨[0,1,2],?_,?_,[],?_,?_,rfl⟩
    ·simp only [go_sem]
     try exact at0
    ·simp only [go_sem]
     try exact at0
    ·simp only [go_sem]
     exact yY (zB (zJ (α:=TFrame)) (zB (yV (zB zF (zB zF (zB (zJ (α:=TSleeper)) (zB (zJ (α:=TStored)) zO))))) (zB zF zO)))
    ·simp only [go_sem,CvH]
   have hk3:(bEq r1 0)=true:=by simpa using hc
   replace H:=zZ hc H
   refine rg zA ?_
   simp only [go_sem]
   refine zK ?_
   refine sq zA ?_
   simp only [go_sem]
   repeat ((with_reducible refine aI ?_ ?_);exact an5)
   refine yM rfl trivial (fun hc=>?_) (fun hc=>?_)
   ·have hk4:((bLt p1 1) || (bLt 255 p1))=true:=by simpa using hc
    replace H:=yA hc H
    refine sq zA ?_
    simp only [go_sem]
    refine rg zA ?_
    simp only [go_sem]
    refine xQ zQ zA 7 ?_
    simp only [zM,tS,tZ,dS,dZ,go_sem,Nat.reduceLT,Nat.reduceAdd]
    repeat ((with_reducible refine aI ?_ ?_);exact an0)
    refine wS ?_
    refine zK ?_
    refine sq zA ?_
    simp only [go_sem,(by decide:bEq (2) (0)=false)]
    refine yM rfl trivial (fun hc=>?_) (fun hc=>?_)
    rotate_left
    ·cases hc
    refine sq zA ?_
    simp only [go_sem,Nat.reduceAdd]
    repeat ((with_reducible refine aI ?_ ?_);exact an5)
    refine rg zA ?_
    simp only [go_sem,Nat.reduceLT,Nat.reduceAdd]
    obtain rfl:=Option.some.inj H
    refine ⟨[0,1,2],?_,?_,[],?_,?_,rfl⟩
    ·simp only [go_sem]
     try exact at0
    ·simp only [go_sem]
     try exact at0
    ·simp only [go_sem]
     exact yY (zB (zJ (α:=TFrame)) (zB (yV (zB zF (zB zF (zB (zJ (α:=TSleeper)) (zB (zJ (α:=TStored)) zO))))) (zB zF zO)))
    ·simp only [go_sem,CvH]
   have hk4:((bLt p1 1) || (bLt 255 p1))=false:=by simpa using hc
   replace H:=zZ hc H
   refine rg zA ?_
   simp only [go_sem]
   refine zK ?_
   obtain ⟨r5,e6,H⟩:=bsi H
   refine rg ct21t1_ok ?_
   simp only [go_sem,Nat.reduceLT,Nat.reduceAdd,ct21t1_81,uF,e6]
   repeat ((with_reducible refine aI ?_ ?_);exact an0)
   refine zK ?_
   refine sq zA ?_
   simp only [go_sem]
   refine yM rfl trivial (fun hc=>?_) (fun hc=>?_)
   ·have hk7:(r5.2)=false:=by simpa using hc
    replace H:=yA hc H
    refine sq zA ?_
    simp only [go_sem]
    refine rg zA ?_
    simp only [go_sem]
    refine xQ zQ zA 7 ?_
    simp only [zM,tS,tZ,dS,dZ,go_sem,Nat.reduceLT,Nat.reduceAdd]
    repeat ((with_reducible refine aI ?_ ?_);exact an0)
    refine wS ?_
    refine zK ?_
    refine sq zA ?_
    simp only [go_sem,(by decide:bEq (6) (0)=false)]
    refine yM rfl trivial (fun hc=>?_) (fun hc=>?_)
    rotate_left
    ·cases hc
    refine sq zA ?_
    simp only [go_sem,Nat.reduceAdd]
    repeat ((with_reducible refine aI ?_ ?_);exact an5)
    refine rg zA ?_
    simp only [go_sem,Nat.reduceLT,Nat.reduceAdd]
    obtain rfl:=Option.some.inj H
    refine ⟨[0,1,2],?_,?_,[],?_,?_,rfl⟩
    ·simp only [go_sem]
     try exact at0
    ·simp only [go_sem]
     try exact at0
    ·simp only [go_sem]
     exact yY (zB (zJ (α:=TFrame)) (zB (yV (zB zF (zB zF (zB (zJ (α:=TSleeper)) (zB (zJ (α:=TStored)) zO))))) (zB zF zO)))
    ·simp only [go_sem,CvH]
   have hk7:(r5.2)=true:=by simpa using hc
   replace H:=zZ hc H
   refine rg zA ?_
   simp only [go_sem]
   refine zK ?_
   obtain ⟨r8,e9,H⟩:=bsi H
   refine rg ct21t2_ok ?_
   simp only [go_sem,Nat.reduceLT,Nat.reduceAdd,ct21t2_65,vX,e9]
   repeat ((with_reducible refine aI ?_ ?_);exact an0)
   refine zK ?_
   obtain ⟨f10,H⟩:=nI H
   refine vS zQ zA (by kernel_rfl) (by kernel_rfl) ?_
   simp only [go_sem,Nat.reduceLeDiff,Nat.reduceLT,Nat.reduceAdd,f10]
   repeat ((with_reducible refine aI ?_ ?_);exact an5)
   refine rg zA ?_
   simp only [go_sem]
   refine xQ zQ zA 7 ?_
   simp only [zM,tS,tZ,dS,dZ,go_sem,Nat.reduceLT,Nat.reduceAdd]
   repeat ((with_reducible refine aI ?_ ?_);exact an0)
   refine wS ?_
   refine zK ?_
   refine sq zA ?_
   simp only [go_sem,(by decide:bEq (0) (0)=true)]
   refine yM rfl trivial (fun hc=>?_) (fun hc=>?_)
   ·cases hc
   refine rg zA ?_
   simp only [go_sem]
   refine zK ?_
   obtain ⟨r11,e12,H⟩:=bsi H
   obtain ⟨r13,e14,H⟩:=bsi H
   refine rg ct21t3_ok ?_
   simp only [go_sem,Nat.reduceLT,Nat.reduceAdd,ct21t3_52,vA,ct21t3_53,tE,e12,e14]
   repeat ((with_reducible refine aI ?_ ?_);exact an0)
   refine sq zA ?_
   simp only [go_sem,Nat.reduceLeDiff,Nat.reduceAdd]
   repeat ((with_reducible refine aI ?_ ?_);exact an5)
   refine zK ?_
   obtain ⟨w15,hw16,H⟩:=bsj H
   have lhw16:w15.length=r8.List.length:=by rw [← hw16];exact (by simp only [List.length_set])
   refine vO (t2:=(tp 4 (.sl 6 41 0 r13.length false::.ptr 1 0 0 0::.top::.ptr 2 0 0 0::tp 33 []))) (h2:=[.lit 25 [.int .i64 p0.Limit,.int .i64 p0.Stay,.ro 3 p0.List.length false (enR zC p0.List),.ro 43 p0.Group.length false (enR zE p0.Group)],.lit 25 [.int .i64 0,.int .i64 0,.ro 0 0 true (fun _ _=>.top),.ro 0 0 true (fun _ _=>.top)],.lit 25 [.int .i64 r8.Limit,.int .i64 r8.Stay,.sl 3 3 0 w15.length false,.sl 4 43 0 r8.Group.length false],.row 57 3 w15.length (enR zC w15),.row 61 43 r8.Group.length (enR zE r8.Group),.dead,.row 33 41 r13.length (enR zI r13)]) ?_ ?_
   ·refine zT ⟨[some 0,some 1,some 2,some 3,some 4,some 5,some 6],?_,?_,by rfl,by rfl⟩
    ·simp [CvL,Cv,zX,tp]
    ·exact ⟨(by simp [CvB,CvL,Cv,xH,geth]),(by simp [CvB,CvL,Cv,xH,geth]),(by simp [CvB,CvL,Cv,xH,geth,zX,lhw16]),CvB_rowW lhw16 (hw16 ▸ (upc_rowW (f:=zC) (r8.List.set r5.1.toNat (TSleeper.mk ((gd r8.List r5.1.toNat).Aid) false ((gd r8.List r5.1.toNat).Held))) r5.1.toNat 2 (TSleeper.mk ((gd (r8.List.set r5.1.toNat (TSleeper.mk ((gd r8.List r5.1.toNat).Aid) false ((gd r8.List r5.1.toNat).Held))) r5.1.toNat).Aid) ((gd (r8.List.set r5.1.toNat (TSleeper.mk ((gd r8.List r5.1.toNat).Aid) false ((gd r8.List r5.1.toNat).Held))) r5.1.toNat).Asleep) []) (wk_eq zH (tD (f:=zC) r8.List r5.1.toNat 1 (TSleeper.mk ((gd r8.List r5.1.toNat).Aid) false ((gd r8.List r5.1.toNat).Held)) (fun _ _ _ _=>rfl) (fun y hy=>match y,hy with|0,_=>rfl|1,_=>rfl|2,_=>rfl|(y+3),h=>absurd h nlt))) (fun y hy μ=>match y,hy with|0,_=>by simp [zC,zL]|1,_=>by simp [zC,zL]|2,_=>by simp [zC,zL,Cv]|(y+3),h=>absurd h nlt))),zS zV rfl (fun _ _ _ _=>rfl),zD,zS xE rfl (fun _ _ _ _=>rfl),trivial⟩
   simp only [tp]
   refine qZ ?_
   refine xQ zQ zA 2 ?_
   simp only [zM,tS,tZ,dS,dZ,go_sem]
   repeat ((with_reducible refine aI ?_ ?_);exact an0)
   refine gX (rs:=[.tmp 2]) Try.func54 (by kernel_rfl) rfl rfl Try.ntmps54 (caps:=[]) (tc:=[.ptr 2 0 0 0]) rfl (by simp only [go_sem]) rfl ?_
   simp only [lC,lN,Nat.reduceAdd,Nat.reduceSub,rS,rZ,aC,aN]
   refine sq zA ?_
   simp only [go_sem]
   refine zK ?_
   refine zK ?_
   obtain ⟨r17,e18,H⟩:=bsi H
   refine rg ct21t4_ok ?_
   simp only [go_sem,Nat.reduceLT,Nat.reduceAdd,ct21t4_47,qE,e18]
   repeat ((with_reducible refine aI ?_ ?_);exact an0)
   refine condM' rfl trivial (fun hc=>?_) (fun hc=>?_)
   ·have hk19:(r17)=true:=by simpa using hc
    replace H:=zZ hc H
    refine rg zA ?_
    simp only [go_sem]
    refine sq zA ?_
    simp only [go_sem]
    refine rg zA ?_
    simp only [go_sem]
    obtain ⟨r25,e26,H⟩:=bsi H
    obtain ⟨f27,H⟩:=nC H
    refine xQ zQ ct21t7_ok 3 ?_
    simp only [zM,tS,tZ,dS,dZ,go_sem,Nat.reduceLeDiff,Nat.reduceAdd,ct21t7_52,gF,e26,f27]
    repeat ((with_reducible refine aI ?_ ?_);exact an1)
    refine wS ?_
    refine zK ?_
    refine yL zQ zA 0 (by kernel_rfl) (by kernel_rfl) ?_
    intro an han
    simp only [wK,xR,vL,xrD,xoD,vM,wY,List.append_nil,xA,refs,mask,xZ,place,xI,wA,xK,hit,inL,xD,nrH,nrB,nrL,nr,rZ,Nat.sub_self,Nat.add_zero,Nat.zero_add,Nat.reduceSub,Nat.lt_add_one,go_sem,Nat.reduceLeDiff,Nat.reduceLT,Nat.reduceAdd,Nat.reduceSub,Nat.reduceBEq]
    repeat ((with_reducible refine aI ?_ ?_);exact an2)
    refine rg zA ?_
    simp only [go_sem,Nat.reduceLT,Nat.reduceAdd]
    obtain rfl:=Option.some.inj H
    refine ⟨[8,3,4,0,1,2],?_,?_,[],?_,?_,rfl⟩
    ·simp only [go_sem,Nat.reduceBEq]
     try exact at0
    ·simp only [go_sem,Nat.reduceBEq]
     try exact at0
    ·simp only [go_sem,Nat.reduceBEq]
     exact yY (zB (xN (by first|rfl|simp) (wW (f:=zI) r13 r25 (fun _ _ _ _=>rfl) (fun _ _ _ _=>rfl))) (zB (yV (zB zF (zB zF (zB (xN (by first|rfl|simp) (fun _ _ _ _=>rfl)) (zB (xN (by first|rfl|simp) (fun _ _ _ _=>rfl)) zO))))) (zB zF zO)))
    ·simp only [go_sem,CvH]
   have hk19:(r17)=false:=by simpa using hc
   replace H:=yA hc H
   refine kW [4] ?_ ?_
   ·simp only [go_sem,Nat.reduceBEq]
    try exact at0
   simp only [go_sem,Nat.reduceBEq,Nat.reduceAdd]
   obtain ⟨r20,e21,H⟩:=bsi H
   refine rg ct21t5_ok ?_
   simp only [go_sem,Nat.reduceLT,Nat.reduceAdd,ct21t5_53,tE,e21]
   repeat ((with_reducible refine aI ?_ ?_);exact an0)
   refine sq zA ?_
   simp only [go_sem]
   refine rg zA ?_
   simp only [go_sem]
   obtain ⟨r22,e23,H⟩:=bsi H
   obtain ⟨f24,H⟩:=nC H
   refine xQ zQ ct21t6_ok 3 ?_
   simp only [zM,tS,tZ,dS,dZ,go_sem,Nat.reduceLeDiff,Nat.reduceAdd,ct21t6_52,vA,e23,f24]
   repeat ((with_reducible refine aI ?_ ?_);exact an1)
   refine wS ?_
   refine zK ?_
   refine yL zQ zA 0 (by kernel_rfl) (by kernel_rfl) ?_
   intro an han
   simp only [wK,xR,vL,xrD,xoD,vM,wY,List.append_nil,xA,refs,mask,xZ,place,xI,wA,xK,hit,inL,xD,nrH,nrB,nrL,nr,rZ,Nat.sub_self,Nat.add_zero,Nat.zero_add,Nat.reduceSub,Nat.lt_add_one,go_sem,Nat.reduceLeDiff,Nat.reduceLT,Nat.reduceAdd,Nat.reduceSub,Nat.reduceBEq]
   repeat ((with_reducible refine aI ?_ ?_);exact an2)
   refine rg zA ?_
   simp only [go_sem,Nat.reduceLT,Nat.reduceAdd]
   obtain rfl:=Option.some.inj H
   refine ⟨[9,3,0,1,2],?_,?_,[],?_,?_,rfl⟩
   ·simp only [go_sem,Nat.reduceBEq]
    try exact at0
   ·simp only [go_sem,Nat.reduceBEq]
    try exact at0
   ·simp only [go_sem,Nat.reduceBEq]
    exact yY (zB (xN (by first|rfl|simp) (wW (f:=zI) r13 r22 (fun _ _ _ _=>rfl) (fun _ _ _ _=>rfl))) (zB (yV (zB zF (zB zF (zB (xN (by first|rfl|simp) (fun _ _ _ _=>rfl)) (zB (zJ (α:=TStored)) zO))))) (zB zF zO)))
   ·simp only [go_sem,CvH]
  ·cases hb
 ·unfold body21 at hb
  split at hb<;>cases hb
end Go.Proofs.Ytefiemaoacmdkaa
