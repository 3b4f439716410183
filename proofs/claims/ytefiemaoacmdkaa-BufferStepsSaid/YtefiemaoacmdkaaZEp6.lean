/-
  Contracts of functions: each computes its partial function.
-/
import Derived.Test.YtefiemaoacmdkaaZEp4
namespace Go.Proofs.Ytefiemaoacmdkaa
open Go.Am
set_option maxHeartbeats 4000000
set_option maxRecDepth 20000
set_option linter.unusedVariables false
set_option linter.unusedSimpArgs false
noncomputable def F56 (p0:TStored) (p1:TStored):Option (Int) :=
 (F57 p0.Cat p1.Cat).bind fun r1=>some r1
noncomputable def body56 (l:List AV):AR:=PP (dC uF (dC uF dN)) (fun p=>F56 p.1 p.2.1) (fun r=>.int .i64 r) l
attribute [go_sem] body56
theorem ok56:yU Try.prog 56 (yR body56):=PPo (rs:=[.tmp 4]) Try.func56 (by kernel_rfl) rfl rfl Try.ntmps56 (fun _=>rfl) fun ⟨p0,p1,_⟩ r H=>by
 have C:=zE ok57 <| zU
 dsimp only [F56] at H
 exact dq
noncomputable def F59_0 (p0:TStored) (p1:Int):Option (Bool) :=
 some (bEq p0.Cat p1)
noncomputable def body59_0 (l:List AV):AR:=PP (dC uF (dC dr_u8 dN)) (fun p=>F59_0 p.1 p.2.1) (fun r=>.bool r) l
attribute [go_sem] body59_0
theorem ok59_0:yU Try.prog 59 (yR body59_0):=PPo (rs:=[.tmp 3]) Try.func59 (by kernel_rfl) rfl rfl Try.ntmps59 (fun _=>rfl) fun ⟨p0,p1,_⟩ r H=>by
 have C:=zA
 dsimp only [F59_0] at H
 exact dq
noncomputable def bT (p0:List TStored) (p1:Int) (v1_1:Int):Option (Lp (Int) ((Unit) ⊕ (Int))) :=
 bif (bLt v1_1 (p0.length:Nat)) then (need (inb v1_1 p0.length) <| (F59_0 (TStored.mk ((gd p0 v1_1.toNat).Cat) ((gd p0 v1_1.toNat).At) (eF ((gd p0 v1_1.toNat).Frame))) p1).bind fun r3=>bif r3 then (some (.done (.inr v1_1))) else (some (.next (wr .i64 (v1_1+1))))) else (some (.done (.inl ())))
noncomputable def F58_1 (p0:List TStored) (p1:Int):Option (Int) :=
 lp (loopD (fun s=>bT p0 p1 s) 0) (fun _=>some (-1)) some
noncomputable def body58_1 (l:List AV):AR:=PP (dC xI (dC (dF 59 (dC dr_u8 dN) (lC1 lN0)) dN)) (fun p=>F58_1 p.1 p.2.1.1) (fun r=>.int .i64 r) l
attribute [go_sem] body58_1
noncomputable instance lt_F58_1_L1 {p0:List TStored} {p1:Int}:LT (fun s=>bT p0 p1 s):=⟨(fun _ _ (s:Int)=>(.ro 43 p0.length false (enR zD p0)::.fn 59 [.rptr 1 1 0 0 (enR xA [p1])]::tp 5 (.int .i64 (p0.length:Nat)::.int .i64 s::tp 10 []))),(fun _ _ s=>[]),(fun _ _ (e:Unit)=>(tp 19 [])),(fun _ _ e=>[]),_,fun s=>bT.eq_1 _ _ _⟩
theorem ok58_1:yU Try.prog 58 (yR body58_1):=PPo (rs:=[.tmp 4]) Try.func58 (by kernel_rfl) rfl rfl Try.ntmps58 (fun _=>rfl) fun ⟨p0,⟨p1,_⟩,_⟩ r H=>by
 have C:=zE ok59_0 <| zU
 dsimp only [F58_1] at H
 exact dq
noncomputable def ct23dt0:Ct:=tab [(18,yR jQ)]
theorem ct23dt0_18 (l:List AV) (h:List ABlk):ct23dt0 18 l h=yR jQ l h:=rfl
noncomputable def ct23dt1:Ct:=tab [(81,yR cF)]
theorem ct23dt1_ok:wO Try.prog ct23dt1:=zE ok81 <| zU
theorem ct23dt1_81 (l:List AV) (h:List ABlk):ct23dt1 81 l h=yR cF l h:=rfl
noncomputable def ct23dt2 (gi:Nat):Ct:=tab [(65,xN (tW gi))]
theorem ct23dt2_ok (gi:Nat):wO Try.prog (ct23dt2 gi):=zE (ok65fd gi) <| zU
theorem ct23dt2_65 (gi:Nat) (l:List AV) (h:List ABlk):(ct23dt2 gi) 65 l h=xN (tW gi) l h:=rfl
noncomputable def ct23dt3:Ct:=tab [(56,yR body56)]
theorem ct23dt3_56 (l:List AV) (h:List ABlk):ct23dt3 56 l h=yR body56 l h:=rfl
noncomputable def ct23dt4:Ct:=tab [(58,yR body58_1)]
theorem ct23dt4_ok:wO Try.prog ct23dt4:=zE ok58_1 <| zU
theorem ct23dt4_58 (l:List AV) (h:List ABlk):ct23dt4 58 l h=yR body58_1 l h:=rfl
noncomputable def ct23dt5:Ct:=tab [(60,delN 61 43)]
theorem ct23dt5_ok:wO Try.prog ct23dt5:=zE ok60 <| zU
theorem ct23dt5_60 (l:List AV) (h:List ABlk):ct23dt5 60 l h=delN 61 43 l h:=rfl
noncomputable def F23_L1 (r5:Int × Bool) (r8:TBuffer) (v1_1:Int) (v1_2:TStored):Option (Lp (Int × TStored) ((TStored) ⊕ (TFrame × TBuffer × Int))) :=
 bif (bLt v1_1 (((gd r8.List r5.1.toNat).Held).length:Nat)) then (need (inb v1_1 (((gd r8.List r5.1.toNat).Held).length)) <| (F56 (TStored.mk ((gd ((gd r8.List r5.1.toNat).Held) v1_1.toNat).Cat) ((gd ((gd r8.List r5.1.toNat).Held) v1_1.toNat).At) (eF ((gd ((gd r8.List r5.1.toNat).Held) v1_1.toNat).Frame))) v1_2).bind fun r17=>bif (bLt 0 r17) then (need (inb v1_1 (((gd r8.List r5.1.toNat).Held).length)) <| some (.next (wr .i64 (v1_1+1),(TStored.mk ((gd ((gd r8.List r5.1.toNat).Held) v1_1.toNat).Cat) ((gd ((gd r8.List r5.1.toNat).Held) v1_1.toNat).At) (eF ((gd ((gd r8.List r5.1.toNat).Held) v1_1.toNat).Frame)))))) else (some (.next (wr .i64 (v1_1+1),v1_2)))) else (some (.done (.inl v1_2)))
noncomputable def F23 (p0:TBuffer) (p1:Int):Option (TFrame × TBuffer × Int) :=
 (F18 p0).bind fun r1=>bif (!bEq r1 0) then (some ((TFrame.mk (THeader.mk 0 0 false false false false false false false 0 (A6u8.mk 0 0 0 0 0 0) (A6u8.mk 0 0 0 0 0 0) (A6u8.mk 0 0 0 0 0 0) (A6u8.mk 0 0 0 0 0 0) 0 0 0 0 false false) []),(TBuffer.mk 0 0 [] []),r1)) else (bif ((bLt p1 1) || (bLt 255 p1)) then (some ((TFrame.mk (THeader.mk 0 0 false false false false false false false 0 (A6u8.mk 0 0 0 0 0 0) (A6u8.mk 0 0 0 0 0 0) (A6u8.mk 0 0 0 0 0 0) (A6u8.mk 0 0 0 0 0 0) 0 0 0 0 false false) []),(TBuffer.mk 0 0 [] []),2)) else ((F81 p0 p1).bind fun r5=>bif (!r5.2) then (some ((TFrame.mk (THeader.mk 0 0 false false false false false false false 0 (A6u8.mk 0 0 0 0 0 0) (A6u8.mk 0 0 0 0 0 0) (A6u8.mk 0 0 0 0 0 0) (A6u8.mk 0 0 0 0 0 0) 0 0 0 0 false false) []),(TBuffer.mk 0 0 [] []),6)) else ((bU r5.1.toNat p0).bind fun r8=>need (inb r5.1 r8.List.length) <| bif (!((gd r8.List r5.1.toNat).Asleep)) then (some ((TFrame.mk (THeader.mk 0 0 false false false false false false false 0 (A6u8.mk 0 0 0 0 0 0) (A6u8.mk 0 0 0 0 0 0) (A6u8.mk 0 0 0 0 0 0) (A6u8.mk 0 0 0 0 0 0) 0 0 0 0 false false) []),(TBuffer.mk 0 0 [] []),20)) else (bif (bEq (((gd r8.List r5.1.toNat).Held).length:Nat) 0) then (some ((TFrame.mk (THeader.mk 0 0 false false false false false false false 0 (A6u8.mk 0 0 0 0 0 0) (A6u8.mk 0 0 0 0 0 0) (A6u8.mk 0 0 0 0 0 0) (A6u8.mk 0 0 0 0 0 0) 0 0 0 0 false false) []),(TBuffer.mk 0 0 [] []),6)) else (bif (bLt (((gd r8.List r5.1.toNat).Held).length:Nat) 1) then (none) else (need (inb 0 (((gd r8.List r5.1.toNat).Held).length)) <| lp (loopD (fun s=>F23_L1 r5 r8 s.1 s.2) (1,(TStored.mk ((gd ((gd r8.List r5.1.toNat).Held) 0).Cat) ((gd ((gd r8.List r5.1.toNat).Held) 0).At) (eF ((gd ((gd r8.List r5.1.toNat).Held) 0).Frame))))) (fun w1_5=>(F58_1 ((gd r8.List r5.1.toNat).Held) w1_5.Cat).bind fun r21=>need (inb r21 (((gd r8.List r5.1.toNat).Held).length)) <| need (delb r21 (wr .i64 (r21+1)) (((gd r8.List r5.1.toNat).Held).length)) <| (some (delL ((gd r8.List r5.1.toNat).Held) r21 (wr .i64 (r21+1)))).bind fun w25=>(some (r8.List.set r5.1.toNat (TSleeper.mk ((gd r8.List r5.1.toNat).Aid) ((gd r8.List r5.1.toNat).Asleep) w25))).bind fun w27=>some ((TFrame.mk (THeader.mk ((((gd ((gd r8.List r5.1.toNat).Held) r21.toNat).Frame).Head).Kind) ((((gd ((gd r8.List r5.1.toNat).Held) r21.toNat).Frame).Head).Sub) ((((gd ((gd r8.List r5.1.toNat).Held) r21.toNat).Frame).Head).ToDs) ((((gd ((gd r8.List r5.1.toNat).Held) r21.toNat).Frame).Head).FromDs) ((((gd ((gd r8.List r5.1.toNat).Held) r21.toNat).Frame).Head).More) ((((gd ((gd r8.List r5.1.toNat).Held) r21.toNat).Frame).Head).Retry) ((((gd ((gd r8.List r5.1.toNat).Held) r21.toNat).Frame).Head).Sleep) (bLt 0 (w25.length:Nat)) ((((gd ((gd r8.List r5.1.toNat).Held) r21.toNat).Frame).Head).Protected) ((((gd ((gd r8.List r5.1.toNat).Held) r21.toNat).Frame).Head).Duration) (A6u8.mk (((((gd ((gd r8.List r5.1.toNat).Held) r21.toNat).Frame).Head).A1).x0) (((((gd ((gd r8.List r5.1.toNat).Held) r21.toNat).Frame).Head).A1).x1) (((((gd ((gd r8.List r5.1.toNat).Held) r21.toNat).Frame).Head).A1).x2) (((((gd ((gd r8.List r5.1.toNat).Held) r21.toNat).Frame).Head).A1).x3) (((((gd ((gd r8.List r5.1.toNat).Held) r21.toNat).Frame).Head).A1).x4) (((((gd ((gd r8.List r5.1.toNat).Held) r21.toNat).Frame).Head).A1).x5)) (A6u8.mk (((((gd ((gd r8.List r5.1.toNat).Held) r21.toNat).Frame).Head).A2).x0) (((((gd ((gd r8.List r5.1.toNat).Held) r21.toNat).Frame).Head).A2).x1) (((((gd ((gd r8.List r5.1.toNat).Held) r21.toNat).Frame).Head).A2).x2) (((((gd ((gd r8.List r5.1.toNat).Held) r21.toNat).Frame).Head).A2).x3) (((((gd ((gd r8.List r5.1.toNat).Held) r21.toNat).Frame).Head).A2).x4) (((((gd ((gd r8.List r5.1.toNat).Held) r21.toNat).Frame).Head).A2).x5)) (A6u8.mk (((((gd ((gd r8.List r5.1.toNat).Held) r21.toNat).Frame).Head).A3).x0) (((((gd ((gd r8.List r5.1.toNat).Held) r21.toNat).Frame).Head).A3).x1) (((((gd ((gd r8.List r5.1.toNat).Held) r21.toNat).Frame).Head).A3).x2) (((((gd ((gd r8.List r5.1.toNat).Held) r21.toNat).Frame).Head).A3).x3) (((((gd ((gd r8.List r5.1.toNat).Held) r21.toNat).Frame).Head).A3).x4) (((((gd ((gd r8.List r5.1.toNat).Held) r21.toNat).Frame).Head).A3).x5)) (A6u8.mk (((((gd ((gd r8.List r5.1.toNat).Held) r21.toNat).Frame).Head).A4).x0) (((((gd ((gd r8.List r5.1.toNat).Held) r21.toNat).Frame).Head).A4).x1) (((((gd ((gd r8.List r5.1.toNat).Held) r21.toNat).Frame).Head).A4).x2) (((((gd ((gd r8.List r5.1.toNat).Held) r21.toNat).Frame).Head).A4).x3) (((((gd ((gd r8.List r5.1.toNat).Held) r21.toNat).Frame).Head).A4).x4) (((((gd ((gd r8.List r5.1.toNat).Held) r21.toNat).Frame).Head).A4).x5)) ((((gd ((gd r8.List r5.1.toNat).Held) r21.toNat).Frame).Head).Seq) ((((gd ((gd r8.List r5.1.toNat).Held) r21.toNat).Frame).Head).Frag) ((((gd ((gd r8.List r5.1.toNat).Held) r21.toNat).Frame).Head).Tid) ((((gd ((gd r8.List r5.1.toNat).Held) r21.toNat).Frame).Head).Ack) ((((gd ((gd r8.List r5.1.toNat).Held) r21.toNat).Frame).Head).Amsdu) ((((gd ((gd r8.List r5.1.toNat).Held) r21.toNat).Frame).Head).Eosp)) (((gd ((gd r8.List r5.1.toNat).Held) r21.toNat).Frame).Body)),(TBuffer.mk r8.Limit r8.Stay w27 r8.Group),0)) some))))))
noncomputable def body23d (l:List AV) (s:Nat):AR:=GP (dC yK (dC (dI .i64) dN)) (fun p=>F23 p.1 p.2.1) (fun r=>.tup [.agg (hC ((r.1).Head) (.ro 1 (((r.1).Body).length) false (enR qD ((r.1).Body))::[])),.agg [.int .i64 ((r.2.1).Limit),.int .i64 ((r.2.1).Stay),.ro 3 (((r.2.1).List).length) false (enR zT ((r.2.1).List)),.ro 43 (((r.2.1).Group).length) false (enR zJ ((r.2.1).Group))],.int .i64 (r.2.2)]) l s
attribute [go_sem] body23d
attribute [go_sem] ct23dt0_18 ct23dt1_81 ct23dt2_65 ct23dt3_56 ct23dt4_58 ct23dt5_60
noncomputable instance fi_ok23d_51:FI 51:=⟨_,_,[.tmp 4,.tmp 5,.tmp 6],_,Try.func51,by kernel_rfl,rfl,rfl,Try.ntmps51⟩
noncomputable instance fi_ok23d_55:FI 55:=⟨_,_,[.cell 4 61],_,Try.func55,by kernel_rfl,rfl,rfl,Try.ntmps55⟩
noncomputable instance lt_F23_L1 {r5:Int × Bool} {r8:TBuffer}:LT (fun s=>F23_L1 r5 r8 s.1 s.2):=⟨(fun _ _ (s:Int × TStored)=>(.sl 5 43 0 (((gd r8.List r5.1.toNat).Held).length) false::.fn 56 []::.top::.top::.ptr 7 0 0 0::.ptr 8 0 0 0::.int .i64 s.1::tp 26 [])),(fun _ _ s=>[.dead,.lit 33 (hZ (.ro 0 0 true (fun _ _=>.top)::[])),.lit 25 [.int .i64 0,.int .i64 0,.ro 0 0 true (fun _ _=>.top),.ro 0 0 true (fun _ _=>.top)],.lit 25 [.int .i64 r8.Limit,.int .i64 r8.Stay,.sl 4 3 0 r8.List.length false,.sl 6 43 0 r8.Group.length false],.row 57 3 r8.List.length (upc (enR zC r8.List) r5.1.toNat 2 [.sl 5 43 0 (((gd r8.List r5.1.toNat).Held).length) false]),.row 61 43 (((gd r8.List r5.1.toNat).Held).length) (enR zD ((gd r8.List r5.1.toNat).Held)),.row 61 43 r8.Group.length (enR zD r8.Group),.lit 61 (.int .u8 0::.int .i64 0::hZ (.ro 0 0 true (fun _ _=>.top)::[])),.lit 61 (.int .u8 s.2.Cat::.int .i64 s.2.At::hC s.2.Frame.Head (.ro 1 s.2.Frame.Body.length false (enR xA s.2.Frame.Body)::[]))]),(fun _ _ (e:TStored)=>(tp 4 (.ptr 7 0 0 0::.ptr 8 0 0 0::tp 27 []))),(fun _ _ e=>[.dead,.lit 33 (hZ (.ro 0 0 true (fun _ _=>.top)::[])),.lit 25 [.int .i64 0,.int .i64 0,.ro 0 0 true (fun _ _=>.top),.ro 0 0 true (fun _ _=>.top)],.lit 25 [.int .i64 r8.Limit,.int .i64 r8.Stay,.sl 4 3 0 r8.List.length false,.sl 6 43 0 r8.Group.length false],.row 57 3 r8.List.length (upc (enR zC r8.List) r5.1.toNat 2 [.sl 5 43 0 (((gd r8.List r5.1.toNat).Held).length) false]),.row 61 43 (((gd r8.List r5.1.toNat).Held).length) (enR zD ((gd r8.List r5.1.toNat).Held)),.row 61 43 r8.Group.length (enR zD r8.Group),.lit 61 (.int .u8 0::.int .i64 0::hZ (.ro 0 0 true (fun _ _=>.top)::[])),.lit 61 (.int .u8 e.Cat::.int .i64 e.At::hC e.Frame.Head (.ro 1 e.Frame.Body.length false (enR xA e.Frame.Body)::[]))]),_,fun s=>F23_L1.eq_1 _ _ _ _⟩
theorem ok23d:yU Try.prog 23 (xN body23d):=GPo (rs:=[.cell 4 33,.cell 5 25,.tmp 6]) Try.func23 (by kernel_rfl) rfl rfl Try.ntmps23 rn fun ⟨p0,p1,_⟩ r H=>by
 dsimp only [F23] at H
 refine st ?_
 have C:=zE ok18 <| zU
 refine ds1 ?_
 intro r1 E G B H
 refine ds1 ?_
 intro r5 E G B H
 refine rg ct23dt1_ok ?_
 simp only [go_sem,Nat.reduceLT,Nat.reduceAdd,E]
 repeat ((with_reducible refine aI ?_ ?_);exact an0)
 refine zZ ?_
 refine sq zA ?_
 simp only [go_sem]
 refine yX rfl trivial (fun hc=>?_) (fun hc=>?_)
 ·have E:=E
  have B:=B
  have C:=zA
  exact dr
 have hk7:(r5.2)=true:=by simpa using hc
 replace H:=yM hc H
 refine rg zA ?_
 simp only [go_sem]
 refine zZ ?_
 obtain ⟨r8,e9,H⟩:=bsi H
 refine rg (ct23dt2_ok r5.1.toNat) ?_
 simp only [go_sem,Nat.reduceLT,Nat.reduceAdd,e9]
 repeat ((with_reducible refine aI ?_ ?_);exact an0)
 refine zZ ?_
 obtain ⟨f10,H⟩:=zN.1 H
 replace f10:=xD.1 f10
 refine qE zO zA (by kernel_rfl) (by kernel_rfl) ?_
 simp only [go_sem,Nat.reduceLeDiff,Nat.reduceLT,Nat.reduceAdd,f10]
 repeat ((with_reducible refine aI ?_ ?_);exact an5)
 refine rg zA ?_
 simp only [go_sem]
 refine xS zO zA 7 ?_
 simp only [zK,tS,tZ,dSl,dZ,go_sem,Nat.reduceLT,Nat.reduceAdd]
 repeat ((with_reducible refine aI ?_ ?_);exact an0)
 refine vN ?_
 refine rb ?_
 simp only [rL0,rL1,rH0,rH1,rBl,dE,bH,cU,bI,r_sl,bG,bJ,r_z,rBq,rBo2,rs_r_u8,xP,xW,wQ,wE]
 refine zZ ?_
 refine uJ ?_
 refine sq zA ?_
 simp only [go_sem,(by decide:bEq (0) (0)=true)]
 refine yX rfl trivial (fun hc=>?_) (fun hc=>?_)
 ·cases hc
 refine sq zA ?_
 simp only [go_sem,Nat.reduceLeDiff,Nat.reduceLT,Nat.reduceAdd,Nat.reduceSub,yA]
 repeat ((with_reducible refine aI ?_ ?_);exact an5)
 refine yX rfl trivial (fun hc=>?_) (fun hc=>?_)
 ·have E:=And.intro f10 (And.intro e9 (E))
  have B:=And.intro hk7 (B)
  have C:=zA
  exact dr
 have hk11:((gd r8.List r5.1.toNat).Asleep)=true:=by simpa using hc
 replace H:=yM hc H
 refine sq zA ?_
 simp only [go_sem,Nat.reduceLT,Nat.reduceAdd,Nat.reduceSub,yA]
 repeat ((with_reducible refine aI ?_ ?_);exact an0)
 refine yX rfl trivial (fun hc=>?_) (fun hc=>?_)
 ·have E:=And.intro f10 (And.intro e9 (E))
  have B:=And.intro hk11 (And.intro hk7 (B))
  have C:=zA
  exact dr
 have hk12:(bEq (((gd r8.List r5.1.toNat).Held).length:Nat) 0)=false:=by simpa using hc
 replace H:=yM hc H
 refine rg zA ?_
 simp only [go_sem]
 refine zZ ?_
 refine jB ?_
 refine xS zO zA 4 ?_
 simp only [zK,tS,tZ,dSl,dZ,go_sem,Nat.reduceLT,Nat.reduceAdd,Nat.reduceSub,yA]
 repeat ((with_reducible refine aI ?_ ?_);exact an0)
 refine cM (rs:=[.cell 4 61]) Try.func55 (by kernel_rfl) rfl rfl Try.ntmps55 (caps:=[]) (tc:=[.sl 5 43 0 (((gd r8.List r5.1.toNat).Held).length) false,.fn 56 []]) rfl (by simp only [go_sem]) rfl ?_
 simp only [lCl,lNl,Nat.reduceAdd,Nat.reduceSub,rS,rZ,aC,aN]
 refine sq zA ?_
 simp only [go_sem,Nat.reduceAdd]
 refine zZ ?_
 refine sq zA ?_
 simp only [go_sem]
 repeat ((with_reducible refine aI ?_ ?_);exact an0)
 refine yX rfl trivial (fun hc=>?_) (fun hc=>?_)
 ·have E:=And.intro f10 (And.intro e9 (E))
  have B:=And.intro hk12 (And.intro hk11 (And.intro hk7 (B)))
  have C:=zA
  exact dr
 have hk13:(bLt (((gd r8.List r5.1.toNat).Held).length:Nat) 1)=false:=by simpa using hc
 replace H:=yM hc H
 refine rg zA ?_
 simp only [go_sem]
 refine zZ ?_
 obtain ⟨f14,H⟩:=zN.1 H
 replace f14:=xD.1 f14
 refine rg zA ?_
 simp only [go_sem,Nat.reduceLT,Nat.reduceAdd,f14]
 repeat ((with_reducible refine aI ?_ ?_);exact an5)
 refine zZ ?_
 refine sq zA ?_
 simp only [go_sem]
 refine uJ ?_
 refine wX (fun s:Int × TStored=>(.sl 5 43 0 (((gd r8.List r5.1.toNat).Held).length) false::.fn 56 []::.top::.top::.ptr 7 0 0 0::.ptr 8 0 0 0::.int .i64 s.1::tp 26 [])) (fun s=>[.dead,.lit 33 (hZ (.ro 0 0 true (fun _ _=>.top)::[])),.lit 25 [.int .i64 0,.int .i64 0,.ro 0 0 true (fun _ _=>.top),.ro 0 0 true (fun _ _=>.top)],.lit 25 [.int .i64 r8.Limit,.int .i64 r8.Stay,.sl 4 3 0 r8.List.length false,.sl 6 43 0 r8.Group.length false],.row 57 3 r8.List.length (upc (enR zC r8.List) r5.1.toNat 2 [.sl 5 43 0 (((gd r8.List r5.1.toNat).Held).length) false]),.row 61 43 (((gd r8.List r5.1.toNat).Held).length) (enR zD ((gd r8.List r5.1.toNat).Held)),.row 61 43 r8.Group.length (enR zD r8.Group),.lit 61 (.int .u8 0::.int .i64 0::hZ (.ro 0 0 true (fun _ _=>.top)::[])),.lit 61 (.int .u8 s.2.Cat::.int .i64 s.2.At::hC s.2.Frame.Head (.ro 1 s.2.Frame.Body.length false (enR xA s.2.Frame.Body)::[]))]) (fun e:TStored=>(tp 4 (.ptr 7 0 0 0::.ptr 8 0 0 0::tp 27 []))) (fun e=>[.dead,.lit 33 (hZ (.ro 0 0 true (fun _ _=>.top)::[])),.lit 25 [.int .i64 0,.int .i64 0,.ro 0 0 true (fun _ _=>.top),.ro 0 0 true (fun _ _=>.top)],.lit 25 [.int .i64 r8.Limit,.int .i64 r8.Stay,.sl 4 3 0 r8.List.length false,.sl 6 43 0 r8.Group.length false],.row 57 3 r8.List.length (upc (enR zC r8.List) r5.1.toNat 2 [.sl 5 43 0 (((gd r8.List r5.1.toNat).Held).length) false]),.row 61 43 (((gd r8.List r5.1.toNat).Held).length) (enR zD ((gd r8.List r5.1.toNat).Held)),.row 61 43 r8.Group.length (enR zD r8.Group),.lit 61 (.int .u8 0::.int .i64 0::hZ (.ro 0 0 true (fun _ _=>.top)::[])),.lit 61 (.int .u8 e.Cat::.int .i64 e.At::hC e.Frame.Head (.ro 1 e.Frame.Body.length false (enR xA e.Frame.Body)::[]))]) H ?_ (fun s o H hn1_1 hn2_1=>?_) (fun w1_5 H=>?_)
 ·have E:=And.intro f14 (And.intro f10 (And.intro e9 (E)))
  have B:=And.intro hk13 (And.intro hk12 (And.intro hk11 (And.intro hk7 (B))))
  have C:=zA
  exact dr
 ·obtain ⟨v1_1,v1_2⟩:=s
  unfold F23_L1 at H
  try dsimp only at H ⊢
  try simp only [tp]
  have E:=And.intro f14 (And.intro f10 (And.intro e9 (E)))
  have B:=And.intro hk13 (And.intro hk12 (And.intro hk11 (And.intro hk7 (B))))
  have C:=zE ok56 <| zU
  exact dr
 ·try dsimp only at H ⊢
  try simp only [tp]
  try simp only [wJ]
  refine sq zA ?_
  simp only [go_sem,Nat.reduceLT,Nat.reduceAdd]
  repeat ((with_reducible refine aI ?_ ?_);exact an5)
  refine rg zA ?_
  simp only [go_sem,Nat.reduceLT,Nat.reduceAdd]
  refine xS zO zA 3 ?_
  simp only [zK,tS,tZ,dSl,dZ,go_sem,Nat.reduceLeDiff,Nat.reduceLT,Nat.reduceAdd]
  repeat ((with_reducible refine aI ?_ ?_);exact an0)
  refine vN ?_
  refine zZ ?_
  obtain ⟨r21,e22,H⟩:=bsi H
  refine rg ct23dt4_ok ?_
  simp only [go_sem,Nat.reduceLT,Nat.reduceAdd,Nat.reduceSub,yA,e22]
  repeat ((with_reducible refine aI ?_ ?_);exact an0)
  refine zZ ?_
  obtain ⟨f23,H⟩:=zN.1 H
  replace f23:=xD.1 f23
  refine rg zA ?_
  simp only [go_sem,Nat.reduceLT,Nat.reduceAdd,Nat.reduceSub,reduceCtorEq,yA,f23]
  repeat ((with_reducible refine aI ?_ ?_);exact an5)
  refine zZ ?_
  obtain ⟨f24,H⟩:=zN.1 H
  replace f24:=delb_iff.1 f24
  refine rg ct23dt5_ok ?_
  simp only [go_sem,Nat.reduceLT,Nat.reduceAdd,Nat.reduceSub,yA,delN,f24]
  repeat ((with_reducible refine aI ?_ ?_);exact an0)
  refine zZ ?_
  obtain ⟨w25,hw26,H⟩:=bsi H
  replace hw26:=Option.some.inj hw26
  have lhw26:w25.length=((gd r8.List r5.1.toNat).Held).length - ((wr .i64 (r21+1)).toNat - r21.toNat):=by rw [← hw26];exact (del_len f24 cl)
  refine vE (t2:=(tp 4 (.ptr 1 0 0 0::.ptr 2 0 0 0::.top::.ptr 3 0 0 0::.ptr 4 3 r5.1.toNat 0::tp 75 []))) (h2:=[.dead,.lit 33 (hC (((gd ((gd r8.List r5.1.toNat).Held) r21.toNat).Frame).Head) (.ro 1 ((((gd ((gd r8.List r5.1.toNat).Held) r21.toNat).Frame).Body).length) false (enR xA (((gd ((gd r8.List r5.1.toNat).Held) r21.toNat).Frame).Body))::[])),.lit 25 [.int .i64 0,.int .i64 0,.ro 0 0 true (fun _ _=>.top),.ro 0 0 true (fun _ _=>.top)],.lit 25 [.int .i64 r8.Limit,.int .i64 r8.Stay,.sl 4 3 0 r8.List.length false,.sl 6 43 0 r8.Group.length false],.row 57 3 r8.List.length (upc (enR zC r8.List) r5.1.toNat 0 [.int .i64 ((gd r8.List r5.1.toNat).Aid),.bool ((gd r8.List r5.1.toNat).Asleep),.sl 10 43 0 w25.length false]),.dead,.row 61 43 r8.Group.length (enR zD r8.Group),.lit 61 (.int .u8 w1_5.Cat::.int .i64 w1_5.At::hC w1_5.Frame.Head (.ro 1 w1_5.Frame.Body.length false (enR xA w1_5.Frame.Body)::[])),.lit 61 (.int .u8 w1_5.Cat::.int .i64 w1_5.At::hC w1_5.Frame.Head (.ro 1 w1_5.Frame.Body.length false (enR xA w1_5.Frame.Body)::[])),.lit 5 [.int .u8 w1_5.Cat],.row 61 43 w25.length (enR zD w25)]) ?_ ?_
  ·refine yH ⟨[some 0,some 1,some 2,some 3,some 4,some 5,some 6,some 7,some 8,some 9,some 10],?_,?_,by rfl,by rfl⟩
   ·simp [CvL,Cv,zQ,tp]
   ·exact ⟨zH,(by simp [CvB,CvL,Cv,yN,geth]),(by simp [CvB,CvL,Cv,yN,geth]),(by simp [CvB,CvL,Cv,yN,geth,zQ]),(CvB_focG2 (i:=r5.1.toNat) (L:=r8.List) zG (fun x y hx=>by simp only [yP hx]) (fun x y hx=>by simp only [yP hx]) (fun y hy=>match y,hy with|0,_=>by simp [yA,zL,Cv,enR,zC,lhw26]|1,_=>by simp [yA,zL,Cv,enR,zC,lhw26]|2,_=>by simp [yA,zL,Cv,zQ,enR,zC,lhw26]|(y+3),h=>absurd h nlt)),zH,zW yQ rfl (fun _ _ _ _=>rfl),(by simp [CvB,CvL,Cv,yN,geth]),(by simp [CvB,CvL,Cv,yN,geth]),(by simp [CvB,CvL,Cv,yN,geth]),zW yQ lhw26 (hw26 ▸ (del_row f24 cl (fun _ _ _ _=>rfl))),trivial⟩
  simp only [tp]
  refine rg zA ?_
  simp only [go_sem,Nat.reduceLeDiff,Nat.reduceLT,Nat.reduceAdd,reduceCtorEq,yA]
  repeat ((with_reducible refine aI ?_ ?_);exact an0)
  refine zZ ?_
  refine yW zO zA 0 (by kernel_rfl) (by kernel_rfl) ?_
  intro an han
  simp only [vZ,wV,qS,xrD,xoD,qT,uC,List.append_nil,xJ,refs,mask,wY,place,xV,wZ,xZ,hit,inL,xK,nrH,nrB,nrL,nr,rZ,Nat.sub_self,Nat.add_zero,Nat.zero_add,Nat.reduceSub,Nat.lt_add_one,go_sem,Nat.reduceLeDiff,Nat.reduceLT,Nat.reduceAdd,Nat.reduceBEq]
  repeat ((with_reducible refine aI ?_ ?_);exact an3)
  refine fz2_mean [10] [4] ?_ ?_
  ·simp only [go_sem,Nat.reduceBEq,Nat.reduceAdd,jF,fzObB2]
   first|exact (eL (L:=r8.List) (i:=r5.1.toNat) (fun a y=>zR (zG a) y) (fun x y hx=>by simp only [yP hx]) (fun y hy=>match y,hy with|0,_=>(by (simp [yA,zL,yL,inL,geth,vR,enR,zC];all_goals (first|(with_reducible trivial)|(intros;exact zR (NRf.h _) _)|(intros;exact nfc))))|1,_=>(by (simp [yA,zL,yL,inL,geth,vR,enR,zC];all_goals (first|(with_reducible trivial)|(intros;exact zR (NRf.h _) _)|(intros;exact nfc))))|2,_=>(by (simp [yA,zL,yL,inL,geth,vR,enR,zC];all_goals (first|(with_reducible trivial)|(intros;exact zR (NRf.h _) _)|(intros;exact nfc))))|(y+3),h=>absurd h nlt))|(and_intros<;>first|exact (eL (L:=r8.List) (i:=r5.1.toNat) (fun a y=>zR (zG a) y) (fun x y hx=>by simp only [yP hx]) (fun y hy=>match y,hy with|0,_=>(by (simp [yA,zL,yL,enR,zC];all_goals (first|(with_reducible trivial)|(intros;exact zR (NRf.h _) _)|(intros;exact nfc))))|1,_=>(by (simp [yA,zL,yL,enR,zC];all_goals (first|(with_reducible trivial)|(intros;exact zR (NRf.h _) _)|(intros;exact nfc))))|2,_=>(by (simp [yA,zL,yL,inL,geth,vR,enR,zC];all_goals (first|(with_reducible trivial)|(intros;exact zR (NRf.h _) _)|(intros;exact nfc))))|(y+3),h=>absurd h nlt))|(with_reducible trivial)|omega|exact nfc|trivial)
  simp only [go_sem,Nat.reduceBEq,Nat.reduceAdd,fzH2,eZ,fzB2]
  obtain ⟨w27,hw28,H⟩:=bsi H
  replace hw28:=Option.some.inj hw28
  have lhw28:w27.length=r8.List.length:=by rw [← hw28];exact (by simp only [List.length_set])
  refine vE (t2:=(tp 4 (.ptr 1 0 0 0::.ptr 2 0 0 0::.int .i64 0::tp 77 []))) (h2:=[.dead,.lit 33 (.int .u8 ((((gd ((gd r8.List r5.1.toNat).Held) r21.toNat).Frame).Head).Kind)::.int .u8 ((((gd ((gd r8.List r5.1.toNat).Held) r21.toNat).Frame).Head).Sub)::.bool ((((gd ((gd r8.List r5.1.toNat).Held) r21.toNat).Frame).Head).ToDs)::.bool ((((gd ((gd r8.List r5.1.toNat).Held) r21.toNat).Frame).Head).FromDs)::.bool ((((gd ((gd r8.List r5.1.toNat).Held) r21.toNat).Frame).Head).More)::.bool ((((gd ((gd r8.List r5.1.toNat).Held) r21.toNat).Frame).Head).Retry)::.bool ((((gd ((gd r8.List r5.1.toNat).Held) r21.toNat).Frame).Head).Sleep)::.bool (bLt 0 (w25.length:Nat))::.bool ((((gd ((gd r8.List r5.1.toNat).Held) r21.toNat).Frame).Head).Protected)::.int .i64 ((((gd ((gd r8.List r5.1.toNat).Held) r21.toNat).Frame).Head).Duration)::.int .u8 (((((gd ((gd r8.List r5.1.toNat).Held) r21.toNat).Frame).Head).A1).x0)::.int .u8 (((((gd ((gd r8.List r5.1.toNat).Held) r21.toNat).Frame).Head).A1).x1)::.int .u8 (((((gd ((gd r8.List r5.1.toNat).Held) r21.toNat).Frame).Head).A1).x2)::.int .u8 (((((gd ((gd r8.List r5.1.toNat).Held) r21.toNat).Frame).Head).A1).x3)::.int .u8 (((((gd ((gd r8.List r5.1.toNat).Held) r21.toNat).Frame).Head).A1).x4)::.int .u8 (((((gd ((gd r8.List r5.1.toNat).Held) r21.toNat).Frame).Head).A1).x5)::.int .u8 (((((gd ((gd r8.List r5.1.toNat).Held) r21.toNat).Frame).Head).A2).x0)::.int .u8 (((((gd ((gd r8.List r5.1.toNat).Held) r21.toNat).Frame).Head).A2).x1)::.int .u8 (((((gd ((gd r8.List r5.1.toNat).Held) r21.toNat).Frame).Head).A2).x2)::.int .u8 (((((gd ((gd r8.List r5.1.toNat).Held) r21.toNat).Frame).Head).A2).x3)::.int .u8 (((((gd ((gd r8.List r5.1.toNat).Held) r21.toNat).Frame).Head).A2).x4)::.int .u8 (((((gd ((gd r8.List r5.1.toNat).Held) r21.toNat).Frame).Head).A2).x5)::.int .u8 (((((gd ((gd r8.List r5.1.toNat).Held) r21.toNat).Frame).Head).A3).x0)::.int .u8 (((((gd ((gd r8.List r5.1.toNat).Held) r21.toNat).Frame).Head).A3).x1)::.int .u8 (((((gd ((gd r8.List r5.1.toNat).Held) r21.toNat).Frame).Head).A3).x2)::.int .u8 (((((gd ((gd r8.List r5.1.toNat).Held) r21.toNat).Frame).Head).A3).x3)::.int .u8 (((((gd ((gd r8.List r5.1.toNat).Held) r21.toNat).Frame).Head).A3).x4)::.int .u8 (((((gd ((gd r8.List r5.1.toNat).Held) r21.toNat).Frame).Head).A3).x5)::.int .u8 (((((gd ((gd r8.List r5.1.toNat).Held) r21.toNat).Frame).Head).A4).x0)::.int .u8 (((((gd ((gd r8.List r5.1.toNat).Held) r21.toNat).Frame).Head).A4).x1)::.int .u8 (((((gd ((gd r8.List r5.1.toNat).Held) r21.toNat).Frame).Head).A4).x2)::.int .u8 (((((gd ((gd r8.List r5.1.toNat).Held) r21.toNat).Frame).Head).A4).x3)::.int .u8 (((((gd ((gd r8.List r5.1.toNat).Held) r21.toNat).Frame).Head).A4).x4)::.int .u8 (((((gd ((gd r8.List r5.1.toNat).Held) r21.toNat).Frame).Head).A4).x5)::.int .i64 ((((gd ((gd r8.List r5.1.toNat).Held) r21.toNat).Frame).Head).Seq)::.int .i64 ((((gd ((gd r8.List r5.1.toNat).Held) r21.toNat).Frame).Head).Frag)::.int .i64 ((((gd ((gd r8.List r5.1.toNat).Held) r21.toNat).Frame).Head).Tid)::.int .u8 ((((gd ((gd r8.List r5.1.toNat).Held) r21.toNat).Frame).Head).Ack)::.bool ((((gd ((gd r8.List r5.1.toNat).Held) r21.toNat).Frame).Head).Amsdu)::.bool ((((gd ((gd r8.List r5.1.toNat).Held) r21.toNat).Frame).Head).Eosp)::.ro 1 ((((gd ((gd r8.List r5.1.toNat).Held) r21.toNat).Frame).Body).length) false (enR xA (((gd ((gd r8.List r5.1.toNat).Held) r21.toNat).Frame).Body))::[]),.lit 25 [.int .i64 r8.Limit,.int .i64 r8.Stay,.sl 4 3 0 w27.length false,.sl 6 43 0 r8.Group.length false],.lit 25 [.int .i64 r8.Limit,.int .i64 r8.Stay,.sl 4 3 0 w27.length false,.sl 6 43 0 r8.Group.length false],.row 57 3 w27.length (enR zC w27),.dead,.row 61 43 r8.Group.length (enR zD r8.Group),.lit 61 (.int .u8 w1_5.Cat::.int .i64 w1_5.At::hC w1_5.Frame.Head (.ro 1 w1_5.Frame.Body.length false (enR xA w1_5.Frame.Body)::[])),.lit 61 (.int .u8 w1_5.Cat::.int .i64 w1_5.At::hC w1_5.Frame.Head (.ro 1 w1_5.Frame.Body.length false (enR xA w1_5.Frame.Body)::[])),.lit 5 [.int .u8 w1_5.Cat],.dead]) ?_ ?_
  ·refine yH ⟨[some 0,some 1,some 2,some 3,some 4,some 5,some 6,some 7,some 8,some 9,some 10],?_,?_,by rfl,by rfl⟩
   ·simp [CvL,Cv,zQ,tp]
   ·exact ⟨zH,(by simp [CvB,CvL,Cv,yN,geth]),(by simp [CvB,CvL,Cv,yN,geth,zQ,lhw28]),(by simp [CvB,CvL,Cv,yN,geth,zQ,lhw28]),zW zG lhw28 (hw28 ▸ (foc_row (L:=r8.List) (i:=r5.1.toNat) (fun a y=>zR (zG a) y) (fun x y hx=>by simp only [yP hx]) (fun y hy=>match y,hy with|0,_=>by simp [yA,zL,fzV,enR,zC]|1,_=>by simp [yA,zL,fzV,enR,zC]|2,_=>by simp [yA,zL,fzV,inL,geth,enR,zC,dP]|(y+3),h=>absurd h nlt))),zH,zW yQ rfl (fun _ _ _ _=>rfl),(by simp [CvB,CvL,Cv,yN,geth]),(by simp [CvB,CvL,Cv,yN,geth]),(by simp [CvB,CvL,Cv,yN,geth]),zH,trivial⟩
  simp only [tp]
  have E:=And.intro f24 (And.intro f23 (And.intro e22 (And.intro f14 (And.intro f10 (And.intro e9 (E))))))
  have B:=And.intro hk13 (And.intro hk12 (And.intro hk11 (And.intro hk7 (B))))
  have C:=zA
  exact dr
noncomputable def F26 (p0:TBuffer):Option ((List TFrame) × TBuffer × Int) :=
 (F18 p0).bind fun r1=>bif (!bEq r1 0) then (some ([],(TBuffer.mk 0 0 [] []),r1)) else ((F65 p0).bind fun r4=>(F53 r4.Group).bind fun r6=>(eR r6).bind fun r8=>some (r8,(TBuffer.mk r4.Limit r4.Stay r4.List []),0))
noncomputable def body26d (l:List AV) (s:Nat):AR:=GP (dC yK dN) (fun p=>F26 p.1) (fun r=>.tup [.ro 41 ((r.1).length) false (enR yD (r.1)),.agg [.int .i64 ((r.2.1).Limit),.int .i64 ((r.2.1).Stay),.ro 3 (((r.2.1).List).length) false (enR zT ((r.2.1).List)),.ro 43 (((r.2.1).Group).length) false (enR zJ ((r.2.1).Group))],.int .i64 (r.2.2)]) l s
attribute [go_sem] body26d
theorem ok26d:yU Try.prog 26 (xN body26d):=GPo (rs:=[.tmp 2,.cell 3 25,.tmp 4]) Try.func26 (by kernel_rfl) rfl rfl Try.ntmps26 rn fun ⟨p0,_⟩ r H=>by
 have C:=zE ok18 <| zE ok65d <| zE ok52_0 <| zE ok53 <| zU
 dsimp only [F26] at H
 refine st ?_
 refine ds1 ?_
 intro r1 E G B H
 refine ds1 ?_
 intro r4 E G B H
 refine rg C ?_
 simp only [go_sem,Nat.reduceLT,Nat.reduceAdd,Nat.reduceBEq,E]
 repeat ((with_reducible refine aI ?_ ?_);exact an0)
 refine rb ?_
 simp only [rL0,rL1,rH0,rH1,rBl,dE,bH,cU,bI,r_sl,bG,bJ,r_z,rBs,rBq,vJ,xP,xW,wQ,wE]
 refine zZ ?_
 refine jG [3] ?_ ?_
 ·simp only [go_sem,Nat.reduceBEq]
  try exact at0
 simp only [go_sem,Nat.reduceBEq,Nat.reduceAdd]
 have E:=And.intro E.1 (E.2.1)
 have B:=B.1
 exact dr
end Go.Proofs.Ytefiemaoacmdkaa
