/-
  Contracts of functions: each computes its partial function.
-/
import Derived.Test.YtefiemaoacmdkaaZEp1
namespace Go.Proofs.Ytefiemaoacmdkaa
open Go.Am
set_option maxHeartbeats 4000000
set_option maxRecDepth 20000
set_option linter.unusedVariables false
set_option linter.unusedSimpArgs false
noncomputable def F100_L1 (p0:List TStored) (p1:Int) (v1_1:List TStored) (v1_2:Int):Option (Lp ((List TStored) × Int) ((List TStored) ⊕ (List TStored))) :=
 bif (bLt v1_2 (p0.length:Nat)) then (bif (!bEq v1_2 p1) then (need (inb v1_2 p0.length) <| need (capb 120 (v1_1.length+1)) <| some (.next ((v1_1 ++ [(TStored.mk ((gd p0 v1_2.toNat).Cat) ((gd p0 v1_2.toNat).At) (eF ((gd p0 v1_2.toNat).Frame)))]),wr .i64 (v1_2+1)))) else (some (.next (v1_1,wr .i64 (v1_2+1))))) else (some (.done (.inl v1_1)))
noncomputable def F100 (p0:List TStored) (p1:Int):Option (List TStored) :=
 lp (loopD (fun s=>F100_L1 p0 p1 s.1 s.2) ([],0)) (fun w1_3=>some w1_3) some
noncomputable def body100 (l:List AV) (s:Nat):AR:=GH (dC xI (dC (dI .i64) dN)) (fun p=>F100 p.1 p.2.1) (fun r s=>.sl s 43 0 (r.length) false) (fun r=>[.row 61 43 (r.length) (enR zD r)]) l s
attribute [go_sem] body100
noncomputable instance lt_F100_L1 {p0:List TStored} {p1:Int}:LT (fun s=>F100_L1 p0 p1 s.1 s.2):=⟨(fun _ _ (s:(List TStored) × Int)=>(.ro 43 p0.length false (enR zD p0)::.int .i64 p1::.top::.top::.top::.sl 0 43 0 s.1.length false::.int .i64 s.2::tp 17 [])),(fun _ _ s=>[.row 61 43 s.1.length (enR zD s.1)]),(fun _ _ (e:List TStored)=>(tp 5 (.sl 0 43 0 e.length false::tp 18 []))),(fun _ _ e=>[.row 61 43 e.length (enR zD e)]),_,fun s=>F100_L1.eq_1 _ _ _ _⟩
theorem ok100:yU Try.prog 100 (xN body100):=GHo (rs:=[.tmp 4]) Try.func100 (by kernel_rfl) rfl rfl Try.ntmps100 rh fun ⟨p0,p1,_⟩ r H=>by
 have C:=zA
 dsimp only [F100] at H
 exact dq
noncomputable def F99 (p0:List TStored) (p1:Int) (p2:TStored):Option ((List TFrame) × (List TStored)) :=
 bif (bLt (p0.length:Nat) p1) then (need (capb 120 p0.length) <| need (capb 120 (p0.length+1)) <| some ([],(([] ++ p0) ++ [p2]))) else ((F107 p0).bind fun r4=>need (inb r4 p0.length) <| bif (bLt p2.Cat ((gd p0 r4.toNat).Cat)) then (some ([p2.Frame],p0)) else (need (inb r4 p0.length) <| (F100 p0 r4).bind fun r9=>need (capb 120 (r9.length+1)) <| some ([(eF ((gd p0 r4.toNat).Frame))],(r9 ++ [p2]))))
noncomputable def body99 (l:List AV) (s:Nat):AR:=GP (dC xI (dC (dI .i64) (dC uF dN))) (fun p=>F99 p.1 p.2.1 p.2.2.1) (fun r=>.tup [.ro 41 ((r.1).length) false (enR zI (r.1)),.ro 43 ((r.2).length) false (enR zD (r.2))]) l s
attribute [go_sem] body99
theorem ok99:yU Try.prog 99 (xN body99):=GPo (rs:=[.tmp 6,.tmp 7]) Try.func99 (by kernel_rfl) rfl rfl Try.ntmps99 rn fun ⟨p0,p1,p2,_⟩ r H=>by
 have C:=zE ok107 <| zE ok100 <| zU
 dsimp only [F99] at H
 exact dq
noncomputable def F76 (p0:TBuffer) (p1:Int) (p2:Int) (p3:TFrame) (p4:Int):Option ((List TFrame) × (List TFrame) × TBuffer × Int) :=
 (F95 p0 p1).bind fun r1=>need (bif ((bEq r1.2 0) && (!(bLt 3 p2))) then ((F87 p4).isSome) else true) <| bif ((bEq r1.2 0) && ((bLt 3 p2) || (!(gt (F87 p4))))) then (some ([],[],(TBuffer.mk 0 0 [] []),2)) else (need (bif (bEq r1.2 0) then inb r1.1 p0.List.length else true) <| need (bif (bEq r1.2 0) then ((F98 ((gd p0.List r1.1.toNat).Held) p4).isSome) else true) <| bif ((bEq r1.2 0) && (gt (F98 ((gd p0.List r1.1.toNat).Held) p4))) then (some ([],[],(TBuffer.mk 0 0 [] []),20)) else (bif (!bEq r1.2 0) then (some ([],[],(TBuffer.mk 0 0 [] []),r1.2)) else (need (inb r1.1 p0.List.length) <| bif (!((gd p0.List r1.1.toNat).Asleep)) then ((F97 [p3]).bind fun r11=>(F29 p0).bind fun r13=>some (r11,[],(TBuffer.mk r13.Limit r13.Stay r13.List r13.Group),0)) else ((F99 ((gd p0.List r1.1.toNat).Held) p0.Limit (TStored.mk p2 p4 (eF p3))).bind fun r15=>(F96 p0 r1.1 (TSleeper.mk ((gd p0.List r1.1.toNat).Aid) ((gd p0.List r1.1.toNat).Asleep) r15.2)).bind fun r17=>some ([],r15.1,r17,0)))))
noncomputable def body76 (l:List AV) (s:Nat):AR:=GP (dC yK (dC (dI .i64) (dC (dI .u8) (dC qK (dC (dI .i64) dN))))) (fun p=>F76 p.1 p.2.1 p.2.2.1 p.2.2.2.1 p.2.2.2.2.1) (fun r=>.tup [.ro 41 ((r.1).length) false (enR zI (r.1)),.ro 41 ((r.2.1).length) false (enR zI (r.2.1)),.agg [.int .i64 ((r.2.2.1).Limit),.int .i64 ((r.2.2.1).Stay),.ro 3 (((r.2.2.1).List).length) false (enR zC ((r.2.2.1).List)),.ro 43 (((r.2.2.1).Group).length) false (enR zD ((r.2.2.1).Group))],.int .i64 (r.2.2.2)]) l s
attribute [go_sem] body76
theorem ok76:yU Try.prog 76 (xN body76):=GPo (rs:=[.tmp 10,.tmp 11,.cell 12 25,.tmp 13]) Try.func76 (by kernel_rfl) rfl rfl Try.ntmps76 rn fun ⟨p0,p1,p2,p3,p4,_⟩ r H=>by
 have C:=zE ok95 <| zE ok87 <| zE ok98 <| zE ok29 <| zE (fr_ok ok97) <| zE ok99 <| zE ok96 <| zU
 dsimp only [F76] at H
 exact dq
noncomputable def F77 (p0:TBuffer) (p1:TFrame) (p2:Int):Option ((List TFrame) × (List TFrame) × TBuffer × Int) :=
 (F19 p0).bind fun r1=>bif (!r1) then (some ([],[],(TBuffer.mk 0 0 [] []),8)) else ((F87 p2).bind fun r4=>bif (!r4) then (some ([],[],(TBuffer.mk 0 0 [] []),2)) else ((F98 p0.Group p2).bind fun r7=>bif r7 then (some ([],[],(TBuffer.mk 0 0 [] []),20)) else ((F49 p0).bind fun r10=>bif (!r10) then ((F97 [p1]).bind fun r13=>(F29 p0).bind fun r15=>some (r13,[],(TBuffer.mk r15.Limit r15.Stay r15.List r15.Group),0)) else ((F99 p0.Group p0.Limit (TStored.mk 0 p2 (eF p1))).bind fun r17=>(F29 p0).bind fun r19=>some ([],r17.1,(TBuffer.mk r19.Limit r19.Stay r19.List r17.2),0)))))
noncomputable def body77 (l:List AV) (s:Nat):AR:=GP (dC yK (dC qK (dC (dI .i64) dN))) (fun p=>F77 p.1 p.2.1 p.2.2.1) (fun r=>.tup [.ro 41 ((r.1).length) false (enR zI (r.1)),.ro 41 ((r.2.1).length) false (enR zI (r.2.1)),.agg [.int .i64 ((r.2.2.1).Limit),.int .i64 ((r.2.2.1).Stay),.ro 3 (((r.2.2.1).List).length) false (enR zC ((r.2.2.1).List)),.ro 43 (((r.2.2.1).Group).length) false (enR zD ((r.2.2.1).Group))],.int .i64 (r.2.2.2)]) l s
attribute [go_sem] body77
theorem ok77:yU Try.prog 77 (xN body77):=GPo (rs:=[.tmp 6,.tmp 7,.cell 8 25,.tmp 9]) Try.func77 (by kernel_rfl) rfl rfl Try.ntmps77 rn fun ⟨p0,p1,p2,_⟩ r H=>by
 have C:=zE ok19 <| zE ok87 <| zE ok98 <| zE ok49 <| zE ok29 <| zE (fr_ok ok97) <| zE ok99 <| zU
 dsimp only [F77] at H
 exact dq
noncomputable def F78_L1 (p0:TBuffer) (r1:Int × Int) (v1_1:Int) (v1_2:Int):Option (Lp (Int × Int) ((Int) ⊕ (TFrame × TBuffer × Int))) :=
 bif (bLt v1_2 (((gd p0.List r1.1.toNat).Held).length:Nat)) then (need (inb v1_2 (((gd p0.List r1.1.toNat).Held).length)) <| need (inb v1_1 (((gd p0.List r1.1.toNat).Held).length)) <| bif (bLt ((gd ((gd p0.List r1.1.toNat).Held) v1_1.toNat).Cat) ((gd ((gd p0.List r1.1.toNat).Held) v1_2.toNat).Cat)) then (some (.next (v1_2,wr .i64 (v1_2+1)))) else (some (.next (v1_1,wr .i64 (v1_2+1))))) else (some (.done (.inl v1_1)))
noncomputable def F78 (p0:TBuffer) (p1:Int):Option (TFrame × TBuffer × Int) :=
 (F95 p0 p1).bind fun r1=>bif (!bEq r1.2 0) then (some ((TFrame.mk (THeader.mk 0 0 false false false false false false false 0 (A6u8.mk 0 0 0 0 0 0) (A6u8.mk 0 0 0 0 0 0) (A6u8.mk 0 0 0 0 0 0) (A6u8.mk 0 0 0 0 0 0) 0 0 0 0 false false) []),(TBuffer.mk 0 0 [] []),r1.2)) else (need (inb r1.1 p0.List.length) <| bif (!((gd p0.List r1.1.toNat).Asleep)) then (some ((TFrame.mk (THeader.mk 0 0 false false false false false false false 0 (A6u8.mk 0 0 0 0 0 0) (A6u8.mk 0 0 0 0 0 0) (A6u8.mk 0 0 0 0 0 0) (A6u8.mk 0 0 0 0 0 0) 0 0 0 0 false false) []),(TBuffer.mk 0 0 [] []),20)) else (bif (bEq (((gd p0.List r1.1.toNat).Held).length:Nat) 0) then (some ((TFrame.mk (THeader.mk 0 0 false false false false false false false 0 (A6u8.mk 0 0 0 0 0 0) (A6u8.mk 0 0 0 0 0 0) (A6u8.mk 0 0 0 0 0 0) (A6u8.mk 0 0 0 0 0 0) 0 0 0 0 false false) []),(TBuffer.mk 0 0 [] []),6)) else (lp (loopD (fun s=>F78_L1 p0 r1 s.1 s.2) (0,1)) (fun w1_3=>need (inb w1_3 (((gd p0.List r1.1.toNat).Held).length)) <| (F100 ((gd p0.List r1.1.toNat).Held) w1_3).bind fun r12=>(F96 p0 r1.1 (TSleeper.mk ((gd p0.List r1.1.toNat).Aid) ((gd p0.List r1.1.toNat).Asleep) r12)).bind fun r14=>some ((TFrame.mk (THeader.mk ((((gd ((gd p0.List r1.1.toNat).Held) w1_3.toNat).Frame).Head).Kind) ((((gd ((gd p0.List r1.1.toNat).Held) w1_3.toNat).Frame).Head).Sub) ((((gd ((gd p0.List r1.1.toNat).Held) w1_3.toNat).Frame).Head).ToDs) ((((gd ((gd p0.List r1.1.toNat).Held) w1_3.toNat).Frame).Head).FromDs) ((((gd ((gd p0.List r1.1.toNat).Held) w1_3.toNat).Frame).Head).More) ((((gd ((gd p0.List r1.1.toNat).Held) w1_3.toNat).Frame).Head).Retry) ((((gd ((gd p0.List r1.1.toNat).Held) w1_3.toNat).Frame).Head).Sleep) (bLt 1 (((gd p0.List r1.1.toNat).Held).length:Nat)) ((((gd ((gd p0.List r1.1.toNat).Held) w1_3.toNat).Frame).Head).Protected) ((((gd ((gd p0.List r1.1.toNat).Held) w1_3.toNat).Frame).Head).Duration) (A6u8.mk (((((gd ((gd p0.List r1.1.toNat).Held) w1_3.toNat).Frame).Head).A1).x0) (((((gd ((gd p0.List r1.1.toNat).Held) w1_3.toNat).Frame).Head).A1).x1) (((((gd ((gd p0.List r1.1.toNat).Held) w1_3.toNat).Frame).Head).A1).x2) (((((gd ((gd p0.List r1.1.toNat).Held) w1_3.toNat).Frame).Head).A1).x3) (((((gd ((gd p0.List r1.1.toNat).Held) w1_3.toNat).Frame).Head).A1).x4) (((((gd ((gd p0.List r1.1.toNat).Held) w1_3.toNat).Frame).Head).A1).x5)) (A6u8.mk (((((gd ((gd p0.List r1.1.toNat).Held) w1_3.toNat).Frame).Head).A2).x0) (((((gd ((gd p0.List r1.1.toNat).Held) w1_3.toNat).Frame).Head).A2).x1) (((((gd ((gd p0.List r1.1.toNat).Held) w1_3.toNat).Frame).Head).A2).x2) (((((gd ((gd p0.List r1.1.toNat).Held) w1_3.toNat).Frame).Head).A2).x3) (((((gd ((gd p0.List r1.1.toNat).Held) w1_3.toNat).Frame).Head).A2).x4) (((((gd ((gd p0.List r1.1.toNat).Held) w1_3.toNat).Frame).Head).A2).x5)) (A6u8.mk (((((gd ((gd p0.List r1.1.toNat).Held) w1_3.toNat).Frame).Head).A3).x0) (((((gd ((gd p0.List r1.1.toNat).Held) w1_3.toNat).Frame).Head).A3).x1) (((((gd ((gd p0.List r1.1.toNat).Held) w1_3.toNat).Frame).Head).A3).x2) (((((gd ((gd p0.List r1.1.toNat).Held) w1_3.toNat).Frame).Head).A3).x3) (((((gd ((gd p0.List r1.1.toNat).Held) w1_3.toNat).Frame).Head).A3).x4) (((((gd ((gd p0.List r1.1.toNat).Held) w1_3.toNat).Frame).Head).A3).x5)) (A6u8.mk (((((gd ((gd p0.List r1.1.toNat).Held) w1_3.toNat).Frame).Head).A4).x0) (((((gd ((gd p0.List r1.1.toNat).Held) w1_3.toNat).Frame).Head).A4).x1) (((((gd ((gd p0.List r1.1.toNat).Held) w1_3.toNat).Frame).Head).A4).x2) (((((gd ((gd p0.List r1.1.toNat).Held) w1_3.toNat).Frame).Head).A4).x3) (((((gd ((gd p0.List r1.1.toNat).Held) w1_3.toNat).Frame).Head).A4).x4) (((((gd ((gd p0.List r1.1.toNat).Held) w1_3.toNat).Frame).Head).A4).x5)) ((((gd ((gd p0.List r1.1.toNat).Held) w1_3.toNat).Frame).Head).Seq) ((((gd ((gd p0.List r1.1.toNat).Held) w1_3.toNat).Frame).Head).Frag) ((((gd ((gd p0.List r1.1.toNat).Held) w1_3.toNat).Frame).Head).Tid) ((((gd ((gd p0.List r1.1.toNat).Held) w1_3.toNat).Frame).Head).Ack) ((((gd ((gd p0.List r1.1.toNat).Held) w1_3.toNat).Frame).Head).Amsdu) ((((gd ((gd p0.List r1.1.toNat).Held) w1_3.toNat).Frame).Head).Eosp)) (((gd ((gd p0.List r1.1.toNat).Held) w1_3.toNat).Frame).Body)),r14,0)) some)))
noncomputable def body78 (l:List AV) (s:Nat):AR:=GP (dC yK (dC (dI .i64) dN)) (fun p=>F78 p.1 p.2.1) (fun r=>.tup [.agg (hC ((r.1).Head) (.ro 1 (((r.1).Body).length) false (enR xA ((r.1).Body))::[])),.agg [.int .i64 ((r.2.1).Limit),.int .i64 ((r.2.1).Stay),.ro 3 (((r.2.1).List).length) false (enR zC ((r.2.1).List)),.ro 43 (((r.2.1).Group).length) false (enR zD ((r.2.1).Group))],.int .i64 (r.2.2)]) l s
attribute [go_sem] body78
noncomputable instance lt_F78_L1 {p0:TBuffer} {r1:Int × Int}:LT (fun s=>F78_L1 p0 r1 s.1 s.2):=⟨(fun _ _ (s:Int × Int)=>(.top::.top::.ptr 0 0 0 0::.top::.ptr 1 0 0 0::.ptr 2 0 0 0::.top::.int .i64 r1.1::.top::.ptr 3 0 0 0::.int .i64 s.1::.int .i64 s.2::tp 71 [])),(fun _ _ s=>[.lit 25 [.int .i64 p0.Limit,.int .i64 p0.Stay,.ro 3 p0.List.length false (enR zC p0.List),.ro 43 p0.Group.length false (enR zD p0.Group)],.lit 33 (hZ (.ro 0 0 true (fun _ _=>.top)::[])),.lit 25 [.int .i64 0,.int .i64 0,.ro 0 0 true (fun _ _=>.top),.ro 0 0 true (fun _ _=>.top)],.lit 57 [.int .i64 ((gd p0.List r1.1.toNat).Aid),.bool ((gd p0.List r1.1.toNat).Asleep),.ro 43 (((gd p0.List r1.1.toNat).Held).length) false (enR zD ((gd p0.List r1.1.toNat).Held))]]),(fun _ _ (e:Int)=>(.top::.top::.ptr 0 0 0 0::.top::.ptr 1 0 0 0::.ptr 2 0 0 0::.top::.int .i64 r1.1::.top::.ptr 3 0 0 0::.int .i64 e::tp 72 [])),(fun _ _ e=>[.lit 25 [.int .i64 p0.Limit,.int .i64 p0.Stay,.ro 3 p0.List.length false (enR zC p0.List),.ro 43 p0.Group.length false (enR zD p0.Group)],.lit 33 (hZ (.ro 0 0 true (fun _ _=>.top)::[])),.lit 25 [.int .i64 0,.int .i64 0,.ro 0 0 true (fun _ _=>.top),.ro 0 0 true (fun _ _=>.top)],.lit 57 [.int .i64 ((gd p0.List r1.1.toNat).Aid),.bool ((gd p0.List r1.1.toNat).Asleep),.ro 43 (((gd p0.List r1.1.toNat).Held).length) false (enR zD ((gd p0.List r1.1.toNat).Held))]]),_,fun s=>F78_L1.eq_1 _ _ _ _⟩
theorem ok78:yU Try.prog 78 (xN body78):=GPo (rs:=[.cell 4 33,.cell 5 25,.tmp 6]) Try.func78 (by kernel_rfl) rfl rfl Try.ntmps78 rn fun ⟨p0,p1,_⟩ r H=>by
 have C:=zE ok95 <| zE ok100 <| zE ok96 <| zU
 dsimp only [F78] at H
 refine st ?_
 refine ds1 ?_
 intro r1 E G B H
 refine rg C ?_
 simp only [go_sem,Nat.reduceLT,Nat.reduceAdd,Nat.reduceBEq,E]
 repeat ((with_reducible refine aI ?_ ?_);exact an0)
 refine zZ ?_
 refine sq zA ?_
 simp only [go_sem]
 refine yX rfl trivial (fun hc=>?_) (fun hc=>?_)
 ·have E:=E
  have B:=B
  exact dr
 have hk3:(bEq r1.2 0)=true:=by simpa using hc
 replace H:=yM hc H
 refine rg zA ?_
 simp only [go_sem]
 refine zZ ?_
 obtain ⟨f4,H⟩:=zN.1 H
 replace f4:=xD.1 f4
 refine rg zA ?_
 simp only [go_sem,Nat.reduceLeDiff,Nat.reduceLT,Nat.reduceAdd,f4]
 repeat ((with_reducible refine aI ?_ ?_);exact an5)
 refine zZ ?_
 refine sq zA ?_
 simp only [go_sem,Nat.reduceLeDiff,Nat.reduceLT,Nat.reduceAdd]
 repeat ((with_reducible refine aI ?_ ?_);exact an5)
 refine yX rfl trivial (fun hc=>?_) (fun hc=>?_)
 ·have E:=And.intro f4 (E)
  have B:=And.intro hk3 (B)
  exact dr
 have hk5:((gd p0.List r1.1.toNat).Asleep)=true:=by simpa using hc
 replace H:=yM hc H
 refine rg zA ?_
 simp only [go_sem]
 refine zZ ?_
 refine sq zA ?_
 simp only [go_sem,Nat.reduceLT,Nat.reduceAdd]
 repeat ((with_reducible refine aI ?_ ?_);exact an0)
 refine yX rfl trivial (fun hc=>?_) (fun hc=>?_)
 ·have E:=And.intro f4 (E)
  have B:=And.intro hk5 (And.intro hk3 (B))
  exact dr
 have hk6:(bEq (((gd p0.List r1.1.toNat).Held).length:Nat) 0)=false:=by simpa using hc
 replace H:=yM hc H
 refine rg zA ?_
 simp only [go_sem]
 refine sq zA ?_
 simp only [go_sem]
 refine zZ ?_
 refine sq zA ?_
 simp only [go_sem]
 refine uJ ?_
 refine wX (fun s:Int × Int=>(.top::.top::.ptr 0 0 0 0::.top::.ptr 1 0 0 0::.ptr 2 0 0 0::.top::.int .i64 r1.1::.top::.ptr 3 0 0 0::.int .i64 s.1::.int .i64 s.2::tp 71 [])) (fun s=>[.lit 25 [.int .i64 p0.Limit,.int .i64 p0.Stay,.ro 3 p0.List.length false (enR zC p0.List),.ro 43 p0.Group.length false (enR zD p0.Group)],.lit 33 (hZ (.ro 0 0 true (fun _ _=>.top)::[])),.lit 25 [.int .i64 0,.int .i64 0,.ro 0 0 true (fun _ _=>.top),.ro 0 0 true (fun _ _=>.top)],.lit 57 [.int .i64 ((gd p0.List r1.1.toNat).Aid),.bool ((gd p0.List r1.1.toNat).Asleep),.ro 43 (((gd p0.List r1.1.toNat).Held).length) false (enR zD ((gd p0.List r1.1.toNat).Held))]]) (fun e:Int=>(.top::.top::.ptr 0 0 0 0::.top::.ptr 1 0 0 0::.ptr 2 0 0 0::.top::.int .i64 r1.1::.top::.ptr 3 0 0 0::.int .i64 e::tp 72 [])) (fun e=>[.lit 25 [.int .i64 p0.Limit,.int .i64 p0.Stay,.ro 3 p0.List.length false (enR zC p0.List),.ro 43 p0.Group.length false (enR zD p0.Group)],.lit 33 (hZ (.ro 0 0 true (fun _ _=>.top)::[])),.lit 25 [.int .i64 0,.int .i64 0,.ro 0 0 true (fun _ _=>.top),.ro 0 0 true (fun _ _=>.top)],.lit 57 [.int .i64 ((gd p0.List r1.1.toNat).Aid),.bool ((gd p0.List r1.1.toNat).Asleep),.ro 43 (((gd p0.List r1.1.toNat).Held).length) false (enR zD ((gd p0.List r1.1.toNat).Held))]]) H ?_ (fun s o H hn1_1 hn2_1=>?_) (fun w1_3 H=>?_)
 ·have E:=And.intro f4 (E)
  have B:=And.intro hk6 (And.intro hk5 (And.intro hk3 (B)))
  exact dr
 ·obtain ⟨v1_1,v1_2⟩:=s
  unfold F78_L1 at H
  try dsimp only at H ⊢
  try simp only [tp]
  have E:=And.intro f4 (E)
  have B:=And.intro hk6 (And.intro hk5 (And.intro hk3 (B)))
  exact dr
 ·try dsimp only at H ⊢
  try simp only [tp]
  try simp only [wJ]
  refine zZ ?_
  obtain ⟨f11,H⟩:=zN.1 H
  replace f11:=xD.1 f11
  refine rg zA ?_
  simp only [go_sem,Nat.reduceLT,Nat.reduceAdd,reduceCtorEq,f11]
  repeat ((with_reducible refine aI ?_ ?_);exact an5)
  refine sq zA ?_
  simp only [go_sem,Nat.reduceLeDiff,Nat.reduceLT,Nat.reduceAdd,reduceCtorEq]
  repeat ((with_reducible refine aI ?_ ?_);exact an0)
  refine zZ ?_
  obtain ⟨r12,e13,H⟩:=bsi H
  refine rg C ?_
  simp only [go_sem,Nat.reduceLT,Nat.reduceAdd,Nat.reduceBEq,e13]
  repeat ((with_reducible refine aI ?_ ?_);exact an0)
  refine zZ ?_
  refine jG [5] ?_ ?_
  ·simp only [go_sem,Nat.reduceBEq]
   try exact at0
  simp only [go_sem,Nat.reduceBEq,Nat.reduceAdd]
  have E:=And.intro e13 (And.intro f11 (And.intro f4 (E)))
  have B:=And.intro hk6 (And.intro hk5 (And.intro hk3 (B)))
  exact dr
noncomputable def F79 (p0:TBuffer):Option ((List TFrame) × TBuffer × Int) :=
 (F19 p0).bind fun r1=>bif (!r1) then (some ([],(TBuffer.mk 0 0 [] []),8)) else ((F29 p0).bind fun r4=>(F35 p0.Group).bind fun r6=>(F97 r6).bind fun r8=>some (r8,(TBuffer.mk r4.Limit r4.Stay r4.List []),0))
noncomputable def body79 (l:List AV) (s:Nat):AR:=GP (dC yK dN) (fun p=>F79 p.1) (fun r=>.tup [.ro 41 ((r.1).length) false (enR zI (r.1)),.agg [.int .i64 ((r.2.1).Limit),.int .i64 ((r.2.1).Stay),.ro 3 (((r.2.1).List).length) false (enR zC ((r.2.1).List)),.ro 43 (((r.2.1).Group).length) false (enR zD ((r.2.1).Group))],.int .i64 (r.2.2)]) l s
attribute [go_sem] body79
theorem ok79:yU Try.prog 79 (xN body79):=GPo (rs:=[.tmp 2,.cell 3 25,.tmp 4]) Try.func79 (by kernel_rfl) rfl rfl Try.ntmps79 rn fun ⟨p0,_⟩ r H=>by
 have C:=zE ok19 <| zE ok29 <| zE ok35 <| zE (fr_ok ok97) <| zU
 dsimp only [F79] at H
 exact dq
noncomputable def F101_L1 (p0:List TStored) (p1:Int) (p2:Int) (v1_1:List TFrame) (v1_2:Int) (v1_3:List TStored):Option (Lp ((List TFrame) × Int × (List TStored)) (((List TFrame) × (List TStored)) ⊕ ((List TFrame) × (List TStored)))) :=
 bif (bLt v1_2 (p0.length:Nat)) then (need (inb v1_2 p0.length) <| bif (bLe (wr .i64 (((gd p0 v1_2.toNat).At)+p1)) p2) then (need (inb v1_2 p0.length) <| need (capb 104 (v1_1.length+1)) <| some (.next ((v1_1 ++ [(eF ((gd p0 v1_2.toNat).Frame))]),wr .i64 (v1_2+1),v1_3))) else (need (inb v1_2 p0.length) <| need (capb 120 (v1_3.length+1)) <| some (.next (v1_1,wr .i64 (v1_2+1),(v1_3 ++ [(TStored.mk ((gd p0 v1_2.toNat).Cat) ((gd p0 v1_2.toNat).At) (eF ((gd p0 v1_2.toNat).Frame)))]))))) else (some (.done (.inl (v1_1,v1_3))))
noncomputable def F101 (p0:List TStored) (p1:Int) (p2:Int):Option ((List TFrame) × (List TStored)) :=
 lp (loopD (fun s=>F101_L1 p0 p1 p2 s.1 s.2.1 s.2.2) ([],0,[])) (fun e1=>some (e1.1,e1.2)) some
noncomputable def body101 (l:List AV) (s:Nat):AR:=GP (dC xI (dC (dI .i64) (dC (dI .i64) dN))) (fun p=>F101 p.1 p.2.1 p.2.2.1) (fun r=>.tup [.ro 41 ((r.1).length) false (enR zI (r.1)),.ro 43 ((r.2).length) false (enR zD (r.2))]) l s
attribute [go_sem] body101
noncomputable instance lt_F101_L1 {p0:List TStored} {p1:Int} {p2:Int}:LT (fun s=>F101_L1 p0 p1 p2 s.1 s.2.1 s.2.2):=⟨(fun _ _ (s:(List TFrame) × Int × (List TStored))=>(.ro 43 p0.length false (enR zD p0)::.int .i64 p1::.int .i64 p2::tp 5 (.sl 0 41 0 s.1.length false::.sl 1 43 0 s.2.2.length false::.int .i64 s.2.1::tp 32 []))),(fun _ _ s=>[.row 33 41 s.1.length (enR zI s.1),.row 61 43 s.2.2.length (enR zD s.2.2)]),(fun _ _ (e:(List TFrame) × (List TStored))=>(tp 8 (.sl 0 41 0 e.1.length false::.sl 1 43 0 e.2.length false::tp 33 []))),(fun _ _ e=>[.row 33 41 e.1.length (enR zI e.1),.row 61 43 e.2.length (enR zD e.2)]),_,fun s=>F101_L1.eq_1 _ _ _ _ _ _⟩
theorem ok101:yU Try.prog 101 (xN body101):=GPo (rs:=[.tmp 6,.tmp 7]) Try.func101 (by kernel_rfl) rfl rfl Try.ntmps101 rn fun ⟨p0,p1,p2,_⟩ r H=>by
 have C:=zA
 dsimp only [F101] at H
 exact dq
noncomputable def F80_L1 (p0:TBuffer) (p1:Int) (v1_1:List TFrame) (v1_2:Int) (v1_3:List TSleeper):Option (Lp ((List TFrame) × Int × (List TSleeper)) (((List TFrame) × (List TSleeper)) ⊕ ((List TFrame) × TBuffer × Int))) :=
 bif (bLt v1_2 (p0.List.length:Nat)) then (need (inb v1_2 p0.List.length) <| (F101 ((gd p0.List v1_2.toNat).Held) p0.Stay p1).bind fun r11=>need (capb 104 (v1_1.length+r11.1.length)) <| need (inb v1_2 v1_3.length) <| some (.next ((v1_1 ++ r11.1),wr .i64 (v1_2+1),(v1_3.set v1_2.toNat (TSleeper.mk ((gd v1_3 v1_2.toNat).Aid) ((gd v1_3 v1_2.toNat).Asleep) r11.2))))) else (some (.done (.inl (v1_1,v1_3))))
noncomputable def F80 (p0:TBuffer) (p1:Int):Option ((List TFrame) × TBuffer × Int) :=
 (F19 p0).bind fun r1=>bif (!r1) then (some ([],(TBuffer.mk 0 0 [] []),8)) else ((F87 p1).bind fun r4=>bif (!r4) then (some ([],(TBuffer.mk 0 0 [] []),2)) else ((F29 p0).bind fun r7=>lp (loopD (fun s=>F80_L1 p0 p1 s.1 s.2.1 s.2.2) ([],0,r7.List)) (fun e1=>(F101 p0.Group p0.Stay p1).bind fun r15=>need (capb 104 (e1.1.length+r15.1.length)) <| some ((e1.1 ++ r15.1),(TBuffer.mk r7.Limit r7.Stay e1.2 r15.2),0)) some))
noncomputable def body80 (l:List AV) (s:Nat):AR:=GP (dC yK (dC (dI .i64) dN)) (fun p=>F80 p.1 p.2.1) (fun r=>.tup [.ro 41 ((r.1).length) false (enR zI (r.1)),.agg [.int .i64 ((r.2.1).Limit),.int .i64 ((r.2.1).Stay),.ro 3 (((r.2.1).List).length) false (enR zC ((r.2.1).List)),.ro 43 (((r.2.1).Group).length) false (enR zD ((r.2.1).Group))],.int .i64 (r.2.2)]) l s
attribute [go_sem] body80
noncomputable instance lt_F80_L1 {p0:TBuffer} {p1:Int}:LT (fun s=>F80_L1 p0 p1 s.1 s.2.1 s.2.2):=⟨(fun t h (s:(List TFrame) × Int × (List TSleeper))=>.top::.int .i64 p1::.ptr 0 0 0 0::.top::.top::.ptr 1 0 0 0::.top::.ptr 4 0 0 0::.sl 5 41 0 s.1.length false::.int .i64 s.2.1::tp 58 ([])),(fun t h s=>[.lit 25 [.int .i64 p0.Limit,.int .i64 p0.Stay,.ro 3 p0.List.length false (enR zC p0.List),.ro 43 p0.Group.length false (enR zD p0.Group)],.lit 25 [.int .i64 0,.int .i64 0,.ro 0 0 true (fun _ _=>.top),.ro 0 0 true (fun _ _=>.top)],.dead,geth h 3,geth h 4,.row 33 41 s.1.length (enR zI s.1),.row 57 3 s.2.2.length (enR zC s.2.2)]),(fun t h (e:(List TFrame) × (List TSleeper))=>.top::.int .i64 p1::.ptr 0 0 0 0::.top::.top::.ptr 1 0 0 0::.top::.ptr 4 0 0 0::.sl 5 41 0 e.1.length false::tp 59 ([])),(fun t h e=>[.lit 25 [.int .i64 p0.Limit,.int .i64 p0.Stay,.ro 3 p0.List.length false (enR zC p0.List),.ro 43 p0.Group.length false (enR zD p0.Group)],.lit 25 [.int .i64 0,.int .i64 0,.ro 0 0 true (fun _ _=>.top),.ro 0 0 true (fun _ _=>.top)],.dead,geth h 3,geth h 4,.row 33 41 e.1.length (enR zI e.1),.row 57 3 e.2.length (enR zC e.2)]),_,fun s=>F80_L1.eq_1 _ _ _ _ _⟩
theorem ok80:yU Try.prog 80 (xN body80):=GPo (rs:=[.tmp 4,.cell 5 25,.tmp 6]) Try.func80 (by kernel_rfl) rfl rfl Try.ntmps80 rn fun ⟨p0,p1,_⟩ r H=>by
 have C:=zE ok19 <| zE ok87 <| zE ok29 <| zE ok101 <| zU
 dsimp only [F80] at H
 refine st ?_
 refine ds1 ?_
 intro r1 E G B H
 refine ds1 ?_
 intro r4 E G B H
 refine ds1 ?_
 intro r7 E G B H
 refine rg C ?_
 simp only [go_sem,Nat.reduceLT,Nat.reduceAdd,Nat.reduceBEq,E]
 repeat ((with_reducible refine aI ?_ ?_);exact an0)
 refine sq zA ?_
 simp only [go_sem]
 refine zZ ?_
 refine sq zA ?_
 simp only [go_sem]
 refine uJ ?_
 refine wX (fun s:(List TFrame) × Int × (List TSleeper)=>(.top::.int .i64 p1::.ptr 0 0 0 0::.top::.top::.ptr 1 0 0 0::.top::.ptr 4 0 0 0::.sl 5 41 0 s.1.length false::.int .i64 s.2.1::tp 58 [])) (fun s=>[.lit 25 [.int .i64 p0.Limit,.int .i64 p0.Stay,.ro 3 p0.List.length false (enR zC p0.List),.ro 43 p0.Group.length false (enR zD p0.Group)],.lit 25 [.int .i64 0,.int .i64 0,.ro 0 0 true (fun _ _=>.top),.ro 0 0 true (fun _ _=>.top)],.dead,.row 61 43 r7.Group.length (enR zD r7.Group),.lit 25 [.int .i64 r7.Limit,.int .i64 r7.Stay,.sl 6 3 0 s.2.2.length false,.sl 3 43 0 r7.Group.length false],.row 33 41 s.1.length (enR zI s.1),.row 57 3 s.2.2.length (enR zC s.2.2)]) (fun e:(List TFrame) × (List TSleeper)=>(.top::.int .i64 p1::.ptr 0 0 0 0::.top::.top::.ptr 1 0 0 0::.top::.ptr 4 0 0 0::.sl 5 41 0 e.1.length false::tp 59 [])) (fun e=>[.lit 25 [.int .i64 p0.Limit,.int .i64 p0.Stay,.ro 3 p0.List.length false (enR zC p0.List),.ro 43 p0.Group.length false (enR zD p0.Group)],.lit 25 [.int .i64 0,.int .i64 0,.ro 0 0 true (fun _ _=>.top),.ro 0 0 true (fun _ _=>.top)],.dead,.row 61 43 r7.Group.length (enR zD r7.Group),.lit 25 [.int .i64 r7.Limit,.int .i64 r7.Stay,.sl 6 3 0 e.2.length false,.sl 3 43 0 r7.Group.length false],.row 33 41 e.1.length (enR zI e.1),.row 57 3 e.2.length (enR zC e.2)]) H ?_ (fun s o H hn1_1 hn2_1=>?_) (fun e H=>?_)
 ·have E:=E
  have B:=B
  exact dr
 ·obtain ⟨v1_1,v1_2,v1_3⟩:=s
  unfold F80_L1 at H
  try dsimp only at H ⊢
  try simp only [tp]
  have E:=E
  have B:=B
  exact dr
 ·obtain ⟨w1_4,w1_5⟩:=e
  try dsimp only at H ⊢
  try simp only [tp]
  try simp only [wJ]
  have E:=E
  have B:=B
  exact dr
noncomputable def F32 (p0:TBuffer) (p1:TStep):Option ((List TFrame) × (List TFrame) × TBuffer × Int) :=
 bif (bEq p1.Kind 0) then ((F72 p0 p1.Aid).bind fun r2=>some ([],[],r2.1,r2.2)) else (bif (bEq p1.Kind 1) then ((F73 p0 p1.Aid).bind fun r5=>some ([],r5.1,r5.2.1,r5.2.2)) else (bif (bEq p1.Kind 2) then ((F74 p0 p1.Aid).bind fun r8=>some ([],[],r8.1,r8.2)) else (bif (bEq p1.Kind 3) then ((F75 p0 p1.Aid).bind fun r11=>some (r11.1,[],r11.2.1,r11.2.2)) else (bif (bEq p1.Kind 4) then ((F76 p0 p1.Aid p1.Cat p1.Frame p1.Now).bind fun r14=>some (r14.1,r14.2.1,r14.2.2.1,r14.2.2.2)) else (bif (bEq p1.Kind 5) then ((F77 p0 p1.Frame p1.Now).bind fun r17=>some (r17.1,r17.2.1,r17.2.2.1,r17.2.2.2)) else (bif (bEq p1.Kind 6) then ((F78 p0 p1.Aid).bind fun r20=>bif (bEq r20.2.2 0) then (some ([r20.1],[],r20.2.1,r20.2.2)) else (some ([],[],r20.2.1,r20.2.2))) else (bif (bEq p1.Kind 7) then ((F79 p0).bind fun r24=>some (r24.1,[],r24.2.1,r24.2.2)) else (bif (bEq p1.Kind 8) then ((F80 p0 p1.Now).bind fun r27=>some ([],r27.1,r27.2.1,r27.2.2)) else (some ([],[],(TBuffer.mk 0 0 [] []),2))))))))))
noncomputable def body32 (l:List AV) (s:Nat):AR:=GP (dC yK (dC da_TStep dN)) (fun p=>F32 p.1 p.2.1) (fun r=>.tup [.ro 41 ((r.1).length) false (enR zI (r.1)),.ro 41 ((r.2.1).length) false (enR zI (r.2.1)),.agg [.int .i64 ((r.2.2.1).Limit),.int .i64 ((r.2.2.1).Stay),.ro 3 (((r.2.2.1).List).length) false (enR zC ((r.2.2.1).List)),.ro 43 (((r.2.2.1).Group).length) false (enR zD ((r.2.2.1).Group))],.int .i64 (r.2.2.2)]) l s
attribute [go_sem] body32
theorem ok32:yU Try.prog 32 (xN body32):=GPo (rs:=[.tmp 4,.tmp 5,.cell 6 25,.tmp 7]) Try.func32 (by kernel_rfl) rfl rfl Try.ntmps32 rn fun ⟨p0,p1,_⟩ r H=>by
 have C:=zE ok72 <| zE ok73 <| zE ok74 <| zE ok75 <| zE ok76 <| zE ok77 <| zE ok78 <| zE ok79 <| zE ok80 <| zU
 dsimp only [F32] at H
 exact dq
end Go.Proofs.Ytefiemaoacmdkaa
