/-
  Contracts of functions: each computes its partial function.
-/
import Derived.Test.YtefiemaoacmdkaaZEh
namespace Go.Proofs.Ytefiemaoacmdkaa
open Go.Am
set_option maxHeartbeats 4000000
set_option maxRecDepth 20000
set_option linter.unusedVariables false
set_option linter.unusedSimpArgs false
noncomputable def F87 (p0:Int):Option (Bool) :=
 some ((bLe 0 p0) && (bLe p0 1099511627776))
noncomputable def body87 (l:List AV):AR:=PP (dC (dI .i64) dN) (fun p=>F87 p.1) (fun r=>.bool r) l
attribute [go_sem] body87
theorem ok87:yU Try.prog 87 (yR body87):=PPo (rs:=[.tmp 2]) Try.func87 (by kernel_rfl) rfl rfl Try.ntmps87 (fun _=>rfl) fun ⟨p0,_⟩ r H=>by
 have C:=zA
 dsimp only [F87] at H
 exact dq
noncomputable def F48_L1 (p0:List TStored) (p2:Int) (v1_1:Int):Option (Lp (Int) ((Unit) ⊕ (Bool))) :=
 bif (bLt v1_1 (p0.length:Nat)) then (need (inb v1_1 p0.length) <| need (bif (!(bLt p2 (wr .i64 ((gd p0 v1_1.toNat).Cat)))) then inb v1_1 p0.length else true) <| need (bif (!(bLt p2 (wr .i64 ((gd p0 v1_1.toNat).Cat)))) then ((F87 ((gd p0 v1_1.toNat).At)).isSome) else true) <| need (bif ((!((bLt p2 (wr .i64 ((gd p0 v1_1.toNat).Cat))) || (!(gt (F87 ((gd p0 v1_1.toNat).At)))))) && (bLt 0 v1_1)) then inb (wr .i64 (v1_1 - 1)) p0.length else true) <| need (bif ((!((bLt p2 (wr .i64 ((gd p0 v1_1.toNat).Cat))) || (!(gt (F87 ((gd p0 v1_1.toNat).At)))))) && (bLt 0 v1_1)) then inb v1_1 p0.length else true) <| bif (((bLt p2 (wr .i64 ((gd p0 v1_1.toNat).Cat))) || (!(gt (F87 ((gd p0 v1_1.toNat).At))))) || ((bLt 0 v1_1) && (bLt ((gd p0 v1_1.toNat).At) ((gd p0 ((wr .i64 (v1_1 - 1)).toNat)).At)))) then (some (.done (.inr false))) else (some (.next (wr .i64 (v1_1+1))))) else (some (.done (.inl ())))
noncomputable def F48 (p0:List TStored) (p1:Int) (p2:Int):Option (Bool) :=
 bif (bLt p1 (p0.length:Nat)) then (some false) else (lp (loopD (fun s=>F48_L1 p0 p2 s) 0) (fun _=>some true) some)
noncomputable def body48 (l:List AV):AR:=PP (dC xI (dC (dI .i64) (dC (dI .i64) dN))) (fun p=>F48 p.1 p.2.1 p.2.2.1) (fun r=>.bool r) l
attribute [go_sem] body48
noncomputable instance lt_F48_L1 {p0:List TStored} {p2:Int}:LT (fun s=>F48_L1 p0 p2 s):=⟨(fun _ _ (s:Int)=>(.ro 43 p0.length false (enR zD p0)::.top::.int .i64 p2::tp 4 (.int .i64 s::tp 45 []))),(fun _ _ s=>[]),(fun _ _ (e:Unit)=>(tp 53 [])),(fun _ _ e=>[]),_,fun s=>F48_L1.eq_1 _ _ _⟩
theorem ok48:yU Try.prog 48 (yR body48):=PPo (rs:=[.tmp 6]) Try.func48 (by kernel_rfl) rfl rfl Try.ntmps48 (fun _=>rfl) fun ⟨p0,p1,p2,_⟩ r H=>by
 have C:=zE ok87 <| zU
 dsimp only [F48] at H
 exact dq
noncomputable def F49_L1 (p0:TBuffer) (v1_1:Int):Option (Lp (Int) ((Unit) ⊕ (Bool))) :=
 bif (bLt v1_1 (p0.List.length:Nat)) then (need (inb v1_1 p0.List.length) <| bif (gd p0.List v1_1.toNat).Asleep then (some (.done (.inr true))) else (some (.next (wr .i64 (v1_1+1))))) else (some (.done (.inl ())))
noncomputable def F49 (p0:TBuffer):Option (Bool) :=
 lp (loopD (fun s=>F49_L1 p0 s) 0) (fun _=>some false) some
noncomputable def body49 (l:List AV):AR:=PP (dC yK dN) (fun p=>F49 p.1) (fun r=>.bool r) l
attribute [go_sem] body49
noncomputable instance lt_F49_L1 {p0:TBuffer}:LT (fun s=>F49_L1 p0 s):=⟨(fun _ _ (s:Int)=>(.top::.ptr 0 0 0 0::.top::.int .i64 s::tp 13 [])),(fun _ _ s=>[.lit 25 [.int .i64 p0.Limit,.int .i64 p0.Stay,.ro 3 p0.List.length false (enR zC p0.List),.ro 43 p0.Group.length false (enR zD p0.Group)]]),(fun _ _ (e:Unit)=>(tp 17 [])),(fun _ _ e=>[.dead]),_,fun s=>F49_L1.eq_1 _ _⟩
theorem ok49:yU Try.prog 49 (yR body49):=PPo (rs:=[.tmp 2]) Try.func49 (by kernel_rfl) rfl rfl Try.ntmps49 (fun _=>rfl) fun ⟨p0,_⟩ r H=>by
 have C:=zA
 dsimp only [F49] at H
 exact dq
noncomputable def F19_L1 (p0:TBuffer) (v1_1:Int):Option (Lp (Int) ((Unit) ⊕ (Bool))) :=
 bif (bLt v1_1 (p0.List.length:Nat)) then (need (inb v1_1 p0.List.length) <| need (bif ((!((bLt ((gd p0.List v1_1.toNat).Aid) 1) || (bLt 255 ((gd p0.List v1_1.toNat).Aid)))) && (bLt 0 v1_1)) then inb (wr .i64 (v1_1 - 1)) p0.List.length else true) <| need (bif (!(((bLt ((gd p0.List v1_1.toNat).Aid) 1) || (bLt 255 ((gd p0.List v1_1.toNat).Aid))) || ((bLt 0 v1_1) && (bLe ((gd p0.List v1_1.toNat).Aid) ((gd p0.List ((wr .i64 (v1_1 - 1)).toNat)).Aid))))) then ((F48 ((gd p0.List v1_1.toNat).Held) p0.Limit 3).isSome) else true) <| bif (((((bLt ((gd p0.List v1_1.toNat).Aid) 1) || (bLt 255 ((gd p0.List v1_1.toNat).Aid))) || ((bLt 0 v1_1) && (bLe ((gd p0.List v1_1.toNat).Aid) ((gd p0.List ((wr .i64 (v1_1 - 1)).toNat)).Aid)))) || (!(gt (F48 ((gd p0.List v1_1.toNat).Held) p0.Limit 3)))) || ((!((gd p0.List v1_1.toNat).Asleep)) && (bLt 0 (((gd p0.List v1_1.toNat).Held).length:Nat)))) then (some (.done (.inr false))) else (some (.next (wr .i64 (v1_1+1))))) else (some (.done (.inl ())))
noncomputable def F19 (p0:TBuffer):Option (Bool) :=
 need (bif (!(((((bLt p0.Limit 1) || (bLt 64 p0.Limit)) || (bLt p0.Stay 1)) || (bLt 1073741824 p0.Stay)) || (bLt 32 (p0.List.length:Nat)))) then ((F48 p0.Group p0.Limit 0).isSome) else true) <| bif ((((((bLt p0.Limit 1) || (bLt 64 p0.Limit)) || (bLt p0.Stay 1)) || (bLt 1073741824 p0.Stay)) || (bLt 32 (p0.List.length:Nat))) || (!(gt (F48 p0.Group p0.Limit 0)))) then (some false) else (lp (loopD (fun s=>F19_L1 p0 s) 0) (fun _=>need (bif (!(bEq (p0.Group.length:Nat) 0)) then ((F49 p0).isSome) else true) <| some ((bEq (p0.Group.length:Nat) 0) || (gt (F49 p0)))) some)
noncomputable def body19 (l:List AV):AR:=PP (dC yK dN) (fun p=>F19 p.1) (fun r=>.bool r) l
attribute [go_sem] body19
noncomputable instance lt_F19_L1 {p0:TBuffer}:LT (fun s=>F19_L1 p0 s):=⟨(fun _ _ (s:Int)=>(.top::.ptr 0 0 0 0::.top::.int .i64 s::tp 96 [])),(fun _ _ s=>[.lit 25 [.int .i64 p0.Limit,.int .i64 p0.Stay,.ro 3 p0.List.length false (enR zC p0.List),.ro 43 p0.Group.length false (enR zD p0.Group)]]),(fun _ _ (e:Unit)=>(.top::.ptr 0 0 0 0::tp 98 [])),(fun _ _ e=>[.lit 25 [.int .i64 p0.Limit,.int .i64 p0.Stay,.ro 3 p0.List.length false (enR zC p0.List),.ro 43 p0.Group.length false (enR zD p0.Group)]]),_,fun s=>F19_L1.eq_1 _ _⟩
theorem ok19:yU Try.prog 19 (yR body19):=PPo (rs:=[.tmp 2]) Try.func19 (by kernel_rfl) rfl rfl Try.ntmps19 (fun _=>rfl) fun ⟨p0,_⟩ r H=>by
 have C:=zE ok48 <| zE ok49 <| zU
 dsimp only [F19] at H
 exact dq
noncomputable def F22_L1 (p0:TBuffer) (p1:Int) (v1_1:Int):Option (Lp (Int) ((Unit) ⊕ (Int))) :=
 bif (bLt v1_1 (p0.List.length:Nat)) then (need (inb v1_1 p0.List.length) <| bif (bEq ((gd p0.List v1_1.toNat).Aid) p1) then (some (.done (.inr v1_1))) else (some (.next (wr .i64 (v1_1+1))))) else (some (.done (.inl ())))
noncomputable def F22 (p0:TBuffer) (p1:Int):Option (Int) :=
 lp (loopD (fun s=>F22_L1 p0 p1 s) 0) (fun _=>some (-1)) some
noncomputable def body22 (l:List AV):AR:=PP (dC yK (dC (dI .i64) dN)) (fun p=>F22 p.1 p.2.1) (fun r=>.int .i64 r) l
attribute [go_sem] body22
noncomputable instance lt_F22_L1 {p0:TBuffer} {p1:Int}:LT (fun s=>F22_L1 p0 p1 s):=⟨(fun _ _ (s:Int)=>(.top::.int .i64 p1::.ptr 0 0 0 0::.top::.top::.int .i64 s::tp 16 [])),(fun _ _ s=>[.lit 25 [.int .i64 p0.Limit,.int .i64 p0.Stay,.ro 3 p0.List.length false (enR zC p0.List),.ro 43 p0.Group.length false (enR zD p0.Group)]]),(fun _ _ (e:Unit)=>(tp 22 [])),(fun _ _ e=>[.dead]),_,fun s=>F22_L1.eq_1 _ _ _⟩
theorem ok22:yU Try.prog 22 (yR body22):=PPo (rs:=[.tmp 4]) Try.func22 (by kernel_rfl) rfl rfl Try.ntmps22 (fun _=>rfl) fun ⟨p0,p1,_⟩ r H=>by
 have C:=zA
 dsimp only [F22] at H
 exact dq
noncomputable def F95 (p0:TBuffer) (p1:Int):Option (Int × Int) :=
 (F19 p0).bind fun r1=>bif (!r1) then (some (0,8)) else (bif ((bLt p1 1) || (bLt 255 p1)) then (some (0,2)) else ((F22 p0 p1).bind fun r5=>bif (bLt r5 0) then (some (0,6)) else (some (r5,0))))
noncomputable def body95 (l:List AV):AR:=PP (dC yK (dC (dI .i64) dN)) (fun p=>F95 p.1 p.2.1) (fun r=>.tup [.int .i64 (r.1),.int .i64 (r.2)]) l
attribute [go_sem] body95
theorem ok95:yU Try.prog 95 (yR body95):=PPo (rs:=[.tmp 4,.tmp 5]) Try.func95 (by kernel_rfl) rfl rfl Try.ntmps95 (fun _=>rfl) fun ⟨p0,p1,_⟩ r H=>by
 have C:=zE ok19 <| zE ok22 <| zU
 dsimp only [F95] at H
 exact dq
noncomputable def F30 (p0:TFrame):Option (TFrame) :=
 need (capb 1 p0.Body.length) <| some (TFrame.mk (THeader.mk p0.Head.Kind p0.Head.Sub p0.Head.ToDs p0.Head.FromDs p0.Head.More p0.Head.Retry p0.Head.Sleep p0.Head.MoreData p0.Head.Protected p0.Head.Duration (A6u8.mk p0.Head.A1.x0 p0.Head.A1.x1 p0.Head.A1.x2 p0.Head.A1.x3 p0.Head.A1.x4 p0.Head.A1.x5) (A6u8.mk p0.Head.A2.x0 p0.Head.A2.x1 p0.Head.A2.x2 p0.Head.A2.x3 p0.Head.A2.x4 p0.Head.A2.x5) (A6u8.mk p0.Head.A3.x0 p0.Head.A3.x1 p0.Head.A3.x2 p0.Head.A3.x3 p0.Head.A3.x4 p0.Head.A3.x5) (A6u8.mk p0.Head.A4.x0 p0.Head.A4.x1 p0.Head.A4.x2 p0.Head.A4.x3 p0.Head.A4.x4 p0.Head.A4.x5) p0.Head.Seq p0.Head.Frag p0.Head.Tid p0.Head.Ack p0.Head.Amsdu p0.Head.Eosp) ([] ++ p0.Body))
noncomputable def body30:List AV->List ABlk->ED
 | [v0],h=>.ed [] (aK 41 wI (roD (uY h []) v0)/\roDOb (uY h []) v0/\(F30 (yF (aL (roD (uY h []) v0)))).isSome=true) (.agg (hC ((gt (F30 (yF (aL (roD (uY h []) v0))))).Head) (.sl 0 1 0 (((gt (F30 (yF (aL (roD (uY h []) v0))))).Body).length) false::[]))) [.row 5 1 (((gt (F30 (yF (aL (roD (uY h []) v0))))).Body).length) (enR xA ((gt (F30 (yF (aL (roD (uY h []) v0))))).Body))]
 | _,_=>.fail
attribute [go_sem] body30
noncomputable def F30_0 (p0:TFrame):Option (TFrame) :=
 need (capb 1 p0.Body.length) <| some (TFrame.mk (THeader.mk p0.Head.Kind p0.Head.Sub p0.Head.ToDs p0.Head.FromDs p0.Head.More p0.Head.Retry p0.Head.Sleep p0.Head.MoreData p0.Head.Protected p0.Head.Duration (A6u8.mk p0.Head.A1.x0 p0.Head.A1.x1 p0.Head.A1.x2 p0.Head.A1.x3 p0.Head.A1.x4 p0.Head.A1.x5) (A6u8.mk p0.Head.A2.x0 p0.Head.A2.x1 p0.Head.A2.x2 p0.Head.A2.x3 p0.Head.A2.x4 p0.Head.A2.x5) (A6u8.mk p0.Head.A3.x0 p0.Head.A3.x1 p0.Head.A3.x2 p0.Head.A3.x3 p0.Head.A3.x4 p0.Head.A3.x5) (A6u8.mk p0.Head.A4.x0 p0.Head.A4.x1 p0.Head.A4.x2 p0.Head.A4.x3 p0.Head.A4.x4 p0.Head.A4.x5) p0.Head.Seq p0.Head.Frag p0.Head.Tid p0.Head.Ack p0.Head.Amsdu p0.Head.Eosp) ([] ++ p0.Body))
noncomputable def body30_0 (l:List AV) (s:Nat):AR:=GP (dC qK dN) (fun p=>F30_0 p.1) (fun r=>.agg (hC (r.Head) (.ro 1 ((r.Body).length) false (enR xA (r.Body))::[]))) l s
attribute [go_sem] body30_0
theorem ok30_0:yU Try.prog 30 (xN body30_0):=GPo (rs:=[.cell 2 33]) Try.func30 (by kernel_rfl) rfl rfl Try.ntmps30 rn fun ⟨p0,_⟩ r H=>by
 have C:=zA
 dsimp only [F30_0] at H
 exact dq
noncomputable def cD (p0:List TStored) (v1_1:List TStored) (v1_2:Int):Option (Lp ((List TStored) × Int) ((List TStored) ⊕ (List TStored))) :=
 bif (bLt v1_2 (p0.length:Nat)) then (need (inb v1_2 p0.length) <| need (inb v1_2 p0.length) <| need (inb v1_2 p0.length) <| (F30_0 (eF ((gd p0 v1_2.toNat).Frame))).bind fun r5=>need (capb 120 (v1_1.length+1)) <| some (.next ((v1_1 ++ [(TStored.mk ((gd p0 v1_2.toNat).Cat) ((gd p0 v1_2.toNat).At) (eF r5))]),wr .i64 (v1_2+1)))) else (some (.done (.inl v1_1)))
noncomputable def F71 (p0:List TStored):Option (List TStored) :=
 lp (loopD (fun s=>cD p0 s.1 s.2) ([],0)) (fun w1_3=>some w1_3) some
noncomputable def body71 (l:List AV) (s:Nat):AR:=GH (dC xI dN) (fun p=>F71 p.1) (fun r s=>.sl s 43 0 (r.length) false) (fun r=>[.row 61 43 (r.length) (enR zD r)]) l s
attribute [go_sem] body71
noncomputable instance lt_F71_L1 {p0:List TStored}:LT (fun s=>cD p0 s.1 s.2):=⟨(fun _ _ (s:(List TStored) × Int)=>(.ro 43 p0.length false (enR zD p0)::.top::.top::.sl 0 43 0 s.1.length false::.int .i64 s.2::tp 27 [])),(fun _ _ s=>[.row 61 43 s.1.length (enR zD s.1)]),(fun _ _ (e:List TStored)=>(.top::.top::.top::.sl 0 43 0 e.length false::tp 28 [])),(fun _ _ e=>[.row 61 43 e.length (enR zD e)]),_,fun s=>cD.eq_1 _ _ _⟩
theorem ok71:yU Try.prog 71 (xN body71):=GHo (rs:=[.tmp 2]) Try.func71 (by kernel_rfl) rfl rfl Try.ntmps71 rh fun ⟨p0,_⟩ r H=>by
 have C:=zE ok30_0 <| zU
 dsimp only [F71] at H
 exact dq
noncomputable def F71_0_L1 (p0:List TStored) (v1_1:List TStored) (v1_2:Int):Option (Lp ((List TStored) × Int) ((List TStored) ⊕ (List TStored))) :=
 bif (bLt v1_2 (p0.length:Nat)) then (need (inb v1_2 p0.length) <| need (inb v1_2 p0.length) <| need (inb v1_2 p0.length) <| (F30_0 (eF ((gd p0 v1_2.toNat).Frame))).bind fun r5=>need (capb 120 (v1_1.length+1)) <| some (.next ((v1_1 ++ [(TStored.mk ((gd p0 v1_2.toNat).Cat) ((gd p0 v1_2.toNat).At) (eF r5))]),wr .i64 (v1_2+1)))) else (some (.done (.inl v1_1)))
noncomputable def F71_0 (p0:List TStored):Option (List TStored) :=
 lp (loopD (fun s=>F71_0_L1 p0 s.1 s.2) ([],0)) (fun w1_3=>some w1_3) some
noncomputable def body71_0 (l:List AV) (s:Nat):AR:=GP (dC xI dN) (fun p=>F71_0 p.1) (fun r=>.ro 43 (r.length) false (enR zD r)) l s
attribute [go_sem] body71_0
noncomputable instance lt_F71_0_L1 {p0:List TStored}:LT (fun s=>F71_0_L1 p0 s.1 s.2):=⟨(fun _ _ (s:(List TStored) × Int)=>(.ro 43 p0.length false (enR zD p0)::.top::.top::.sl 0 43 0 s.1.length false::.int .i64 s.2::tp 27 [])),(fun _ _ s=>[.row 61 43 s.1.length (enR zD s.1)]),(fun _ _ (e:List TStored)=>(.top::.top::.top::.sl 0 43 0 e.length false::tp 28 [])),(fun _ _ e=>[.row 61 43 e.length (enR zD e)]),_,fun s=>F71_0_L1.eq_1 _ _ _⟩
theorem ok71_0:yU Try.prog 71 (xN body71_0):=GPo (rs:=[.tmp 2]) Try.func71 (by kernel_rfl) rfl rfl Try.ntmps71 rn fun ⟨p0,_⟩ r H=>by
 have C:=zE ok30_0 <| zU
 dsimp only [F71_0] at H
 exact dq
noncomputable def ct29t0:Ct:=tab [(71,xN body71)]
theorem ct29t0_ok:wO Try.prog ct29t0:=zE ok71 <| zU
theorem ct29t0_71 (l:List AV) (h:List ABlk):ct29t0 71 l h=xN body71 l h:=rfl
noncomputable def ct29t1:Ct:=tab [(71,xN body71_0)]
theorem ct29t1_71 (l:List AV) (h:List ABlk):ct29t1 71 l h=xN body71_0 l h:=rfl
noncomputable def eG (p0:TBuffer) (v1_1:Int) (v1_2:List TSleeper):Option (Lp (Int × (List TSleeper)) ((List TSleeper) ⊕ (TBuffer))) :=
 bif (bLt v1_1 (p0.List.length:Nat)) then (need (inb v1_1 p0.List.length) <| (F71_0 ((gd p0.List v1_1.toNat).Held)).bind fun r5=>need (capb 40 (v1_2.length+1)) <| some (.next (wr .i64 (v1_1+1),(v1_2 ++ [(TSleeper.mk ((gd p0.List v1_1.toNat).Aid) ((gd p0.List v1_1.toNat).Asleep) r5)])))) else (some (.done (.inl v1_2)))
noncomputable def F29 (p0:TBuffer):Option (TBuffer) :=
 (F71 p0.Group).bind fun r1=>lp (loopD (fun s=>eG p0 s.1 s.2) (0,[])) (fun w1_3=>some (TBuffer.mk p0.Limit p0.Stay w1_3 r1)) some
noncomputable def body29 (l:List AV) (s:Nat):AR:=GH (dC yK dN) (fun p=>F29 p.1) (fun r s=>.agg [.int .i64 (r.Limit),.int .i64 (r.Stay),.sl s 3 0 ((r.List).length) false,.sl (s+1) 43 0 ((r.Group).length) false]) (fun r=>[.row 57 3 ((r.List).length) (enR zC (r.List)),.row 61 43 ((r.Group).length) (enR zD (r.Group))]) l s
attribute [go_sem] body29
attribute [go_sem] ct29t0_71 ct29t1_71
noncomputable instance lt_F29_L1 {p0:TBuffer}:LT (fun s=>eG p0 s.1 s.2):=⟨(fun t h (s:Int × (List TSleeper))=>.top::.ptr 0 0 0 0::.ptr 1 0 0 0::.ptr 3 0 0 0::.int .i64 s.1::tp 35 ([])),(fun t h s=>[.lit 25 [.int .i64 p0.Limit,.int .i64 p0.Stay,.ro 3 p0.List.length false (enR zC p0.List),.ro 43 p0.Group.length false (enR zD p0.Group)],.lit 25 [.int .i64 0,.int .i64 0,.ro 0 0 true (fun _ _=>.top),.ro 0 0 true (fun _ _=>.top)],geth h 2,geth h 3,.row 57 3 s.2.length (enR zC s.2)]),(fun t h (e:List TSleeper)=>.top::.top::.ptr 1 0 0 0::.ptr 3 0 0 0::tp 36 ([])),(fun t h e=>[.dead,.lit 25 [.int .i64 0,.int .i64 0,.ro 0 0 true (fun _ _=>.top),.ro 0 0 true (fun _ _=>.top)],geth h 2,geth h 3,.row 57 3 e.length (enR zC e)]),_,fun s=>eG.eq_1 _ _ _⟩
theorem ok29:yU Try.prog 29 (xN body29):=GHo (rs:=[.cell 2 25]) Try.func29 (by kernel_rfl) rfl rfl Try.ntmps29 rh fun ⟨p0,_⟩ r H=>by
 dsimp only [F29] at H
 refine st ?_
 have C:=zA
 refine ds1 ?_
 intro r1 E G B H
 refine yW zO ct29t0_ok 2 (by kernel_rfl) (by kernel_rfl) ?_
 intro an han
 simp only [vZ,wV,qS,xrD,xoD,qT,uC,List.append_nil,xJ,refs,vC,mask,wY,place,xV,wZ,xZ,hit,inL,xK,ren,rnN,nrH,nrB,nrL,nr,rZ,rS,Nat.sub_self,Nat.add_zero,Nat.zero_add,Nat.reduceSub,Nat.lt_add_one,go_sem,Nat.reduceLeDiff,Nat.reduceLT,Nat.reduceAdd,Nat.reduceBEq,E]
 repeat ((with_reducible refine aI ?_ ?_);exact an3)
 refine zZ ?_
 refine sq zA ?_
 simp only [go_sem]
 refine uJ ?_
 refine wX (fun s:Int × (List TSleeper)=>(.top::.ptr 0 0 0 0::.ptr 1 0 0 0::.ptr 3 0 0 0::.int .i64 s.1::tp 35 [])) (fun s=>[.lit 25 [.int .i64 p0.Limit,.int .i64 p0.Stay,.ro 3 p0.List.length false (enR zC p0.List),.ro 43 p0.Group.length false (enR zD p0.Group)],.lit 25 [.int .i64 0,.int .i64 0,.ro 0 0 true (fun _ _=>.top),.ro 0 0 true (fun _ _=>.top)],.row 61 43 r1.length (enR zD r1),.lit 25 [.int .i64 p0.Limit,.int .i64 p0.Stay,.sl 4 3 0 s.2.length false,.sl 2 43 0 r1.length false],.row 57 3 s.2.length (enR zC s.2)]) (fun e:List TSleeper=>(.top::.top::.ptr 1 0 0 0::.ptr 3 0 0 0::tp 36 [])) (fun e=>[.dead,.lit 25 [.int .i64 0,.int .i64 0,.ro 0 0 true (fun _ _=>.top),.ro 0 0 true (fun _ _=>.top)],.row 61 43 r1.length (enR zD r1),.lit 25 [.int .i64 p0.Limit,.int .i64 p0.Stay,.sl 4 3 0 e.length false,.sl 2 43 0 r1.length false],.row 57 3 e.length (enR zC e)]) H ?_ (fun s o H hn1_1 hn2_1=>?_) (fun w1_3 H=>?_)
 ·have E:=E
  have B:=B
  have C:=zA
  exact dr
 ·obtain ⟨v1_1,v1_2⟩:=s
  unfold eG at H
  try dsimp only at H ⊢
  try simp only [tp]
  have E:=E
  have B:=B
  have C:=zE ok71_0 <| zU
  exact dr
 ·try dsimp only at H ⊢
  try simp only [tp]
  try simp only [wJ]
  have E:=E
  have B:=B
  have C:=zA
  exact dr
noncomputable def F72_L1 (p0:TBuffer) (p1:Int) (v1_1:Int) (v1_2:List TSleeper):Option (Lp (Int × (List TSleeper)) ((List TSleeper) ⊕ (TBuffer × Int))) :=
 bif (bLe v1_1 255) then (bif (bEq v1_1 p1) then (need (capb 40 (v1_2.length+1)) <| (F22 p0 v1_1).bind fun r11=>bif (bLe 0 r11) then (need (inb r11 p0.List.length) <| need (capb 40 (v1_2.length+1+1)) <| some (.next (wr .i64 (v1_1+1),((v1_2 ++ [(TSleeper.mk p1 false ([]:List TStored))]) ++ [(gd p0.List r11.toNat)])))) else (some (.next (wr .i64 (v1_1+1),(v1_2 ++ [(TSleeper.mk p1 false ([]:List TStored))]))))) else ((F22 p0 v1_1).bind fun r16=>bif (bLe 0 r16) then (need (inb r16 p0.List.length) <| need (capb 40 (v1_2.length+1)) <| some (.next (wr .i64 (v1_1+1),(v1_2 ++ [(gd p0.List r16.toNat)])))) else (some (.next (wr .i64 (v1_1+1),v1_2))))) else (some (.done (.inl v1_2)))
noncomputable def F72 (p0:TBuffer) (p1:Int):Option (TBuffer × Int) :=
 (F95 p0 p1).bind fun r1=>bif (bEq r1.2 0) then (some ((TBuffer.mk 0 0 [] []),20)) else (bif (!bEq r1.2 6) then (some ((TBuffer.mk 0 0 [] []),r1.2)) else (bif (bEq (p0.List.length:Nat) 32) then (some ((TBuffer.mk 0 0 [] []),22)) else ((F29 p0).bind fun r6=>lp (loopD (fun s=>F72_L1 p0 p1 s.1 s.2) (1,[])) (fun w1_3=>some ((TBuffer.mk r6.Limit r6.Stay w1_3 r6.Group),0)) some)))
noncomputable def body72 (l:List AV) (s:Nat):AR:=GP (dC yK (dC (dI .i64) dN)) (fun p=>F72 p.1 p.2.1) (fun r=>.tup [.agg [.int .i64 ((r.1).Limit),.int .i64 ((r.1).Stay),.ro 3 (((r.1).List).length) false (enR zC ((r.1).List)),.ro 43 (((r.1).Group).length) false (enR zD ((r.1).Group))],.int .i64 (r.2)]) l s
attribute [go_sem] body72
noncomputable instance lt_F72_L1 {p0:TBuffer} {p1:Int}:LT (fun s=>F72_L1 p0 p1 s.1 s.2):=⟨(fun t h (s:Int × (List TSleeper))=>.top::.int .i64 p1::.ptr 0 0 0 0::.top::.ptr 1 0 0 0::.top::.top::.top::.ptr 4 0 0 0::.int .i64 s.1::tp 52 ([])),(fun t h s=>[.lit 25 [.int .i64 p0.Limit,.int .i64 p0.Stay,.ro 3 p0.List.length false (enR zC p0.List),.ro 43 p0.Group.length false (enR zD p0.Group)],.lit 25 [.int .i64 0,.int .i64 0,.ro 0 0 true (fun _ _=>.top),.ro 0 0 true (fun _ _=>.top)],.dead,geth h 3,geth h 4,.row 57 3 s.2.length (enR zC s.2)]),(fun t h (e:List TSleeper)=>tp 4 (.ptr 1 0 0 0::.top::.top::.top::.ptr 4 0 0 0::tp 53 ([]))),(fun t h e=>[.dead,.lit 25 [.int .i64 0,.int .i64 0,.ro 0 0 true (fun _ _=>.top),.ro 0 0 true (fun _ _=>.top)],.dead,geth h 3,geth h 4,.row 57 3 e.length (enR zC e)]),_,fun s=>F72_L1.eq_1 _ _ _ _⟩
theorem ok72:yU Try.prog 72 (xN body72):=GPo (rs:=[.cell 4 25,.tmp 5]) Try.func72 (by kernel_rfl) rfl rfl Try.ntmps72 rn fun ⟨p0,p1,_⟩ r H=>by
 have C:=zE ok95 <| zE ok29 <| zE ok22 <| zU
 dsimp only [F72] at H
 refine st ?_
 refine ds1 ?_
 intro r1 E G B H
 refine ds1 ?_
 intro r6 E G B H
 refine rg C ?_
 simp only [go_sem,Nat.reduceLT,Nat.reduceAdd,Nat.reduceBEq,E]
 repeat ((with_reducible refine aI ?_ ?_);exact an0)
 refine sq zA ?_
 simp only [go_sem,Nat.reduceLeDiff,Nat.reduceAdd]
 repeat ((with_reducible refine aI ?_ ?_);exact an5)
 refine zZ ?_
 refine sq zA ?_
 simp only [go_sem]
 refine uJ ?_
 refine wX (fun s:Int × (List TSleeper)=>(.top::.int .i64 p1::.ptr 0 0 0 0::.top::.ptr 1 0 0 0::.top::.top::.top::.ptr 4 0 0 0::.int .i64 s.1::tp 52 [])) (fun s=>[.lit 25 [.int .i64 p0.Limit,.int .i64 p0.Stay,.ro 3 p0.List.length false (enR zC p0.List),.ro 43 p0.Group.length false (enR zD p0.Group)],.lit 25 [.int .i64 0,.int .i64 0,.ro 0 0 true (fun _ _=>.top),.ro 0 0 true (fun _ _=>.top)],.dead,.row 61 43 r6.Group.length (enR zD r6.Group),.lit 25 [.int .i64 r6.Limit,.int .i64 r6.Stay,.sl 5 3 0 s.2.length false,.sl 3 43 0 r6.Group.length false],.row 57 3 s.2.length (enR zC s.2)]) (fun e:List TSleeper=>(tp 4 (.ptr 1 0 0 0::.top::.top::.top::.ptr 4 0 0 0::tp 53 []))) (fun e=>[.dead,.lit 25 [.int .i64 0,.int .i64 0,.ro 0 0 true (fun _ _=>.top),.ro 0 0 true (fun _ _=>.top)],.dead,.row 61 43 r6.Group.length (enR zD r6.Group),.lit 25 [.int .i64 r6.Limit,.int .i64 r6.Stay,.sl 5 3 0 e.length false,.sl 3 43 0 r6.Group.length false],.row 57 3 e.length (enR zC e)]) H ?_ (fun s o H hn1_1 hn2_1=>?_) (fun w1_3 H=>?_)
 ·have E:=E
  have B:=B
  exact dr
 ·obtain ⟨v1_1,v1_2⟩:=s
  unfold F72_L1 at H
  try dsimp only at H ⊢
  try simp only [tp]
  refine zZ ?_
  refine sq zA ?_
  simp only [go_sem,Nat.reduceAdd]
  refine condM' rfl trivial (fun hc=>?_) (fun hc=>?_)
  ·have E:=E
   have B:=B
   exact dr
  have hk8:(bLe v1_1 255)=true:=by simpa using hc
  replace H:=xH hc H
  refine rg zA ?_
  simp only [go_sem]
  refine zZ ?_
  refine uJ ?_
  refine zZ ?_
  refine sq zA ?_
  simp only [go_sem]
  refine condM' rfl trivial (fun hc=>?_) (fun hc=>?_)
  ·have E:=E
   have B:=And.intro hk8 (B)
   exact dr
  have hk9:(bEq v1_1 p1)=true:=by simpa using hc
  replace H:=xH hc H
  refine jB ?_
  refine xS zO zA 4 ?_
  simp only [zK,tS,tZ,dSl,dZ,go_sem,Nat.reduceLeDiff,Nat.reduceLT,Nat.reduceAdd]
  repeat ((with_reducible refine aI ?_ ?_);exact an4)
  refine subO (t2:=(.top::.int .i64 p1::.ptr 0 0 0 0::.top::.ptr 1 0 0 0::.top::.top::.top::.ptr 4 0 0 0::.int .i64 v1_1::tp 22 (.int .i64 v1_1::.bool (bLe v1_1 255)::.top::.top::.int .i64 v1_1::.int .i64 p1::.bool (bEq v1_1 p1)::.ptr 4 0 0 2::.sl 5 3 0 v1_2.length false::.int .i64 p1::.agg [.int .i64 p1,.bool false,.ro 43 (([]:List TStored).length) false (enR zD ([]:List TStored))]::tp 19 []))) (h2:=[.lit 25 [.int .i64 p0.Limit,.int .i64 p0.Stay,.ro 3 p0.List.length false (enR zC p0.List),.ro 43 p0.Group.length false (enR zD p0.Group)],.lit 25 [.int .i64 0,.int .i64 0,.ro 0 0 true (fun _ _=>.top),.ro 0 0 true (fun _ _=>.top)],.dead,.row 61 43 r6.Group.length (enR zD r6.Group),.lit 25 [.int .i64 r6.Limit,.int .i64 r6.Stay,.sl 5 3 0 v1_2.length false,.sl 3 43 0 r6.Group.length false],.row 57 3 v1_2.length (enR zC v1_2)]) ?_ ?_
  ·have E:=E
   have B:=And.intro hk9 (And.intro hk8 (B))
   exact dr
  simp only [tp]
  have E:=E
  have B:=And.intro hk9 (And.intro hk8 (B))
  exact dr
 ·try dsimp only at H ⊢
  try simp only [tp]
  try simp only [wJ]
  have E:=E
  have B:=B
  exact dr
noncomputable def cA (p0:List TStored) (v1_1:List TFrame) (v1_2:Int):Option (Lp ((List TFrame) × Int) ((List TFrame) ⊕ (List TFrame))) :=
 bif (bLt v1_2 (p0.length:Nat)) then (need (inb v1_2 p0.length) <| need (capb 104 (v1_1.length+1)) <| some (.next ((v1_1 ++ [(eF ((gd p0 v1_2.toNat).Frame))]),wr .i64 (v1_2+1)))) else (some (.done (.inl v1_1)))
noncomputable def F35 (p0:List TStored):Option (List TFrame) :=
 lp (loopD (fun s=>cA p0 s.1 s.2) ([],0)) (fun w1_3=>some w1_3) some
noncomputable def body35 (l:List AV) (s:Nat):AR:=GH (dC xI dN) (fun p=>F35 p.1) (fun r s=>.sl s 41 0 (r.length) false) (fun r=>[.row 33 41 (r.length) (enR zI r)]) l s
attribute [go_sem] body35
noncomputable instance lt_F35_L1 {p0:List TStored}:LT (fun s=>cA p0 s.1 s.2):=⟨(fun _ _ (s:(List TFrame) × Int)=>(.ro 43 p0.length false (enR zD p0)::.top::.top::.sl 0 41 0 s.1.length false::.int .i64 s.2::tp 15 [])),(fun _ _ s=>[.row 33 41 s.1.length (enR zI s.1)]),(fun _ _ (e:List TFrame)=>(.top::.top::.top::.sl 0 41 0 e.length false::tp 16 [])),(fun _ _ e=>[.row 33 41 e.length (enR zI e)]),_,fun s=>cA.eq_1 _ _ _⟩
theorem ok35:yU Try.prog 35 (xN body35):=GHo (rs:=[.tmp 2]) Try.func35 (by kernel_rfl) rfl rfl Try.ntmps35 rh fun ⟨p0,_⟩ r H=>by
 have C:=zA
 dsimp only [F35] at H
 exact dq
noncomputable def body35p (l:List AV) (s:Nat):AR:=GP (dC xI dN) (fun p=>F35 p.1) (fun r=>.ro 41 r.length false (enR zI r)) l s
attribute [go_sem] body35p
theorem ok35p:yU Try.prog 35 (xN body35p):=GPo (rs:=[.tmp 2]) Try.func35 (by kernel_rfl) rfl rfl Try.ntmps35 rn fun ⟨p0,_⟩ r H=>by
 have C:=zA
 dsimp only [F35] at H
 exact dq
noncomputable def F73 (p0:TBuffer) (p1:Int):Option ((List TFrame) × TBuffer × Int) :=
 (F95 p0 p1).bind fun r1=>bif (!bEq r1.2 0) then (some ([],(TBuffer.mk 0 0 [] []),r1.2)) else (need (inb r1.1 p0.List.length) <| (F35 ((gd p0.List r1.1.toNat).Held)).bind fun r5=>(F29 p0).bind fun r7=>need (slb 0 r1.1 p0.List.length) <| need (capb 40 r1.1.toNat) <| need (slb (wr .i64 (r1.1+1)) (p0.List.length:Nat) p0.List.length) <| need (capb 40 (r1.1.toNat+(p0.List.length - (wr .i64 (r1.1+1)).toNat))) <| (some (([] ++ (List.take r1.1.toNat p0.List)) ++ (p0.List.drop ((wr .i64 (r1.1+1)).toNat)))).bind fun w13=>(F49 (TBuffer.mk r7.Limit r7.Stay w13 r7.Group)).bind fun r15=>bif (!r15) then ((F35 p0.Group).bind fun r18=>need (capb 104 (r5.length+r18.length)) <| some ((r5 ++ r18),(TBuffer.mk r7.Limit r7.Stay w13 []),0)) else (some (r5,(TBuffer.mk r7.Limit r7.Stay w13 r7.Group),0)))
noncomputable def body73 (l:List AV) (s:Nat):AR:=GP (dC yK (dC (dI .i64) dN)) (fun p=>F73 p.1 p.2.1) (fun r=>.tup [.ro 41 ((r.1).length) false (enR zI (r.1)),.agg [.int .i64 ((r.2.1).Limit),.int .i64 ((r.2.1).Stay),.ro 3 (((r.2.1).List).length) false (enR zC ((r.2.1).List)),.ro 43 (((r.2.1).Group).length) false (enR zD ((r.2.1).Group))],.int .i64 (r.2.2)]) l s
attribute [go_sem] body73
theorem ok73:yU Try.prog 73 (xN body73):=GPo (rs:=[.tmp 4,.cell 5 25,.tmp 6]) Try.func73 (by kernel_rfl) rfl rfl Try.ntmps73 rn fun ⟨p0,p1,_⟩ r H=>by
 have C:=zE ok95 <| zE ok35 <| zE ok29 <| zE ok49 <| zU
 dsimp only [F73] at H
 refine st ?_
 refine ds1 ?_
 intro r1 E G B H
 refine ds1 ?_
 intro r5 E G B H
 refine ds1 ?_
 intro r7 E G B H
 refine rg C ?_
 simp only [go_sem,Nat.reduceLT,Nat.reduceAdd,Nat.reduceBEq,E]
 repeat ((with_reducible refine aI ?_ ?_);exact an0)
 refine zZ ?_
 obtain ⟨f9,H⟩:=zN.1 H
 replace f9:=slb_iff.1 f9
 obtain ⟨f10,H⟩:=zN.1 H
 replace f10:=capb_iff.1 f10
 obtain ⟨f11,H⟩:=zN.1 H
 replace f11:=slb_iff.1 f11
 obtain ⟨f12,H⟩:=zN.1 H
 replace f12:=capb_iff.1 f12
 refine yW zO zA 3 (by kernel_rfl) (by kernel_rfl) ?_
 intro an han
 simp only [vZ,wV,qS,xrD,xoD,qT,uC,List.append_nil,xJ,refs,vC,mask,wY,place,xV,wZ,xZ,hit,inL,xK,ren,rnN,nrH,nrB,nrL,nr,rZ,rS,Nat.sub_self,Nat.add_zero,Nat.zero_add,Nat.reduceSub,Nat.not_lt_zero,Nat.zero_le,Nat.lt_add_one,go_sem,Nat.reduceLeDiff,Nat.reduceLT,Nat.reduceAdd,Nat.reduceBEq,f9,f10,f11,f12]
 repeat ((with_reducible refine aI ?_ ?_);exact an2)
 refine zZ ?_
 refine zZ ?_
 obtain ⟨w13,hw14,H⟩:=bsi H
 replace hw14:=Option.some.inj hw14
 have lhw14:w13.length=r1.1.toNat+(p0.List.length - (wr .i64 (r1.1+1)).toNat):=by rw [← hw14];exact (app_len (show (List.take r1.1.toNat p0.List).length=r1.1.toNat from (by rw [List.length_take];omega)) (by rw [List.length_drop]))
 refine vE (t2:=(.top::.top::.ptr 0 0 0 0::.top::.top::.ptr 1 0 0 0::.top::.top::.top::.sl 2 41 0 r5.length false::.ptr 5 0 0 0::tp 43 [])) (h2:=[.lit 25 [.int .i64 p0.Limit,.int .i64 p0.Stay,.ro 3 p0.List.length false (enR zC p0.List),.ro 43 p0.Group.length false (enR zD p0.Group)],.lit 25 [.int .i64 0,.int .i64 0,.ro 0 0 true (fun _ _=>.top),.ro 0 0 true (fun _ _=>.top)],.row 33 41 r5.length (enR zI r5),.row 57 3 r7.List.length (enR zC r7.List),.row 61 43 r7.Group.length (enR zD r7.Group),.lit 25 [.int .i64 r7.Limit,.int .i64 r7.Stay,.sl 8 3 0 w13.length false,.sl 4 43 0 r7.Group.length false],.dead,.dead,.row 57 3 w13.length (enR zC w13)]) ?_ ?_
 ·refine yH ⟨[some 0,some 1,some 2,some 3,some 4,some 5,some 6,some 7,some 8],?_,?_,by rfl,by rfl⟩
  ·simp [CvL,Cv,zQ,tp]
  ·exact ⟨(by simp [CvB,CvL,Cv,yN,geth]),(by simp [CvB,CvL,Cv,yN,geth]),zW wR rfl (fun _ _ _ _=>rfl),zW zG rfl (fun _ _ _ _=>rfl),zW yQ rfl (fun _ _ _ _=>rfl),(by simp [CvB,CvL,Cv,yN,geth,zQ,lhw14]),zH,zH,zW zG lhw14 (hw14 ▸ (bW (show (List.take r1.1.toNat p0.List).length=r1.1.toNat from (by rw [List.length_take];omega)) (f:=zC) ([] ++ (List.take r1.1.toNat p0.List)) (p0.List.drop ((wr .i64 (r1.1+1)).toNat)) (vQ (f:=zC) [] (List.take r1.1.toNat p0.List) (xR (f:=zC) [] (fun _ _=>rfl) rfl) take_row) (fun _ _ _ _=>rfl))),trivial⟩
 simp only [tp]
 have E:=And.intro f12 (And.intro f11 (And.intro f10 (And.intro f9 (And.intro E.1 (And.intro E.2.1 (And.intro E.2.2.1 (E.2.2.2.1)))))))
 have B:=B.1
 exact dr
noncomputable def F96 (p0:TBuffer) (p1:Int) (p2:TSleeper):Option (TBuffer) :=
 (F29 p0).bind fun r1=>need (inb p1 r1.List.length) <| some (TBuffer.mk r1.Limit r1.Stay (r1.List.set p1.toNat p2) r1.Group)
noncomputable def body96 (l:List AV) (s:Nat):AR:=GP (dC yK (dC (dI .i64) (dC qL dN))) (fun p=>F96 p.1 p.2.1 p.2.2.1) (fun r=>.agg [.int .i64 (r.Limit),.int .i64 (r.Stay),.ro 3 ((r.List).length) false (enR zC (r.List)),.ro 43 ((r.Group).length) false (enR zD (r.Group))]) l s
attribute [go_sem] body96
theorem ok96:yU Try.prog 96 (xN body96):=GPo (rs:=[.cell 6 25]) Try.func96 (by kernel_rfl) rfl rfl Try.ntmps96 rn fun ⟨p0,p1,p2,_⟩ r H=>by
 have C:=zE ok29 <| zU
 dsimp only [F96] at H
 exact dq
noncomputable def F74 (p0:TBuffer) (p1:Int):Option (TBuffer × Int) :=
 (F95 p0 p1).bind fun r1=>bif (!bEq r1.2 0) then (some ((TBuffer.mk 0 0 [] []),r1.2)) else (need (inb r1.1 p0.List.length) <| (F96 p0 r1.1 (TSleeper.mk ((gd p0.List r1.1.toNat).Aid) true ((gd p0.List r1.1.toNat).Held))).bind fun r5=>some (r5,0))
noncomputable def body74 (l:List AV) (s:Nat):AR:=GP (dC yK (dC (dI .i64) dN)) (fun p=>F74 p.1 p.2.1) (fun r=>.tup [.agg [.int .i64 ((r.1).Limit),.int .i64 ((r.1).Stay),.ro 3 (((r.1).List).length) false (enR zC ((r.1).List)),.ro 43 (((r.1).Group).length) false (enR zD ((r.1).Group))],.int .i64 (r.2)]) l s
attribute [go_sem] body74
theorem ok74:yU Try.prog 74 (xN body74):=GPo (rs:=[.cell 4 25,.tmp 5]) Try.func74 (by kernel_rfl) rfl rfl Try.ntmps74 rn fun ⟨p0,p1,_⟩ r H=>by
 have C:=zE ok95 <| zE ok96 <| zU
 dsimp only [F74] at H
 exact dq
noncomputable def F97_L1 (p0:List TFrame) (v1_1:List TFrame) (v1_2:Int):Option (Lp ((List TFrame) × Int) ((List TFrame) ⊕ (List TFrame))) :=
 bif (bLt v1_2 (p0.length:Nat)) then (need (inb v1_2 p0.length) <| need (capb 104 (v1_1.length+1)) <| some (.next ((v1_1 ++ [(TFrame.mk (THeader.mk (((gd p0 v1_2.toNat).Head).Kind) (((gd p0 v1_2.toNat).Head).Sub) (((gd p0 v1_2.toNat).Head).ToDs) (((gd p0 v1_2.toNat).Head).FromDs) (((gd p0 v1_2.toNat).Head).More) (((gd p0 v1_2.toNat).Head).Retry) (((gd p0 v1_2.toNat).Head).Sleep) (bLt v1_2 (wr .i64 ((p0.length:Nat) - 1))) (((gd p0 v1_2.toNat).Head).Protected) (((gd p0 v1_2.toNat).Head).Duration) (A6u8.mk ((((gd p0 v1_2.toNat).Head).A1).x0) ((((gd p0 v1_2.toNat).Head).A1).x1) ((((gd p0 v1_2.toNat).Head).A1).x2) ((((gd p0 v1_2.toNat).Head).A1).x3) ((((gd p0 v1_2.toNat).Head).A1).x4) ((((gd p0 v1_2.toNat).Head).A1).x5)) (A6u8.mk ((((gd p0 v1_2.toNat).Head).A2).x0) ((((gd p0 v1_2.toNat).Head).A2).x1) ((((gd p0 v1_2.toNat).Head).A2).x2) ((((gd p0 v1_2.toNat).Head).A2).x3) ((((gd p0 v1_2.toNat).Head).A2).x4) ((((gd p0 v1_2.toNat).Head).A2).x5)) (A6u8.mk ((((gd p0 v1_2.toNat).Head).A3).x0) ((((gd p0 v1_2.toNat).Head).A3).x1) ((((gd p0 v1_2.toNat).Head).A3).x2) ((((gd p0 v1_2.toNat).Head).A3).x3) ((((gd p0 v1_2.toNat).Head).A3).x4) ((((gd p0 v1_2.toNat).Head).A3).x5)) (A6u8.mk ((((gd p0 v1_2.toNat).Head).A4).x0) ((((gd p0 v1_2.toNat).Head).A4).x1) ((((gd p0 v1_2.toNat).Head).A4).x2) ((((gd p0 v1_2.toNat).Head).A4).x3) ((((gd p0 v1_2.toNat).Head).A4).x4) ((((gd p0 v1_2.toNat).Head).A4).x5)) (((gd p0 v1_2.toNat).Head).Seq) (((gd p0 v1_2.toNat).Head).Frag) (((gd p0 v1_2.toNat).Head).Tid) (((gd p0 v1_2.toNat).Head).Ack) (((gd p0 v1_2.toNat).Head).Amsdu) (((gd p0 v1_2.toNat).Head).Eosp)) ((gd p0 v1_2.toNat).Body))]),wr .i64 (v1_2+1)))) else (some (.done (.inl v1_1)))
noncomputable def F97 (p0:List TFrame):Option (List TFrame) :=
 lp (loopD (fun s=>F97_L1 p0 s.1 s.2) ([],0)) (fun w1_3=>some w1_3) some
noncomputable def body97 (l:List AV) (s:Nat):AR:=GH (dC eT dN) (fun p=>F97 p.1) (fun r s=>.sl s 41 0 (r.length) false) (fun r=>[.row 33 41 (r.length) (enR zI r)]) l s
attribute [go_sem] body97
noncomputable instance lt_F97_L1 {p0:List TFrame}:LT (fun s=>F97_L1 p0 s.1 s.2):=⟨(fun _ _ (s:(List TFrame) × Int)=>(.ro 41 p0.length false (enR zI p0)::.top::.top::.sl 0 41 0 s.1.length false::.int .i64 s.2::tp 23 [])),(fun _ _ s=>[.row 33 41 s.1.length (enR zI s.1)]),(fun _ _ (e:List TFrame)=>(.top::.top::.top::.sl 0 41 0 e.length false::tp 24 [])),(fun _ _ e=>[.row 33 41 e.length (enR zI e)]),_,fun s=>F97_L1.eq_1 _ _ _⟩
theorem ok97:yU Try.prog 97 (xN body97):=GHo (rs:=[.tmp 2]) Try.func97 (by kernel_rfl) rfl rfl Try.ntmps97 rh fun ⟨p0,_⟩ r H=>by
 have C:=zA
 dsimp only [F97] at H
 exact dq
noncomputable def F75 (p0:TBuffer) (p1:Int):Option ((List TFrame) × TBuffer × Int) :=
 (F95 p0 p1).bind fun r1=>bif (!bEq r1.2 0) then (some ([],(TBuffer.mk 0 0 [] []),r1.2)) else (need (inb r1.1 p0.List.length) <| (F35 ((gd p0.List r1.1.toNat).Held)).bind fun r5=>(F97 r5).bind fun r7=>(F96 p0 r1.1 (TSleeper.mk p1 false [])).bind fun r9=>(F49 r9).bind fun r11=>bif (!r11) then ((F35 p0.Group).bind fun r14=>(F97 r14).bind fun r16=>need (capb 104 (r7.length+r16.length)) <| some ((r7 ++ r16),(TBuffer.mk r9.Limit r9.Stay r9.List []),0)) else (some (r7,r9,0)))
noncomputable def body75 (l:List AV) (s:Nat):AR:=GP (dC yK (dC (dI .i64) dN)) (fun p=>F75 p.1 p.2.1) (fun r=>.tup [.ro 41 ((r.1).length) false (enR zI (r.1)),.agg [.int .i64 ((r.2.1).Limit),.int .i64 ((r.2.1).Stay),.ro 3 (((r.2.1).List).length) false (enR zC ((r.2.1).List)),.ro 43 (((r.2.1).Group).length) false (enR zD ((r.2.1).Group))],.int .i64 (r.2.2)]) l s
attribute [go_sem] body75
theorem ok75:yU Try.prog 75 (xN body75):=GPo (rs:=[.tmp 4,.cell 5 25,.tmp 6]) Try.func75 (by kernel_rfl) rfl rfl Try.ntmps75 rn fun ⟨p0,p1,_⟩ r H=>by
 have C:=zE ok95 <| zE ok35 <| zE (fr_ok ok97) <| zE ok96 <| zE ok49 <| zU
 dsimp only [F75] at H
 exact dq
noncomputable def F98_L1 (p0:List TStored) (p1:Int) (v1_1:Int):Option (Lp (Int) ((Unit) ⊕ (Bool))) :=
 bif (bLt v1_1 (p0.length:Nat)) then (need (inb v1_1 p0.length) <| bif (bLt p1 ((gd p0 v1_1.toNat).At)) then (some (.done (.inr true))) else (some (.next (wr .i64 (v1_1+1))))) else (some (.done (.inl ())))
noncomputable def F98 (p0:List TStored) (p1:Int):Option (Bool) :=
 lp (loopD (fun s=>F98_L1 p0 p1 s) 0) (fun _=>some false) some
noncomputable def body98 (l:List AV):AR:=PP (dC xI (dC (dI .i64) dN)) (fun p=>F98 p.1 p.2.1) (fun r=>.bool r) l
attribute [go_sem] body98
noncomputable instance lt_F98_L1 {p0:List TStored} {p1:Int}:LT (fun s=>F98_L1 p0 p1 s):=⟨(fun _ _ (s:Int)=>(.ro 43 p0.length false (enR zD p0)::.int .i64 p1::.top::.top::.top::.int .i64 s::tp 13 [])),(fun _ _ s=>[]),(fun _ _ (e:Unit)=>(tp 19 [])),(fun _ _ e=>[]),_,fun s=>F98_L1.eq_1 _ _ _⟩
theorem ok98:yU Try.prog 98 (yR body98):=PPo (rs:=[.tmp 4]) Try.func98 (by kernel_rfl) rfl rfl Try.ntmps98 (fun _=>rfl) fun ⟨p0,p1,_⟩ r H=>by
 have C:=zA
 dsimp only [F98] at H
 exact dq
noncomputable def F107_L1 (p0:List TStored) (v1_1:Int) (v1_2:Int):Option (Lp (Int × Int) ((Int) ⊕ (Int))) :=
 bif (bLt v1_2 (p0.length:Nat)) then (need (inb v1_2 p0.length) <| need (inb v1_1 p0.length) <| bif (bLt ((gd p0 v1_2.toNat).Cat) ((gd p0 v1_1.toNat).Cat)) then (some (.next (v1_2,wr .i64 (v1_2+1)))) else (some (.next (v1_1,wr .i64 (v1_2+1))))) else (some (.done (.inl v1_1)))
noncomputable def F107 (p0:List TStored):Option (Int) :=
 lp (loopD (fun s=>F107_L1 p0 s.1 s.2) (0,1)) (fun w1_3=>some w1_3) some
noncomputable def body107 (l:List AV):AR:=PP (dC xI dN) (fun p=>F107 p.1) (fun r=>.int .i64 r) l
attribute [go_sem] body107
noncomputable instance lt_F107_L1 {p0:List TStored}:LT (fun s=>F107_L1 p0 s.1 s.2):=⟨(fun _ _ (s:Int × Int)=>(.ro 43 p0.length false (enR zD p0)::.top::.top::.int .i64 s.1::.int .i64 s.2::tp 19 [])),(fun _ _ s=>[]),(fun _ _ (e:Int)=>(.top::.top::.top::.int .i64 e::tp 20 [])),(fun _ _ e=>[]),_,fun s=>F107_L1.eq_1 _ _ _⟩
theorem ok107:yU Try.prog 107 (yR body107):=PPo (rs:=[.tmp 2]) Try.func107 (by kernel_rfl) rfl rfl Try.ntmps107 (fun _=>rfl) fun ⟨p0,_⟩ r H=>by
 have C:=zA
 dsimp only [F107] at H
 exact dq
end Go.Proofs.Ytefiemaoacmdkaa
