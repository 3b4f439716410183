/-
  Contracts of functions: each computes its partial function.
-/
import Derived.Test.YtefiemaoacmdkaaZEh
namespace Go.Proofs.Ytefiemaoacmdkaa
open Go.Am
set_option maxHeartbeats 4000000
set_option maxRecDepth 20000
set_option linter.unusedVariables false
set_option linter.unusedSimpArgs false
noncomputable def F61 (p0:Int):Option (Bool) :=
 some ((bLe 0 p0) && (bLe p0 1099511627776))
noncomputable def bY (l:List AV):AR:=PP (dC (dI .i64) dN) (fun p=>F61 p.1) (fun r=>.bool r) l
attribute [go_sem] bY
theorem ok61:yU Try.prog 61 (yR bY):=PPo (rs:=[.tmp 2]) Try.func61 (by kernel_rfl) rfl rfl Try.ntmps61 (fun _=>rfl) fun ⟨p0,_⟩ r H=>by
 have C:=zA
 dsimp only [F61] at H
 exact dq
noncomputable def uU (p0:List TStored) (p2:Int) (v1_1:Int):Option (Lp (Int) ((Unit) ⊕ (Bool))) :=
 bif (bLt v1_1 (p0.length:Nat)) then (need (inb v1_1 p0.length) <| need (bif (!(bLt p2 ((gd p0 v1_1.toNat).Cat))) then ((F61 ((gd p0 v1_1.toNat).At)).isSome) else true) <| need (bif ((!((bLt p2 ((gd p0 v1_1.toNat).Cat)) || (!(gt (F61 ((gd p0 v1_1.toNat).At)))))) && (bLt 0 v1_1)) then inb (wr .i64 (v1_1 - 1)) p0.length else true) <| bif (((bLt p2 ((gd p0 v1_1.toNat).Cat)) || (!(gt (F61 ((gd p0 v1_1.toNat).At))))) || ((bLt 0 v1_1) && (bLt ((gd p0 v1_1.toNat).At) ((gd p0 ((wr .i64 (v1_1 - 1)).toNat)).At)))) then (some (.done (.inr false))) else (some (.next (wr .i64 (v1_1+1))))) else (some (.done (.inl ())))
noncomputable def F46 (p0:List TStored) (p1:Int) (p2:Int):Option (Bool) :=
 bif (bLt p1 (p0.length:Nat)) then (some false) else (lp (loopD (fun s=>uU p0 p2 s) 0) (fun _=>some true) some)
noncomputable def body46 (l:List AV):AR:=PP (dC xI (dC (dI .i64) (dC (dI .u8) dN))) (fun p=>F46 p.1 p.2.1 p.2.2.1) (fun r=>.bool r) l
attribute [go_sem] body46
noncomputable instance lt_F46_L1 {p0:List TStored} {p2:Int}:LT (fun s=>uU p0 p2 s):=⟨(fun _ _ (s:Int)=>(.ro 43 p0.length false (enR zD p0)::.top::.int .u8 p2::tp 10 (.ro 43 p0.length false (enR zD p0)::.int .i64 (p0.length:Nat)::.int .i64 s::tp 30 []))),(fun _ _ s=>[]),(fun _ _ (e:Unit)=>(tp 46 [])),(fun _ _ e=>[]),_,fun s=>uU.eq_1 _ _ _⟩
theorem ok46:yU Try.prog 46 (yR body46):=PPo (rs:=[.tmp 6]) Try.func46 (by kernel_rfl) rfl rfl Try.ntmps46 (fun _=>rfl) fun ⟨p0,p1,p2,_⟩ r H=>by
 have C:=zE ok61 <| zU
 dsimp only [F46] at H
 exact dq
noncomputable def F86 (p0:TSleeper):Option (Bool) :=
 some p0.Asleep
noncomputable def body86 (l:List AV):AR:=PP (dC qL dN) (fun p=>F86 p.1) (fun r=>.bool r) l
attribute [go_sem] body86
theorem ok86:yU Try.prog 86 (yR body86):=PPo (rs:=[.tmp 2]) Try.func86 (by kernel_rfl) rfl rfl Try.ntmps86 (fun _=>rfl) fun ⟨p0,_⟩ r H=>by
 have C:=zA
 dsimp only [F86] at H
 exact dq
noncomputable def gF (p0:List TSleeper) (v1_1:Int):Option (Lp (Int) ((Unit) ⊕ (Int))) :=
 bif (bLt v1_1 (p0.length:Nat)) then (need (inb v1_1 p0.length) <| (F86 (gd p0 v1_1.toNat)).bind fun r3=>bif r3 then (some (.done (.inr v1_1))) else (some (.next (wr .i64 (v1_1+1))))) else (some (.done (.inl ())))
noncomputable def F106_0 (p0:List TSleeper):Option (Int) :=
 lp (loopD (fun s=>gF p0 s) 0) (fun _=>some (-1)) some
noncomputable def body106_0 (l:List AV):AR:=PP (dC qM (dC (dF 86 dN lN0) dN)) (fun p=>F106_0 p.1) (fun r=>.int .i64 r) l
attribute [go_sem] body106_0
noncomputable instance lt_F106_0_L1 {p0:List TSleeper}:LT (fun s=>gF p0 s):=⟨(fun _ _ (s:Int)=>(.ro 3 p0.length false (enR zC p0)::.fn 86 []::tp 5 (.int .i64 (p0.length:Nat)::.int .i64 s::tp 10 []))),(fun _ _ s=>[]),(fun _ _ (e:Unit)=>(tp 19 [])),(fun _ _ e=>[]),_,fun s=>gF.eq_1 _ _⟩
theorem ok106_0:yU Try.prog 106 (yR body106_0):=PPo (rs:=[.tmp 4]) Try.func106 (by kernel_rfl) rfl rfl Try.ntmps106 (fun _=>rfl) fun ⟨p0,_,_⟩ r H=>by
 have C:=zE ok86 <| zU
 dsimp only [F106_0] at H
 exact dq
noncomputable def F85_0 (p0:List TSleeper):Option (Bool) :=
 (F106_0 p0).bind fun r1=>some (bLe 0 r1)
noncomputable def body85_0 (l:List AV):AR:=PP (dC qM (dC (dF 86 dN lN0) dN)) (fun p=>F85_0 p.1) (fun r=>.bool r) l
attribute [go_sem] body85_0
theorem ok85_0:yU Try.prog 85 (yR body85_0):=PPo (rs:=[.tmp 4]) Try.func85 (by kernel_rfl) rfl rfl Try.ntmps85 (fun _=>rfl) fun ⟨p0,_,_⟩ r H=>by
 have C:=zE ok106_0 <| zU
 dsimp only [F85_0] at H
 exact dq
noncomputable def F47 (p0:TBuffer):Option (Bool) :=
 (F85_0 p0.List).bind fun r1=>some r1
noncomputable def body47 (l:List AV):AR:=PP (dC yK dN) (fun p=>F47 p.1) (fun r=>.bool r) l
attribute [go_sem] body47
theorem ok47:yU Try.prog 47 (yR body47):=PPo (rs:=[.tmp 2]) Try.func47 (by kernel_rfl) rfl rfl Try.ntmps47 (fun _=>rfl) fun ⟨p0,_⟩ r H=>by
 have C:=zE ok85_0 <| zU
 dsimp only [F47] at H
 exact dq
noncomputable def F18_L1 (p0:TBuffer) (v1_1:Bool) (v1_2:Int) (v1_3:Int):Option (Lp (Bool × Int × Int) ((Bool) ⊕ (Int))) :=
 bif (bLt v1_3 (p0.List.length:Nat)) then (need (inb v1_3 p0.List.length) <| need (bif ((v1_1 && (bLt v1_2 ((gd p0.List v1_3.toNat).Aid))) && (bLe ((gd p0.List v1_3.toNat).Aid) 255)) then ((F46 ((gd p0.List v1_3.toNat).Held) p0.Limit 3).isSome) else true) <| some (.next (((((v1_1 && (bLt v1_2 ((gd p0.List v1_3.toNat).Aid))) && (bLe ((gd p0.List v1_3.toNat).Aid) 255)) && (gt (F46 ((gd p0.List v1_3.toNat).Held) p0.Limit 3))) && ((gd p0.List v1_3.toNat).Asleep || (bEq (((gd p0.List v1_3.toNat).Held).length:Nat) 0))),(gd p0.List v1_3.toNat).Aid,wr .i64 (v1_3+1)))) else (some (.done (.inl v1_1)))
noncomputable def F18 (p0:TBuffer):Option (Int) :=
 lp (loopD (fun s=>F18_L1 p0 s.1 s.2.1 s.2.2) ((((((bLe 1 p0.Limit) && (bLe p0.Limit 64)) && (bLe 1 p0.Stay)) && (bLe p0.Stay 1073741824)) && (bLe (p0.List.length:Nat) 32)),0,0)) (fun w1_4=>need (bif (!(!w1_4)) then ((F46 p0.Group p0.Limit 0).isSome) else true) <| need (bif ((!((!w1_4) || (!(gt (F46 p0.Group p0.Limit 0))))) && (bLt 0 (p0.Group.length:Nat))) then ((F47 p0).isSome) else true) <| bif (((!w1_4) || (!(gt (F46 p0.Group p0.Limit 0)))) || ((bLt 0 (p0.Group.length:Nat)) && (!(gt (F47 p0))))) then (some 8) else (some 0)) some
noncomputable def jQ (l:List AV):AR:=PP (dC yK dN) (fun p=>F18 p.1) (fun r=>.int .i64 r) l
attribute [go_sem] jQ
noncomputable instance lt_F18_L1 {p0:TBuffer}:LT (fun s=>F18_L1 p0 s.1 s.2.1 s.2.2):=⟨(fun _ _ (s:Bool × Int × Int)=>(.top::.ptr 0 0 0 0::.top::.bool s.1::.int .i64 s.2.1::tp 27 (.ro 3 p0.List.length false (enR zC p0.List)::.int .i64 (p0.List.length:Nat)::.int .i64 s.2.2::tp 56 []))),(fun _ _ s=>[.lit 25 [.int .i64 p0.Limit,.int .i64 p0.Stay,.ro 3 p0.List.length false (enR zC p0.List),.ro 43 p0.Group.length false (enR zD p0.Group)]]),(fun _ _ (e:Bool)=>(.top::.ptr 0 0 0 0::.top::.bool e::tp 87 [])),(fun _ _ e=>[.lit 25 [.int .i64 p0.Limit,.int .i64 p0.Stay,.ro 3 p0.List.length false (enR zC p0.List),.ro 43 p0.Group.length false (enR zD p0.Group)]]),_,fun s=>F18_L1.eq_1 _ _ _ _⟩
theorem ok18:yU Try.prog 18 (yR jQ):=PPo (rs:=[.tmp 2]) Try.func18 (by kernel_rfl) rfl rfl Try.ntmps18 (fun _=>rfl) fun ⟨p0,_⟩ r H=>by
 have C:=zE ok46 <| zE ok47 <| zU
 dsimp only [F18] at H
 exact dq
noncomputable def F103 (p0:TSleeper) (p1:Int):Option (Int) :=
 some (wr .i64 (p0.Aid - p1))
noncomputable def body103 (l:List AV):AR:=PP (dC qL (dC (dI .i64) dN)) (fun p=>F103 p.1 p.2.1) (fun r=>.int .i64 r) l
attribute [go_sem] body103
theorem ok103:yU Try.prog 103 (yR body103):=PPo (rs:=[.tmp 4]) Try.func103 (by kernel_rfl) rfl rfl Try.ntmps103 (fun _=>rfl) fun ⟨p0,p1,_⟩ r H=>by
 have C:=zA
 dsimp only [F103] at H
 exact dq
noncomputable def F102_0_L1 (p0:List TSleeper) (p1:Int) (v1_1:Int) (v1_2:Int):Option (Lp (Int × Int) ((Int) ⊕ (Int × Bool))) :=
 bif (bLt v1_1 v1_2) then (need (inb (wr .i64 (shrI .u64 (wr .u64 (wr .i64 (v1_1+v1_2))) 1)) p0.length) <| (F103 (gd p0 ((wr .i64 (shrI .u64 (wr .u64 (wr .i64 (v1_1+v1_2))) 1)).toNat)) p1).bind fun r3=>bif (bLt r3 0) then (some (.next (wr .i64 ((wr .i64 (shrI .u64 (wr .u64 (wr .i64 (v1_1+v1_2))) 1))+1),v1_2))) else (some (.next (v1_1,wr .i64 (shrI .u64 (wr .u64 (wr .i64 (v1_1+v1_2))) 1))))) else (some (.done (.inl v1_1)))
noncomputable def F102_0 (p0:List TSleeper) (p1:Int):Option (Int × Bool) :=
 lp (loopD (fun s=>F102_0_L1 p0 p1 s.1 s.2) (0,(p0.length:Nat))) (fun w1_3=>need (bif (bLt w1_3 (p0.length:Nat)) then inb w1_3 p0.length else true) <| need (bif (bLt w1_3 (p0.length:Nat)) then ((F103 (gd p0 w1_3.toNat) p1).isSome) else true) <| some (w1_3,((bLt w1_3 (p0.length:Nat)) && (bEq (gt (F103 (gd p0 w1_3.toNat) p1)) 0)))) some
noncomputable def body102_0 (l:List AV):AR:=PP (dC qM (dC (dI .i64) (dC (dF 103 dN lN0) dN))) (fun p=>F102_0 p.1 p.2.1) (fun r=>.tup [.int .i64 (r.1),.bool (r.2)]) l
attribute [go_sem] body102_0
noncomputable instance lt_F102_0_L1 {p0:List TSleeper} {p1:Int}:LT (fun s=>F102_0_L1 p0 p1 s.1 s.2):=⟨(fun _ _ (s:Int × Int)=>(.ro 3 p0.length false (enR zC p0)::.int .i64 p1::.fn 103 []::tp 5 (.int .i64 (p0.length:Nat)::.int .i64 s.1::.int .i64 s.2::tp 38 []))),(fun _ _ s=>[]),(fun _ _ (e:Int)=>(.ro 3 p0.length false (enR zC p0)::.int .i64 p1::.fn 103 []::tp 5 (.int .i64 (p0.length:Nat)::.int .i64 e::tp 39 []))),(fun _ _ e=>[]),_,fun s=>F102_0_L1.eq_1 _ _ _ _⟩
theorem ok102_0:yU Try.prog 102 (yR body102_0):=PPo (rs:=[.tmp 6,.tmp 7]) Try.func102 (by kernel_rfl) rfl rfl Try.ntmps102 (fun _=>rfl) fun ⟨p0,p1,_,_⟩ r H=>by
 have C:=zE ok103 <| zU
 dsimp only [F102_0] at H
 exact dq
noncomputable def F81 (p0:TBuffer) (p1:Int):Option (Int × Bool) :=
 (F102_0 p0.List p1).bind fun r1=>some (r1.1,r1.2)
noncomputable def cF (l:List AV):AR:=PP (dC yK (dC (dI .i64) dN)) (fun p=>F81 p.1 p.2.1) (fun r=>.tup [.int .i64 (r.1),.bool (r.2)]) l
attribute [go_sem] cF
theorem ok81:yU Try.prog 81 (yR cF):=PPo (rs:=[.tmp 4,.tmp 5]) Try.func81 (by kernel_rfl) rfl rfl Try.ntmps81 (fun _=>rfl) fun ⟨p0,p1,_⟩ r H=>by
 have C:=zE ok102_0 <| zU
 dsimp only [F81] at H
 exact dq
noncomputable def F92 (p0:List TSleeper):Option (List TSleeper) :=
 need (capb 40 p0.length) <| some p0
noncomputable def jR:List AV->Nat->AR
 | [v0],s=>.heap (lK xU 3 v0/\(F92 (lA yS v0)).isSome=true) (.sl s 3 0 (gt (F92 (lA yS v0))).length false) [.row 57 3 (gt (F92 (lA yS v0))).length (enR zC (gt (F92 (lA yS v0))))]
 | _,_=>.fail
theorem ok92:yU Try.prog 92 (xN jR):=by
 refine eN jR (rs:=[.tmp 2]) Try.func92 (by kernel_rfl) rfl rfl ?_
 intro l s ob v ns hb hob
 rcases hb with ⟨hb,rfl⟩|hb
 ·unfold jR at hb
  split at hb<;>cases hb
 ·unfold jR at hb
  split at hb
  ·rename_i v0
   injection hb with q1 q2 q3;subst q1 q2 q3
   obtain ⟨hk0,hob⟩:=hob
   obtain ⟨r,H⟩:=oE.1 hob
   rw [H,gt_some]
   have hw0:=lK_wk (fun r h=>fL h) hk0
   generalize lA yS v0=p0 at H hw0
   unfold F92 at H
   obtain ⟨f1,H⟩:=zN.1 H
   replace f1:=capb_iff.1 f1
   obtain rfl:=Option.some.inj H
   refine ⟨[.ro 3 p0.length false (enR zC p0)],.sl 0 3 0 p0.length false,[.row 57 3 p0.length (enR zC p0)],(fun E vs F=>tR hw0.1 F (fun vs F=>F)),by simp only [ren,rnN_0],⟨⟨rfl,rfl,rfl,fun x y _ _=>dJ _ (nfR_en zG)⟩,trivial⟩,?_⟩
   rw [Try.ntmps92]
   simp only [lCl,lNl,Nat.reduceAdd,Nat.reduceSub,rS,rZ,aC,aN]
   refine rg zA ?_
   have nfs:∀ x y,nref (enR zC p0 x y):=fun x y=>nfR_en zG
   generalize hc:enR zC p0=c at nfs hw0
   cases hn:p0.length with
   | zero =>
    simp only [go_sem,Nat.reduceLeDiff,Nat.reduceAdd]
    have hp:p0=[]:=List.eq_nil_of_length_eq_zero hn
    subst hp;subst hc
    refine ⟨?_,?_⟩
    ·refine ⟨[],?_,?_,[none],?_,?_,rfl⟩
     ·simp only [yL]
     ·simp only [uT]
     ·simp [fzV,Cv]
     ·simp only [fzH,fzHF,and_true,CvH,and_true];exact qU
    ·refine ⟨by omega,[],?_,?_,[some 1],?_,?_,rfl⟩
     ·simp only [Nat.add_zero,yL,inL,vR,geth,cond_false,true_and,Nat.zero_add,Nat.le_refl]
     ·simp only [bC,uT,and_self]
     ·simp [fzV,inL,Cv,zQ]
     ·simp only [fzH,fzHF,fzB,inL,cond_false,and_true,CvH,and_true];exact CvB_row0 zG
   | succ m =>
    simp only [go_sem,Nat.reduceLeDiff,Nat.reduceAdd,reduceCtorEq]
    refine ⟨by omega,[],?_,?_,[some 1],?_,?_,rfl⟩
    ·simp only [yL,inL,vR,geth,cond_false,true_and,Nat.zero_add,Nat.le_refl]
    ·simp only [bC,uT,and_self]
    ·simp [fzV,inL,Cv,zQ]
    ·simp only [fzH,fzHF,fzB,inL,cond_false,and_true,CvH,and_true];rw [← hn,← hc];exact zW zG rfl (fun x y hx hy=>by simp only [kD,Nat.not_lt_zero,if_false,Nat.sub_zero])
  ·cases hb
attribute [go_sem] jR
noncomputable def F63 (p0:TFrame):Option (TFrame) :=
 need (capb 1 p0.Body.length) <| some (TFrame.mk (THeader.mk p0.Head.Kind p0.Head.Sub p0.Head.ToDs p0.Head.FromDs p0.Head.More p0.Head.Retry p0.Head.Sleep p0.Head.MoreData p0.Head.Protected p0.Head.Duration (A6u8.mk p0.Head.A1.x0 p0.Head.A1.x1 p0.Head.A1.x2 p0.Head.A1.x3 p0.Head.A1.x4 p0.Head.A1.x5) (A6u8.mk p0.Head.A2.x0 p0.Head.A2.x1 p0.Head.A2.x2 p0.Head.A2.x3 p0.Head.A2.x4 p0.Head.A2.x5) (A6u8.mk p0.Head.A3.x0 p0.Head.A3.x1 p0.Head.A3.x2 p0.Head.A3.x3 p0.Head.A3.x4 p0.Head.A3.x5) (A6u8.mk p0.Head.A4.x0 p0.Head.A4.x1 p0.Head.A4.x2 p0.Head.A4.x3 p0.Head.A4.x4 p0.Head.A4.x5) p0.Head.Seq p0.Head.Frag p0.Head.Tid p0.Head.Ack p0.Head.Amsdu p0.Head.Eosp) ([] ++ p0.Body))
noncomputable def tJ:List AV->List ABlk->ED
 | [v0],h=>.ed [] (aK 41 wI (roD (uY h []) v0)/\roDOb (uY h []) v0/\(F63 (yF (aL (roD (uY h []) v0)))).isSome=true) (.agg (hC ((gt (F63 (yF (aL (roD (uY h []) v0))))).Head) (.sl 0 1 0 (((gt (F63 (yF (aL (roD (uY h []) v0))))).Body).length) false::[]))) [.row 5 1 (((gt (F63 (yF (aL (roD (uY h []) v0))))).Body).length) (enR qD ((gt (F63 (yF (aL (roD (uY h []) v0))))).Body))]
 | _,_=>.fail
theorem ok63d:yU Try.prog 63 (edC tJ):=by
 refine edit_fnV tJ (rs:=[.cell 2 33]) Try.func63 (by kernel_rfl) rfl rfl ?_
 intro l h bs ob q0 g0 hb hob
 unfold tJ at hb
 split at hb
 ·rename_i v0
  injection hb with q1 q2 q3 q4;subst q1 q2 q3 q4
  obtain ⟨hk0_0,hk0_1,hob⟩:=hob
  obtain ⟨r,H⟩:=oE.1 hob
  rw [H,gt_some]
  have hw0:=dV hk0_0
  obtain ⟨p0,hp_p0⟩:∃ p0,p0=yF (aL (roD (uY h []) v0)):=⟨_,rfl⟩
  rw [← hp_p0] at H hw0
  refine ⟨[.agg (hC p0.Head (.ro 1 p0.Body.length false (enR xA p0.Body)::[]))],[],rfl,⟨(EW_view hk0_1 hw0),trivial⟩,trivial,trivial,⟨(nfB_en nr_d_u8),trivial⟩,⟨noroB_en,trivial⟩,(by first|(simp only [noro,tQ,and_self];done)|(simp only [noro,tQ];and_intros<;>first|trivial|exact noro_bif (by simp only [noro]) (by simp only [noro])|(simp only [noro,tQ,and_self]))),?_⟩
  rw [Try.ntmps63]
  simp only [lCl,lNl,Nat.reduceAdd,Nat.reduceSub,rS,rZ,aC,aN]
  unfold F63 at H
  try dsimp only at H
  refine sq zA ?_
  simp only [go_sem]
  refine zZ ?_
  obtain ⟨f1,H⟩:=zN.1 H
  replace f1:=capb_iff.1 f1
  refine rg zA ?_
  simp only [go_sem,Nat.reduceLeDiff,Nat.reduceLT,Nat.reduceAdd,f1]
  repeat ((with_reducible refine aI ?_ ?_);exact an1)
  refine sq zA ?_
  simp only [go_sem,Nat.reduceLT,Nat.reduceAdd]
  repeat ((with_reducible refine aI ?_ ?_);exact an5)
  refine rg zA ?_
  simp only [go_sem,Nat.reduceLT,Nat.reduceAdd]
  obtain rfl:=Option.some.inj H
  refine RetE_mk [] [some 3] ?_ ?_ ?_ ?_ (by rfl) (by rfl)
  ·simp only [go_sem]
   try exact at0
  ·simp only [go_sem]
   try exact at0
  ·simp only [go_sem]
   exact (by first|(simp [Cv,CvL,zQ];done)|(simp [Cv,CvL,zQ,gt_some];omega))
  ·simp only [go_sem,CvH]
   exact zW nr_d_u8 cl (vQ (f:=qD) [] p0.Body (dS ds_u8 (xR (f:=s_u8) [] (fun _ _=>rfl) rfl)) (fun x y _ hy=>match y,hy with|0,_=>rfl|y+1,h=>absurd h (by omega)))
 ·cases hb
attribute [go_sem] tJ
noncomputable def ct93dt0:Ct:=tab [(63,edC tJ)]
theorem ct93dt0_ok:wO Try.prog ct93dt0:=zE ok63d <| zU
theorem ct93dt0_63 (l:List AV) (h:List ABlk):ct93dt0 63 l h=edC tJ l h:=rfl
noncomputable def bV (p0:List TStored) (v1_1:List TStored) (v1_2:Int):Option (Lp ((List TStored) × Int) ((List TStored) ⊕ (List TStored))) :=
 bif (bLt v1_2 (p0.length:Nat)) then (need (inb v1_2 p0.length) <| (F63 (eF ((gd p0 v1_2.toNat).Frame))).bind fun r3=>need (capb 120 (v1_1.length+1)) <| some (.next ((v1_1 ++ [(TStored.mk ((gd p0 v1_2.toNat).Cat) ((gd p0 v1_2.toNat).At) (eF r3))]),wr .i64 (v1_2+1)))) else (some (.done (.inl v1_1)))
noncomputable def F93 (p0:List TStored):Option (List TStored) :=
 lp (loopD (fun s=>bV p0 s.1 s.2) ([],0)) (fun w1_3=>some w1_3) some
noncomputable def uR:List AV->Nat->AR
 | [v0],s=>.heap (lK wB 43 v0/\(F93 (lA xC v0)).isSome=true) (.sl s 43 0 ((gt (F93 (lA xC v0))).length) false) [.row 61 43 ((gt (F93 (lA xC v0))).length) (enR zJ (gt (F93 (lA xC v0))))]
 | _,_=>.fail
theorem ok93d:yU Try.prog 93 (xN uR):=by
 refine eN uR (rs:=[.tmp 2]) Try.func93 (by kernel_rfl) rfl rfl ?_
 intro l s ob v ns hb hob
 rcases hb with ⟨hb,rfl⟩|hb
 ·unfold uR at hb
  split at hb<;>cases hb
 ·unfold uR at hb
  split at hb
  ·rename_i v0
   injection hb with q1 q2 q3;subst q1 q2 q3
   obtain ⟨hk0_0,hob⟩:=hob
   obtain ⟨r,H⟩:=oE.1 hob
   rw [H,gt_some]
   have hw0:=lK_wk (fun r h=>gM h) hk0_0
   generalize lA xC v0=p0 at H hw0
   refine ⟨[.ro 43 p0.length false (enR zD p0)],.sl 0 43 0 r.length false,[.row 61 43 r.length (enR zJ r)],(fun E vs F=>tR hw0.1 F (fun vs F=>F)),by simp only [ren,rnN_0],⟨gO zV,trivial⟩,?_⟩
   rw [Try.ntmps93]
   simp only [lCl,lNl,Nat.reduceAdd,Nat.reduceSub,rS,rZ,aC,aN]
   unfold F93 at H
   try dsimp only at H
   refine sq zA ?_
   simp only [go_sem]
   refine zZ ?_
   refine sq zA ?_
   simp only [go_sem]
   repeat ((with_reducible refine aI ?_ ?_);exact an0)
   refine uJ ?_
   refine wX (fun s:(List TStored) × Int=>(.top::.top::.sl 0 43 0 s.1.length false::.top::.top::.ro 43 p0.length false (enR zD p0)::.int .i64 (p0.length:Nat)::.int .i64 s.2::tp 13 [])) (fun s=>[.row 61 43 s.1.length (enR zJ s.1)]) (fun e:List TStored=>(.top::.top::.sl 0 43 0 e.length false::tp 18 [])) (fun e=>[.row 61 43 e.length (enR zJ e)]) H ?_ (fun s o H hn1_1 hn2_1=>?_) (fun w1_3 H=>?_)
   ·refine yH ⟨[none],?_,?_,by rfl,by rfl⟩
    ·simp [CvL,Cv,tp]
    ·exact ⟨qU,trivial⟩
   ·obtain ⟨v1_1,v1_2⟩:=s
    unfold bV at H
    try dsimp only at H ⊢
    try simp only [tp]
    refine sq zA ?_
    simp only [go_sem]
    refine zZ ?_
    refine condM' rfl trivial (fun hc=>?_) (fun hc=>?_)
    ·have hk1:(bLt v1_2 (p0.length:Nat))=false:=by simpa using hc
     replace H:=yM hc H
     refine rg zA ?_
     simp only [go_sem]
     refine ⟨_,(Option.some.inj H).symm,?_⟩
     refine yH ⟨[some 0],?_,?_,by rfl,by rfl⟩
     ·simp [CvL,Cv,zQ]
     ·exact ⟨zW zV cl (fun _ _ _ _=>rfl),trivial⟩
    have hk1:(bLt v1_2 (p0.length:Nat))=true:=by simpa using hc
    replace H:=xH hc H
    refine rg zA ?_
    simp only [go_sem]
    refine zZ ?_
    refine uJ ?_
    refine zZ ?_
    obtain ⟨f2,H⟩:=zN.1 H
    replace f2:=xD.1 f2
    refine rg zA ?_
    simp only [go_sem,Nat.reduceLT,Nat.reduceAdd,f2]
    repeat ((with_reducible refine aI ?_ ?_);exact an5)
    refine zZ ?_
    obtain ⟨r3,e4,H⟩:=bsi H
    refine rg ct93dt0_ok ?_
    simp only [go_sem,Nat.reduceLT,Nat.reduceAdd,reduceCtorEq,ct93dt0_63,tJ,e4]
    repeat ((with_reducible refine aI ?_ ?_);exact an0)
    refine jB ?_
    refine xS zO zA 2 ?_
    simp only [zK,tS,tZ,dSl,dZ,go_sem,Nat.reduceLT,Nat.reduceAdd]
    repeat ((with_reducible refine aI ?_ ?_);exact an4)
    refine fzO [2] ?_ ?_
    ·simp only [go_sem,Nat.reduceBEq]
     try exact at0
    simp only [go_sem,Nat.reduceBEq,Nat.reduceAdd]
    obtain ⟨f5,H⟩:=zN.1 H
    replace f5:=capb_iff.1 f5
    refine xS zO zA 3 ?_
    simp only [zK,tS,tZ,dSl,dZ,go_sem,Nat.reduceLeDiff,Nat.reduceAdd,Nat.reduceBEq,f5]
    repeat ((with_reducible refine aI ?_ ?_);exact an1)
    refine vN ?_
    refine rg zA ?_
    simp only [go_sem]
    refine ⟨_,(Option.some.inj H).symm,?_⟩
    refine yH ⟨[some 4],?_,?_,by rfl,by rfl⟩
    ·simp [CvL,Cv,zQ]
    ·exact ⟨zW zV cl (vQ (f:=zJ) v1_1 [(TStored.mk ((gd p0 v1_2.toNat).Cat) ((gd p0 v1_2.toNat).At) (eF r3))] (fun _ _ _ _=>rfl) (dS kV (xR (f:=vL) [(TStored.mk ((gd p0 v1_2.toNat).Cat) ((gd p0 v1_2.toNat).At) (eF r3))] (fun _ _=>rfl) rfl))),trivial⟩
   ·try dsimp only at H ⊢
    try simp only [tp]
    try simp only [wJ]
    refine sq zA ?_
    simp only [go_sem]
    refine rg zA ?_
    simp only [go_sem]
    obtain rfl:=Option.some.inj H
    refine ⟨[],?_,?_,[some 0],?_,?_,by rfl⟩
    ·simp only [go_sem]
    ·simp only [go_sem]
    ·simp [fzV,inL,Cv,zQ]
     all_goals first|exact cl
    ·simp only [go_sem,CvH]
     exact zW zV cl (fun _ _ _ _=>rfl)
  ·cases hb
attribute [go_sem] uR
noncomputable def ct93_0dt0:Ct:=tab [(63,edC tJ)]
theorem ct93_0dt0_ok:wO Try.prog ct93_0dt0:=zE ok63d <| zU
theorem ct93_0dt0_63 (l:List AV) (h:List ABlk):ct93_0dt0 63 l h=edC tJ l h:=rfl
noncomputable def F93_0_L1 (p0:List TStored) (v1_1:List TStored) (v1_2:Int):Option (Lp ((List TStored) × Int) ((List TStored) ⊕ (List TStored))) :=
 bif (bLt v1_2 (p0.length:Nat)) then (need (inb v1_2 p0.length) <| (F63 (eF ((gd p0 v1_2.toNat).Frame))).bind fun r3=>need (capb 120 (v1_1.length+1)) <| some (.next ((v1_1 ++ [(TStored.mk ((gd p0 v1_2.toNat).Cat) ((gd p0 v1_2.toNat).At) (eF r3))]),wr .i64 (v1_2+1)))) else (some (.done (.inl v1_1)))
noncomputable def F93_0 (p0:List TStored):Option (List TStored) :=
 lp (loopD (fun s=>F93_0_L1 p0 s.1 s.2) ([],0)) (fun w1_3=>some w1_3) some
noncomputable def uL:List AV->Nat->AR
 | [v0],_=>.pure (lK wB 43 v0/\(F93_0 (lA xC v0)).isSome=true) (.ro 43 ((gt (F93_0 (lA xC v0))).length) false (enR zJ (gt (F93_0 (lA xC v0)))))
 | _,_=>.fail
theorem ok93_0d:yU Try.prog 93 (xN uL):=by
 refine eN uL (rs:=[.tmp 2]) Try.func93 (by kernel_rfl) rfl rfl ?_
 intro l s ob v ns hb hob
 rcases hb with ⟨hb,rfl⟩|hb
 ·unfold uL at hb
  split at hb
  ·rename_i v0
   injection hb with q1 q2;subst q1 q2
   obtain ⟨hk0_0,hob⟩:=hob
   obtain ⟨r,H⟩:=oE.1 hob
   rw [H,gt_some]
   have hw0:=lK_wk (fun r h=>gM h) hk0_0
   generalize lA xC v0=p0 at H hw0
   refine ⟨[.ro 43 p0.length false (enR zD p0)],.ro 43 r.length false (enR zJ r),[],(fun E vs F=>tR hw0.1 F (fun vs F=>F)),by simp only [ren],trivial,?_⟩
   rw [Try.ntmps93]
   simp only [lCl,lNl,Nat.reduceAdd,Nat.reduceSub,rS,rZ,aC,aN]
   unfold F93_0 at H
   try dsimp only at H
   refine sq zA ?_
   simp only [go_sem]
   refine zZ ?_
   refine sq zA ?_
   simp only [go_sem]
   repeat ((with_reducible refine aI ?_ ?_);exact an0)
   refine uJ ?_
   refine wX (fun s:(List TStored) × Int=>(.top::.top::.sl 0 43 0 s.1.length false::.top::.top::.ro 43 p0.length false (enR zD p0)::.int .i64 (p0.length:Nat)::.int .i64 s.2::tp 13 [])) (fun s=>[.row 61 43 s.1.length (enR zJ s.1)]) (fun e:List TStored=>(.top::.top::.sl 0 43 0 e.length false::tp 18 [])) (fun e=>[.row 61 43 e.length (enR zJ e)]) H ?_ (fun s o H hn1_1 hn2_1=>?_) (fun w1_3 H=>?_)
   ·refine yH ⟨[none],?_,?_,by rfl,by rfl⟩
    ·simp [CvL,Cv,tp]
    ·exact ⟨qU,trivial⟩
   ·obtain ⟨v1_1,v1_2⟩:=s
    unfold F93_0_L1 at H
    try dsimp only at H ⊢
    try simp only [tp]
    refine sq zA ?_
    simp only [go_sem]
    refine zZ ?_
    refine condM' rfl trivial (fun hc=>?_) (fun hc=>?_)
    ·have hk1:(bLt v1_2 (p0.length:Nat))=false:=by simpa using hc
     replace H:=yM hc H
     refine rg zA ?_
     simp only [go_sem]
     refine ⟨_,(Option.some.inj H).symm,?_⟩
     refine yH ⟨[some 0],?_,?_,by rfl,by rfl⟩
     ·simp [CvL,Cv,zQ]
     ·exact ⟨zW zV cl (fun _ _ _ _=>rfl),trivial⟩
    have hk1:(bLt v1_2 (p0.length:Nat))=true:=by simpa using hc
    replace H:=xH hc H
    refine rg zA ?_
    simp only [go_sem]
    refine zZ ?_
    refine uJ ?_
    refine zZ ?_
    obtain ⟨f2,H⟩:=zN.1 H
    replace f2:=xD.1 f2
    refine rg zA ?_
    simp only [go_sem,Nat.reduceLT,Nat.reduceAdd,f2]
    repeat ((with_reducible refine aI ?_ ?_);exact an5)
    refine zZ ?_
    obtain ⟨r3,e4,H⟩:=bsi H
    refine rg ct93_0dt0_ok ?_
    simp only [go_sem,Nat.reduceLT,Nat.reduceAdd,reduceCtorEq,ct93_0dt0_63,tJ,e4]
    repeat ((with_reducible refine aI ?_ ?_);exact an0)
    refine jB ?_
    refine xS zO zA 2 ?_
    simp only [zK,tS,tZ,dSl,dZ,go_sem,Nat.reduceLT,Nat.reduceAdd]
    repeat ((with_reducible refine aI ?_ ?_);exact an4)
    refine fzO [2] ?_ ?_
    ·simp only [go_sem,Nat.reduceBEq]
     try exact at0
    simp only [go_sem,Nat.reduceBEq,Nat.reduceAdd]
    obtain ⟨f5,H⟩:=zN.1 H
    replace f5:=capb_iff.1 f5
    refine xS zO zA 3 ?_
    simp only [zK,tS,tZ,dSl,dZ,go_sem,Nat.reduceLeDiff,Nat.reduceAdd,Nat.reduceBEq,f5]
    repeat ((with_reducible refine aI ?_ ?_);exact an1)
    refine vN ?_
    refine rg zA ?_
    simp only [go_sem]
    refine ⟨_,(Option.some.inj H).symm,?_⟩
    refine yH ⟨[some 4],?_,?_,by rfl,by rfl⟩
    ·simp [CvL,Cv,zQ]
    ·exact ⟨zW zV cl (vQ (f:=zJ) v1_1 [(TStored.mk ((gd p0 v1_2.toNat).Cat) ((gd p0 v1_2.toNat).At) (eF r3))] (fun _ _ _ _=>rfl) (dS kV (xR (f:=vL) [(TStored.mk ((gd p0 v1_2.toNat).Cat) ((gd p0 v1_2.toNat).At) (eF r3))] (fun _ _=>rfl) rfl))),trivial⟩
   ·try dsimp only at H ⊢
    try simp only [tp]
    try simp only [wJ]
    refine sq zA ?_
    simp only [go_sem]
    refine rg zA ?_
    simp only [go_sem]
    obtain rfl:=Option.some.inj H
    refine ⟨[0],?_,?_,[],?_,?_,rfl⟩
    ·simp only [go_sem]
     try exact at0
    ·simp only [go_sem]
     try exact at0
    ·simp only [go_sem]
     exact (vT (by first|rfl|simp) (fun _ _ _ _=>rfl))
    ·simp only [go_sem,CvH]
  ·cases hb
 ·unfold uL at hb
  split at hb<;>cases hb
theorem loopD_inv {S B:Type} {step step':S->Option (Lp S B)} {b:B} (J:S->Prop) (hs:∀ s o,J s->step s=some o->step' s=some o/\∀ s',o = .next s'->J s') {s:S} (h0:J s) (h:loopD step s=some b):loopD step' s=some b:=by
 obtain ⟨n,hn⟩:=kZ.1 h
 refine kZ.2 ⟨n,?_⟩
 clear h
 induction n generalizing s with
 | zero=>cases hn
 | succ n ih =>
  simp only [tD] at hn ⊢
  cases ho:step s with
  | none=>rw [ho] at hn;cases hn
  | some o =>
   rw [ho] at hn
   obtain ⟨q1,q2⟩:=hs s o h0 ho
   rw [q1]
   cases o with
   | next s'=>exact ih (q2 s' rfl) hn
   | done b'=>exact hn
theorem lp_inv {S A R X:Type} {step step':S->Option (Lp S (A ⊕ R))} {s:S} {k:A->Option X} {j:R->Option X} {x:X} (h:lp (loopD step s) k j=some x) (J:S->Prop) (h0:J s) (hs:∀ s o,J s->step s=some o->step' s=some o/\∀ s',o = .next s'->J s'):lp (loopD step' s) k j=some x:=by
 cases hb:loopD step s with
 | none=>rw [hb] at h;cases h
 | some b=>rw [loopD_inv J hs h0 hb];rw [hb] at h;exact h
def mixR (q:Nat) (L:List TSleeper):Nat->Nat->AV:=fun x y=>if x < q then enR zT L x y else enR zC L x y
theorem mix_self (q:Nat) (L:List TSleeper) (y:Nat):mixR q L q y=enR zC L q y:=if_neg (Nat.lt_irrefl q)
theorem mix_nr (q:Nat) (L:List TSleeper) (x y:Nat):nref (mixR q L x y):=by
 unfold mixR
 split
 ·exact wC (uM _) y
 ·exact wC (zG _) y
theorem mix_0 (L:List TSleeper) (x y:Nat):mixR 0 L x y=enR zC L x y:=if_neg (Nat.not_lt_zero x)
theorem mix_end {q:Nat} {L:List TSleeper} (h:L.length <= q) {x y:Nat} (hx:x < L.length):mixR q L x y=enR zT L x y:=if_pos (by omega)
theorem mix_set {q:Nat} {L:List TSleeper} {a:TSleeper} (hq:q < L.length) (x y:Nat):mixR (q+1) (L.set q a) x y=if x=q then zL (zT a) y else mixR q L x y:=by
 unfold mixR
 by_cases h:x=q
 ·subst h
  rw [if_pos (by omega),if_pos rfl,enR_row,gd_set_eq hq]
 ·rw [if_neg h,enR_row,enR_row,gd_set_ne (Ne.symm h)]
  by_cases h2:x < q
  ·rw [if_pos (by omega),if_pos h2];rfl
  ·rw [if_neg (by omega),if_neg h2];rfl
section
variable {μ:Mu} {e es es2 n i j b b' m k k':Nat} {C C':Nat->Nat->AV}
theorem CvB_con (hr:∀ x y,nref (C x y)) (h:∀ x y,x < n->y < es->C' x y=C x y):CvB μ (.row e es n C') (some m) (.row e es n C):=by
 simp only [CvB]
 refine ⟨trivial,trivial,Nat.le_refl _,fun x y hx hy=>?_⟩
 rw [h x y hx hy]
 exact yJ _ (hr x y)
theorem CvB_fS (hr:∀ x y,nref (C x y)) (hb:zQ μ b=some b') (hk:k=k') (h:∀ x y,x < n->y < es->¬ (x=i/\y=j)->C' x y=C x y) :
  CvB μ (.row e es n (upc C' i j [.sl b es2 0 k false])) (some m) (.row e es n (upc C i j [.sl b' es2 0 k' false])):=by
 subst hk
 simp only [CvB]
 refine ⟨trivial,trivial,Nat.le_refl _,fun x y hx hy=>?_⟩
 rw [wH,wH]
 by_cases q:x=i/\y=j
 ·rw [if_pos q,if_pos q];exact Cv_sl1 hb
 ·rw [if_neg q,if_neg q,h x y hx hy q];exact yJ _ (hr x y)
theorem CvB_fC {z j2:Nat} {vs:List AV} (hr:∀ x y,nref (C' x y)) (hz:z ≠ i) (hb:zQ μ b=some b') (hk:k=k') (h:∀ x y,x < n->y < es->¬ (x=i/\y=j)->C' x y=upc C z j2 vs x y) :
  CvB μ (.row e es n (upc C' i j [.sl b es2 0 k false])) (some m) (.row e es n (upc (upc C i j [.sl b' es2 0 k' false]) z j2 vs)):=by
 subst hk
 simp only [CvB]
 refine ⟨trivial,trivial,Nat.le_refl _,fun x y hx hy=>?_⟩
 rw [wH]
 by_cases q:x=i/\y=j
 ·rw [if_pos q,yP (by omega),wH,if_pos q];exact Cv_sl1 hb
 ·rw [if_neg q,h x y hx hy q]
  have:upc (upc C i j [.sl b' es2 0 k false]) z j2 vs x y=upc C z j2 vs x y:=by
   by_cases hx':x=z
   ·subst hx'
    unfold upc
    split
    ·rfl
    ·rw [if_neg (fun w=>hz w.1)]
   ·rw [yP hx',yP hx',wH,if_neg q]
  rw [this,← h x y hx hy q]
  exact yJ _ (hr x y)
theorem CvB_mS {q q':Nat} {L:List TSleeper} {v:AV} {a:TSleeper} {e m n:Nat} {μ:Mu} (hv:nref v) (hq':q'=q+1) (hq:q < L.length) (hn:(L.set q a).length=n)
  (h:∀ y,y < 3->zL (zT a) y=upc (enR zC L) q 2 [v] q y):CvB μ (.row e 3 (L.set q a).length (mixR q' (L.set q a))) (some m) (.row e 3 n (upc (mixR q L) q 2 [v])):=by
 subst hn hq'
 refine CvB_con (fun x y=>by rw [wH];split;exact hv;exact mix_nr _ _ x y) (fun x y _ hy=>?_)
 rw [mix_set hq]
 by_cases hx:x=q
 ·subst hx
  rw [if_pos rfl,h y hy,wH,wH,mix_self]
 ·rw [if_neg hx,yP hx]
end
attribute [go_sem] mix_self
attribute [go_sem] uL
noncomputable def ct65dt0:Ct:=tab [(92,xN jR)]
theorem ct65dt0_ok:wO Try.prog ct65dt0:=zE ok92 <| zU
theorem ct65dt0_92 (l:List AV) (h:List ABlk):ct65dt0 92 l h=xN jR l h:=rfl
noncomputable def ct65dt1:Ct:=tab [(93,xN uL)]
theorem ct65dt1_ok:wO Try.prog ct65dt1:=zE ok93_0d <| zU
theorem ct65dt1_93 (l:List AV) (h:List ABlk):ct65dt1 93 l h=xN uL l h:=rfl
noncomputable def ct65dt2:Ct:=tab [(93,xN uR)]
theorem ct65dt2_ok:wO Try.prog ct65dt2:=zE ok93d <| zU
theorem ct65dt2_93 (l:List AV) (h:List ABlk):ct65dt2 93 l h=xN uR l h:=rfl
noncomputable def eH (r1:List TSleeper) (v1_1:Int) (v1_2:List TSleeper):Option (Lp (Int × (List TSleeper)) ((List TSleeper) ⊕ (TBuffer))) :=
 bif (bLt v1_1 (r1.length:Nat)) then (need (inb v1_1 v1_2.length) <| (F93_0 ((gd v1_2 v1_1.toNat).Held)).bind fun r5=>need (inb v1_1 v1_2.length) <| some (.next (wr .i64 (v1_1+1),(v1_2.set v1_1.toNat (TSleeper.mk ((gd v1_2 v1_1.toNat).Aid) ((gd v1_2 v1_1.toNat).Asleep) r5))))) else (some (.done (.inl v1_2)))
noncomputable def F65 (p0:TBuffer):Option (TBuffer) :=
 (F92 p0.List).bind fun r1=>lp (loopD (fun s=>eH r1 s.1 s.2) (0,r1)) (fun w1_3=>(F93 p0.Group).bind fun r8=>some (TBuffer.mk p0.Limit p0.Stay w1_3 r8)) some
noncomputable def cE:List AV->Nat->AR
 | [v0],s=>.heap (aK 4 uA v0/\(F65 (zY (aL v0))).isSome=true) (.agg [.int .i64 ((gt (F65 (zY (aL v0)))).Limit),.int .i64 ((gt (F65 (zY (aL v0)))).Stay),.sl s 3 0 (((gt (F65 (zY (aL v0)))).List).length) false,.sl (s+1) 43 0 (((gt (F65 (zY (aL v0)))).Group).length) false]) [.row 57 3 (((gt (F65 (zY (aL v0)))).List).length) (enR zT ((gt (F65 (zY (aL v0)))).List)),.row 61 43 (((gt (F65 (zY (aL v0)))).Group).length) (enR zJ ((gt (F65 (zY (aL v0)))).Group))]
 | _,_=>.fail
theorem ok65d:yU Try.prog 65 (xN cE):=by
 refine eN cE (rs:=[.cell 2 25]) Try.func65 (by kernel_rfl) rfl rfl ?_
 intro l s ob v ns hb hob
 rcases hb with ⟨hb,rfl⟩|hb
 ·unfold cE at hb
  split at hb<;>cases hb
 ·unfold cE at hb
  split at hb
  ·rename_i v0
   injection hb with q1 q2 q3;subst q1 q2 q3
   obtain ⟨hk0_0,hob⟩:=hob
   obtain ⟨r,H⟩:=oE.1 hob
   rw [H,gt_some]
   have hw0:=fK hk0_0
   generalize zY (aL v0)=p0 at H hw0
   refine ⟨[.agg [.int .i64 p0.Limit,.int .i64 p0.Stay,.ro 3 p0.List.length false (enR zC p0.List),.ro 43 p0.Group.length false (enR zD p0.Group)]],.agg [.int .i64 r.Limit,.int .i64 r.Stay,.sl 0 3 0 r.List.length false,.sl 1 43 0 r.Group.length false],[.row 57 3 r.List.length (enR zT r.List),.row 61 43 r.Group.length (enR zJ r.Group)],(fun E vs F=>tR hw0.1 F (fun vs F=>F)),by simp only [ren,tO,rnN_0,rnN_s,Nat.zero_add],⟨gO uM,gO zV,trivial⟩,?_⟩
   rw [Try.ntmps65]
   simp only [lCl,lNl,Nat.reduceAdd,Nat.reduceSub,rS,rZ,aC,aN]
   unfold F65 at H
   try dsimp only at H
   refine sq zA ?_
   simp only [go_sem]
   refine zZ ?_
   obtain ⟨r1,e2,H⟩:=bsi H
   refine rg ct65dt0_ok ?_
   simp only [go_sem,Nat.reduceLeDiff,Nat.reduceLT,Nat.reduceAdd,ct65dt0_92,jR,e2]
   repeat ((with_reducible refine aI ?_ ?_);exact an0)
   refine zZ ?_
   refine sq zA ?_
   simp only [go_sem,Nat.reduceLeDiff,Nat.reduceLT,Nat.reduceAdd]
   repeat ((with_reducible refine aI ?_ ?_);exact an0)
   refine uJ ?_
   have hr1:r1.length <= 140737488355328:=by
    have h:=e2;unfold F92 at h;obtain ⟨h1,h⟩:=zN.1 h;have h2:=(capb_iff.1 h1).2;have h:=Option.some.inj h;subst h;simpa using h2
   replace H:=lp_inv H (step':=fun s=>need (decide (s.2.length=r1.length)) <| eH r1 s.1 s.2) (fun s=>s.2.length=r1.length) rfl (fun s o hJ hs=>⟨zN.2 ⟨decide_eq_true hJ,hs⟩,fun s' e=>by subst e;unfold eH at hs;cases hc:bLt s.1 (r1.length:Nat)<;>simp only [hc,cond_true,cond_false] at hs;(cases Option.some.inj hs);obtain ⟨_,hs⟩:=zN.1 hs;obtain ⟨r,_,hs⟩:=bsi hs;obtain ⟨_,hs⟩:=zN.1 hs;cases Option.some.inj hs;rw [List.length_set];exact hJ⟩)
   refine wX (fun s:Int × (List TSleeper)=>(.top::.ptr 0 0 0 0::.ptr 1 0 0 0::tp 7 (.int .i64 (r1.length:Nat)::.int .i64 s.1::tp 20 []))) (fun s=>[.lit 25 [.int .i64 p0.Limit,.int .i64 p0.Stay,.sl 3 3 0 s.2.length false,.ro 43 p0.Group.length false (enR zD p0.Group)],.lit 25 [.int .i64 0,.int .i64 0,.ro 0 0 true (fun _ _=>.top),.ro 0 0 true (fun _ _=>.top)],.dead,.row 57 3 s.2.length (mixR s.1.toNat s.2)]) (fun e:List TSleeper=>(.top::.ptr 0 0 0 0::.ptr 1 0 0 0::tp 29 [])) (fun e=>[.lit 25 [.int .i64 p0.Limit,.int .i64 p0.Stay,.sl 3 3 0 e.length false,.ro 43 p0.Group.length false (enR zD p0.Group)],.lit 25 [.int .i64 0,.int .i64 0,.ro 0 0 true (fun _ _=>.top),.ro 0 0 true (fun _ _=>.top)],.dead,.row 57 3 e.length (enR zT e)]) H ?_ (fun s o H hn1_1 hn2_1=>?_) (fun w1_3 H=>?_)
   ·refine yH ⟨[some 0,some 1,some 2,some 2],?_,?_,by rfl,by rfl⟩
    ·simp [CvL,Cv,zQ,tp]
    ·exact ⟨cv,cv,zH,CvB_con (fun x y=>wC (zG _) y) (fun x y _ _=>mix_0 r1 x y),trivial⟩
   ·obtain ⟨v1_1,v1_2⟩:=s
    try dsimp only at H ⊢
    obtain ⟨fl,H⟩:=zN.1 H
    replace fl:=of_decide_eq_true fl
    unfold eH at H
    try dsimp only at H ⊢
    try simp only [tp]
    refine sq zA ?_
    simp only [go_sem,Nat.reduceAdd]
    refine zZ ?_
    refine condM' rfl trivial (fun hc=>?_) (fun hc=>?_)
    ·have hk3:(bLt v1_1 (r1.length:Nat))=false:=by simpa using hc
     replace H:=yM hc H
     refine rg zA ?_
     simp only [go_sem]
     refine ⟨_,(Option.some.inj H).symm,?_⟩
     refine yH ⟨[some 0,some 1,some 2,some 3],?_,?_,by rfl,by rfl⟩
     ·simp [CvL,Cv,zQ]
     ·exact ⟨cv,cv,zH,CvB_con (fun x y=>mix_nr _ _ x y) (fun x y hx _=>(mix_end (by have:=hk3;simp only [bLt,decide_eq_false_iff_not] at this;omega) hx).symm),trivial⟩
    have hk3:(bLt v1_1 (r1.length:Nat))=true:=by simpa using hc
    replace H:=xH hc H
    refine rg zA ?_
    simp only [go_sem]
    refine zZ ?_
    refine uJ ?_
    refine sq zA ?_
    simp only [go_sem]
    obtain ⟨f4,H⟩:=zN.1 H
    replace f4:=xD.1 f4
    obtain ⟨r5,e6,H⟩:=bsi H
    obtain ⟨f7,H⟩:=zN.1 H
    replace f7:=xD.1 f7
    refine yW zO ct65dt1_ok 0 (by kernel_rfl) (by kernel_rfl) ?_
    intro an han
    simp only [vZ,wV,qS,xrD,xoD,qT,uC,List.append_nil,xJ,refs,vC,mask,wY,place,xV,wZ,xZ,hit,inL,xK,ren,nrH,nrB,rZ,Nat.sub_self,Nat.add_zero,Nat.zero_add,Nat.reduceSub,Nat.lt_add_one,go_sem,Nat.reduceLeDiff,Nat.reduceLT,Nat.reduceAdd,Nat.reduceSub,Nat.reduceBEq,ct65dt1_93,uL,f4,e6]
    repeat ((with_reducible refine aI ?_ ?_);exact an3)
    refine rg zA ?_
    simp only [go_sem]
    have hq1:(wr .i64 (v1_1+1)).toNat=v1_1.toNat+1:=by rw [wr_in (by omega)];omega
    refine ⟨_,(Option.some.inj H).symm,?_⟩
    refine yH ⟨[some 0,some 1,some 2,some 3],?_,?_,by rfl,by rfl⟩
    ·simp [CvL,Cv,zQ]
    ·exact ⟨cv,cv,zH,CvB_mS (by simp only [nref]) hq1 f7.2.2 (by rw [List.length_set]) (fun y hy=>match y,hy with|0,_=>(by rw [wH,if_neg (by omega)];rfl)|1,_=>(by rw [wH,if_neg (by omega)];rfl)|2,_=>(by rw [wH,if_pos ⟨rfl,rfl⟩];rfl)|y+3,h=>absurd h nlt),trivial⟩
   ·try dsimp only at H ⊢
    try simp only [tp]
    try simp only [wJ]
    refine zZ ?_
    obtain ⟨r8,e9,H⟩:=bsi H
    refine rg ct65dt2_ok ?_
    simp only [go_sem,Nat.reduceLT,Nat.reduceAdd,ct65dt2_93,uR,e9]
    repeat ((with_reducible refine aI ?_ ?_);exact an0)
    refine sq zA ?_
    simp only [go_sem,Nat.reduceLT,Nat.reduceAdd]
    repeat ((with_reducible refine aI ?_ ?_);exact an5)
    refine rg zA ?_
    simp only [go_sem,Nat.reduceLT,Nat.reduceAdd]
    obtain rfl:=Option.some.inj H
    refine ⟨[],?_,?_,[some 3,some 4],?_,?_,by rfl⟩
    ·simp only [go_sem]
    ·simp only [go_sem]
    ·simp [fzV,fzL,inL,Cv,CvL,zQ]
     all_goals first|exact cl|exact cl
    ·simp only [go_sem,CvH]
     exact ⟨zW uM cl (fun _ _ _ _=>rfl),zW zV cl (fun _ _ _ _=>rfl)⟩
  ·cases hb
attribute [go_sem] cE
theorem ext82:ExtOk Try.prog 104 ovC2:=ov_ext2 (t:=22) (tr:=4) (e:=57) (z:=3) Try.func104 (by kernel_rfl) (by kernel_rfl) (by kernel_rfl) (by kernel_rfl) (by kernel_rfl) (by kernel_rfl)
def ctI82:Ct:=tab [(104,ovC2)]
theorem ctI82_ok:wO Try.prog ctI82:=tab_ext ext82 zU
theorem ctI82_eq (l:List AV) (h:List ABlk):ctI82 104 l h=ovC2 l h:=rfl
theorem tik82_1:tintk Try.prog 22=false:=by kernel_rfl
set_option maxHeartbeats 8000000 in
theorem okF82:yU Try.prog 82 (insF 57 3):=by
 refine edit1_fn (sh:=fun _=>none) (fun _ _ h=>by cases h) ctI82_ok (insF 57 3) (rs:=[.tmp 6]) Try.func82 (by kernel_rfl) rfl rfl insF_np ?_
 intro E h l vs ob v h' H F hc hob
 unfold insF at hc
 split at hc
 ·rename_i b es' i n nl p b2 es3 i2 m nl2
  split at hc
  ·rename_i e' es2 NN c hb
   split at hc
   ·rename_i e4 es4 N2 d hb2
    injection hc with q1 q2 q3
    subst q1 q2 q3
    obtain ⟨rfl,rfl,rfl,rfl,rfl,hbb,hN,hN2,hpn,hmm,hbig,hfl,hfl2⟩:=hob
    obtain ⟨vs⟩:=vs
    match vs,F.1 with
    | [u1,u2,u3],_ =>
     have hne:geth h b ≠ .dead:=by rw [hb];exact fun e=>by cases e
     obtain ⟨cap,hcap,hV⟩:=csl_of_sl (only_sl (F.2 0 _ u1 rfl rfl))
     have g2:=F.2 1 _ u2 rfl rfl
     have g3:=only_ro (b:=b) H (F.2 2 _ u3 rfl rfl) hb2 hne hbb hN2 fun x y hx hy=>(hfl2 x y hx hy).1
     obtain rfl:=vM g2
     refine ⟨b,57,3,NN,c,n+m,bN i p m c (wL i2 d),[.csl 0 3 i n cap,.int .i64 p,.ro 3 m nl2 (wL i2 d)],hb,fun x y hx hy=>(hfl x y hx hy).1,fun x y hx hy=>?_,rfl,rfl,?_,?_⟩
     ·unfold bN wL
      split
      ·exact hfl _ _ (by omega) hy
      ·split
       ·exact hfl2 _ _ (by omega) hy
       ·exact hfl _ _ (by omega) hy
     ·refine ⟨rfl,fun j a w ha hw=>?_⟩
      match j with
      | 0=>simp at ha hw;subst ha hw;exact hV
      | 1=>simp at ha hw;subst ha hw;exact .int _ _
      | 2=>simp at ha hw;subst ha hw;exact g3
      | j+3=>simp at ha
     ·rw [Try.ntmps82]
      show wpC _ _ _ _ _ (.csl 0 3 i n cap::.int .i64 p::.ro 3 m nl2 (wL i2 d)::.top::.top::.top::.top::.top::.top::.top::.top::.top::.top::.top::.top::.top::.top::.top::.top::.top::.top::.top::.top::.top::.top::.top::.top::.top::.top::.top::.top::.top::.top::.top::.top::.top::.top::.top::.top::.top::.top::.top::.top::.top::.top::.top::.top::.top::.top::.top::.top::.top::.top::.top::.top::.top::.top::.top::.top::.top::.top::.top::.top::.top::.top::.top::.top::.top::.top::.top::.top::.top::.top::.top::.top::.top::.top::.top::.top::.top::.top::.top::.top::.top::.top::.top::.top::.top::.top::.top::.top::.top::.top::.top::.top::[]) _
      have hm0:0 < m:=by omega
      have hm1:((m:Int) == 0)=false:=by simp;omega
      rcases Nat.lt_or_ge p n with hp|hp
      ·have hpq:((p:Int) == (n:Int))=false:=by simp;omega
       have w1:wr .i64 ((n:Int)+(m:Int))=((n+m:Nat):Int):=by unfold wr;rw [IntWalk.i64_in _ (by omega)];omega
       have w2:wr .i64 (((n+m:Nat):Int) - (p:Int))=((n+m - p:Nat):Int):=by unfold wr;rw [IntWalk.i64_in _ (by omega)];omega
       have w3:wr .i64 ((p:Int)+(m:Int))=((p+m:Nat):Int):=by unfold wr;rw [IntWalk.i64_in _ (by omega)];omega
       have hpm:p+(n+m - p)=n+m:=by omega
       have mn1:min m (n+m - p)=m:=by omega
       have mn2:min (n - p) (n+m - (p+m))=n - p:=by omega
       have mn3:min (n+m - p) (n+m - (p+m))=n - p:=by omega
       have fin:∀ x y,x < n+m->bN i p m c (wL i2 d) x y=bN i p m c (wL i2 d) x y:=fun _ _ _=>rfl
       by_cases hroom:n+m <= cap
       ·have hg:decide ((cap:Int) < ((n+m:Nat):Int))=false:=by simp;omega
        simp only [go_sem,Nat.reduceLeDiff,Nat.reduceAdd,reduceCtorEq,qF,tM,lenS,cutS,evCap,jS,tik82_1,bEq,Option.isNone_some,Option.isSome_none,Option.isNone_none,Int.toNat_natCast,hm1,hpq,hg,Nat.sub_zero,bLt,w1,w2,w3,hpm,ctI82_eq,ovC2,slB,Nat.add_zero,Nat.zero_add]
        refine ⟨by omega,by omega,by omega,by omega,?_⟩
        refine yW (sh:=fun _=>none) (fun _ _ h=>by cases h) ctI82_ok 0 (by kernel_rfl) (by kernel_rfl) ?_
        intro an han
        simp only [go_sem,Nat.reduceLeDiff,Nat.reduceAdd,Nat.reduceSub,qF,tM,lenS,cutS,Option.isSome_none,Option.isNone_none,Int.toNat_natCast,w3,mn1,mn3,Nat.add_zero,Nat.zero_add,vZ,wV,qS,xJ,refs,vC,mask,wY,place,xV,wZ,xZ,hit,inL,xK,ren,nrH,nrB,rZ,Bool.or_false,Bool.or_true,Bool.true_or,Bool.false_and,Nat.sub_self,Nat.add_zero,Nat.zero_add,Nat.reduceSub,Nat.lt_add_one]
        refine ⟨by omega,by omega,by omega,by omega,by omega,?_⟩
        refine conv_move (b:=0) rfl (by omega) (by omega) fun x y hx hy=>?_
        unfold gB bN wL
        by_cases hxp:x < p
        ·rw [if_neg (by omega),if_neg (by omega),if_pos hxp]
        ·rw [if_neg hxp]
         by_cases hxm:x < p+m
         ·rw [if_pos (by omega),if_pos hxm]
          congr 1
          omega
         ·rw [if_neg (by omega),if_pos (by omega),if_neg hxm]
          congr 1
          omega
       ·have hg:decide ((cap:Int) < ((n+m:Nat):Int))=true:=by simp;omega
        have hd:decide (cap < n+m)=true:=by simp;omega
        simp only [go_sem,Nat.reduceLeDiff,Nat.reduceAdd,reduceCtorEq,qF,tM,lenS,cutS,evCap,jS,tik82_1,bEq,Option.isNone_some,Option.isSome_none,Option.isNone_none,Int.toNat_natCast,hm1,hpq,hg,hd,Nat.sub_zero,bLt,w1,w2,w3,hpm,mn1,ctI82_eq,ovC2,slB,Nat.add_zero,Nat.zero_add]
        refine ⟨by omega,by omega,by omega,by omega,by omega,?_⟩
        refine yW (sh:=fun _=>none) (fun _ _ h=>by cases h) ctI82_ok 0 (by kernel_rfl) (by kernel_rfl) ?_
        intro an han
        simp only [go_sem,Nat.reduceLeDiff,Nat.reduceAdd,Nat.reduceSub,Nat.reduceBEq,qF,tM,lenS,cutS,Option.isSome_none,Option.isNone_none,Int.toNat_natCast,w3,mn2,Nat.add_zero,Nat.zero_add,vZ,wV,qS,xJ,refs,vC,mask,wY,place,xV,wZ,xZ,hit,inL,xK,ren,nrH,nrB,rZ,Bool.or_false,Bool.or_true,Bool.true_or,Bool.false_and,Nat.sub_self,Nat.add_zero,Nat.zero_add,Nat.reduceSub,Nat.lt_add_one]
        refine ⟨by omega,by omega,by omega,?_⟩
        refine conv_two (by omega) fun x y hx hy=>?_
        unfold gB kD bN wL
        by_cases hxp:x < p
        ·rw [if_neg (by omega),if_neg (by omega),if_pos hxp,if_pos hxp]
        ·by_cases hxm:x < p+m
         ·rw [if_neg (by omega),if_pos (by omega),if_neg hxp,if_pos hxm]
         ·rw [if_pos (by omega),if_neg hxp,if_neg hxm]
          congr 1
          omega
      ·obtain rfl:p=n:=by omega
       have hpq:((p:Int) == (p:Int))=true:=by simp
       by_cases hroom:p+m <= cap
       ·have hd1:decide (p+m <= cap)=true:=by simpa using hroom
        simp only [go_sem,Nat.reduceLeDiff,Nat.reduceAdd,qF,tM,lenS,cutS,evCap,jS,tik82_1,bEq,Option.isNone_some,Option.isSome_none,Option.isNone_none,Int.toNat_natCast,hm1,hpq,hd1,Nat.sub_zero]
        refine ⟨by omega,by omega,?_⟩
        refine conv_move (b:=0) rfl (by omega) (by omega) fun x y hx hy=>?_
        unfold gB bN
        by_cases hxp:x < p
        ·rw [if_neg (by omega),if_pos hxp]
        ·rw [if_pos (by omega),if_neg hxp,if_pos (by omega)]
         congr 1
         omega
       ·have hd1:decide (p+m <= cap)=false:=by simpa using hroom
        simp only [go_sem,Nat.reduceLeDiff,Nat.reduceAdd,qF,tM,lenS,cutS,evCap,jS,tik82_1,bEq,Option.isNone_some,Option.isSome_none,Option.isNone_none,Int.toNat_natCast,hm1,hpq,hd1,Nat.sub_zero]
        refine ⟨by omega,by omega,?_⟩
        refine conv_two (Nat.le_refl _) fun x y hx hy=>?_
        unfold kD bN wL
        by_cases hxp:x < p
        ·rw [if_pos hxp,if_pos hxp]
        ·rw [if_neg hxp,if_neg hxp,if_pos (by omega)]
   ·cases hc
  ·cases hc
 ·cases hc
theorem ok82:yU Try.prog 82 (insN 57 3):=insN_ok okF82
noncomputable def F40 (p0:TBuffer) (p1:Int):Option (TBuffer × Int) :=
 (F18 p0).bind fun r1=>bif (!bEq r1 0) then (some ((TBuffer.mk 0 0 [] []),r1)) else (bif ((bLt p1 1) || (bLt 255 p1)) then (some ((TBuffer.mk 0 0 [] []),2)) else ((F81 p0 p1).bind fun r5=>bif r5.2 then (some ((TBuffer.mk 0 0 [] []),20)) else (bif (bEq (p0.List.length:Nat) 32) then (some ((TBuffer.mk 0 0 [] []),22)) else ((F65 p0).bind fun r9=>need (insb r5.1 r9.List.length) <| (some ([(TSleeper.mk p1 false ([]:List TStored))])).bind fun w12=>(some (insL r9.List r5.1 ([(TSleeper.mk p1 false ([]:List TStored))]))).bind fun w14=>some ((TBuffer.mk r9.Limit r9.Stay w14 r9.Group),0)))))
noncomputable def body40d (l:List AV) (s:Nat):AR:=GP (dC yK (dC (dI .i64) dN)) (fun p=>F40 p.1 p.2.1) (fun r=>.tup [.agg [.int .i64 ((r.1).Limit),.int .i64 ((r.1).Stay),.ro 3 (((r.1).List).length) false (enR zT ((r.1).List)),.ro 43 (((r.1).Group).length) false (enR zJ ((r.1).Group))],.int .i64 (r.2)]) l s
attribute [go_sem] body40d
theorem ok40d:yU Try.prog 40 (xN body40d):=GPo (rs:=[.cell 4 25,.tmp 5]) Try.func40 (by kernel_rfl) rfl rfl Try.ntmps40 rn fun ⟨p0,p1,_⟩ r H=>by
 have C:=zE ok18 <| zE ok81 <| zE ok65d <| zE ok82 <| zU
 dsimp only [F40] at H
 refine st ?_
 refine ds1 ?_
 intro r1 E G B H
 refine ds1 ?_
 intro r5 E G B H
 refine ds1 ?_
 intro r9 E G B H
 refine rg C ?_
 simp only [go_sem,Nat.reduceLT,Nat.reduceAdd,Nat.reduceBEq,E]
 repeat ((with_reducible refine aI ?_ ?_);exact an0)
 refine rb ?_
 simp only [rL0,rL1,rH0,rH1,rBl,dE,bH,cU,bI,r_sl,bG,bJ,r_opt,r_z,rBs,rBq,xP,xW,wQ,wE]
 refine zZ ?_
 refine jB ?_
 refine xS zO zA 5 ?_
 simp only [zK,tS,tZ,dSl,dZ,go_sem,Nat.reduceLeDiff,Nat.reduceLT,Nat.reduceAdd]
 repeat ((with_reducible refine aI ?_ ?_);exact an4)
 refine subO (t2:=(.agg [.int .i64 p0.Limit,.int .i64 p0.Stay,.top,.top]::.int .i64 p1::.ptr 0 0 0 0::.top::.ptr 1 0 0 0::.int .i64 0::.int .i64 r1::.int .i64 r5.1::.bool r5.2::.agg [.int .i64 p0.Limit,.int .i64 p0.Stay,.top,.top]::.int .i64 r1::.int .i64 r1::.bool (!bEq r1 0)::.top::.top::.int .i64 p1::.bool (bLt p1 1)::.bool (bLt p1 1)::.opt (!(bLt p1 1)) (.int .i64 p1)::.opt (!(bLt p1 1)) (.bool (bLt 255 p1))::.bool ((bLt p1 1) || (bLt 255 p1))::.top::.tup [.int .i64 r5.1,.bool r5.2]::.agg [.int .i64 p0.Limit,.int .i64 p0.Stay,.top,.top]::.int .i64 p1::.tup [.int .i64 r5.1,.bool r5.2]::.int .i64 r5.1::.bool r5.2::.bool r5.2::.bool r5.2::.top::.bool (bEq (p0.List.length:Nat) 32)::.ptr 0 0 0 2::.top::.int .i64 (p0.List.length:Nat)::.bool (bEq (p0.List.length:Nat) 32)::.top::.agg [.int .i64 p0.Limit,.int .i64 p0.Stay,.top,.top]::.agg [.int .i64 r9.Limit,.int .i64 r9.Stay,.sl 2 3 0 r9.List.length false,.sl 3 43 0 r9.Group.length false]::.ptr 0 0 0 2::.sl 2 3 0 r9.List.length false::.int .i64 r5.1::.int .i64 p1::.agg [.int .i64 p1,.bool false,.ro 43 (([]:List TStored).length) false (enR zD ([]:List TStored))]::tp 4 [])) (h2:=[.lit 25 [.int .i64 r9.Limit,.int .i64 r9.Stay,.sl 2 3 0 r9.List.length false,.sl 3 43 0 r9.Group.length false],.lit 25 [.int .i64 0,.int .i64 0,.ro 0 0 true (fun _ _=>.top),.ro 0 0 true (fun _ _=>.top)],.row 57 3 r9.List.length (enR zC r9.List),.row 61 43 r9.Group.length (enR zD r9.Group)]) ?_ ?_
 ·have E:=E
  have B:=B
  exact dr
 simp only [tp]
 obtain ⟨f11,H⟩:=zN.1 H
 replace f11:=insb_iff.1 f11
 refine xS zO C 4 ?_
 simp only [zK,tS,tZ,dSl,dZ,go_sem,Nat.reduceLeDiff,Nat.reduceAdd,Nat.reduceEqDiff,Nat.reduceBEq,insN,f11]
 repeat ((with_reducible refine aI ?_ ?_);exact an4)
 refine vN ?_
 refine zZ ?_
 obtain ⟨w12,hw13,H⟩:=bsi H
 replace hw13:=Option.some.inj hw13
 have lhw13:w12.length=1:=by rw [← hw13];exact cl
 obtain ⟨w14,hw15,H⟩:=bsi H
 replace hw15:=Option.some.inj hw15
 have lhw15:w14.length=r9.List.length+1:=by rw [← hw15];exact (ins_len f11 cl)
 refine vE (t2:=(.top::.top::.ptr 0 0 0 0::.top::.ptr 1 0 0 0::tp 43 [])) (h2:=[.lit 25 [.int .i64 r9.Limit,.int .i64 r9.Stay,.sl 5 3 0 w14.length false,.sl 3 43 0 r9.Group.length false],.lit 25 [.int .i64 0,.int .i64 0,.ro 0 0 true (fun _ _=>.top),.ro 0 0 true (fun _ _=>.top)],.dead,.row 61 43 r9.Group.length (enR zD r9.Group),.row 57 3 w12.length (enR zC w12),.row 57 3 w14.length (enR zC w14)]) ?_ ?_
 ·refine yH ⟨[some 0,some 1,some 2,some 3,some 4,some 5],?_,?_,by rfl,by rfl⟩
  ·simp [CvL,Cv,zQ,tp]
  ·exact ⟨(by simp [CvB,CvL,Cv,yN,geth,zQ,lhw15]),(by simp [CvB,CvL,Cv,yN,geth]),zH,zW yQ rfl (fun _ _ _ _=>rfl),zW zG lhw13 (hw13 ▸ (xR (f:=zC) ([(TSleeper.mk p1 false ([]:List TStored))]) (fun _ _=>rfl) rfl)),zW zG lhw15 (hw15 ▸ (ins_row f11 cl (fun _ _ _ _=>rfl) (xR (f:=zC) ([(TSleeper.mk p1 false ([]:List TStored))]) (fun _ _=>rfl) rfl))),trivial⟩
 simp only [tp]
 have E:=And.intro f11 (And.intro E.1 (And.intro E.2.1 (E.2.2.1)))
 have B:=And.intro B.1 (And.intro B.2.1 (And.intro B.2.2.1 (B.2.2.2.1)))
 exact dr
noncomputable def cC (p0:List TStored) (v1_1:List TFrame) (v1_2:Int):Option (Lp ((List TFrame) × Int) ((List TFrame) ⊕ (List TFrame))) :=
 bif (bLt v1_2 (p0.length:Nat)) then (need (inb v1_2 p0.length) <| need (capb 104 (v1_1.length+1)) <| some (.next ((v1_1 ++ [(eF ((gd p0 v1_2.toNat).Frame))]),wr .i64 (v1_2+1)))) else (some (.done (.inl v1_1)))
noncomputable def F53 (p0:List TStored):Option (List TFrame) :=
 lp (loopD (fun s=>cC p0 s.1 s.2) ([],0)) (fun w1_3=>some w1_3) some
noncomputable def body53 (l:List AV) (s:Nat):AR:=GH (dC xI dN) (fun p=>F53 p.1) (fun r s=>.sl s 41 0 (r.length) false) (fun r=>[.row 33 41 (r.length) (enR zI r)]) l s
attribute [go_sem] body53
noncomputable instance lt_F53_L1 {p0:List TStored}:LT (fun s=>cC p0 s.1 s.2):=⟨(fun _ _ (s:(List TFrame) × Int)=>(.top::.top::.sl 0 41 0 s.1.length false::.top::.top::.ro 43 p0.length false (enR zD p0)::.int .i64 (p0.length:Nat)::.int .i64 s.2::tp 10 [])),(fun _ _ s=>[.row 33 41 s.1.length (enR zI s.1)]),(fun _ _ (e:List TFrame)=>(.top::.top::.sl 0 41 0 e.length false::tp 15 [])),(fun _ _ e=>[.row 33 41 e.length (enR zI e)]),_,fun s=>cC.eq_1 _ _ _⟩
theorem ok53:yU Try.prog 53 (xN body53):=GHo (rs:=[.tmp 2]) Try.func53 (by kernel_rfl) rfl rfl Try.ntmps53 rh fun ⟨p0,_⟩ r H=>by
 have C:=zA
 dsimp only [F53] at H
 exact dq
noncomputable def F84_0 (p0:TSleeper) (p1:Int):Option (Bool) :=
 some (bEq p0.Aid p1)
noncomputable def body84_0 (l:List AV):AR:=PP (dC qL (dC dr_i64 dN)) (fun p=>F84_0 p.1 p.2.1) (fun r=>.bool r) l
attribute [go_sem] body84_0
theorem ok84_0:yU Try.prog 84 (yR body84_0):=PPo (rs:=[.tmp 3]) Try.func84 (by kernel_rfl) rfl rfl Try.ntmps84 (fun _=>rfl) fun ⟨p0,p1,_⟩ r H=>by
 have C:=zA
 dsimp only [F84_0] at H
 exact dq
noncomputable def F106_1_L1 (p0:List TSleeper) (p1:Int) (v1_1:Int):Option (Lp (Int) ((Unit) ⊕ (Int))) :=
 bif (bLt v1_1 (p0.length:Nat)) then (need (inb v1_1 p0.length) <| (F84_0 (gd p0 v1_1.toNat) p1).bind fun r3=>bif r3 then (some (.done (.inr v1_1))) else (some (.next (wr .i64 (v1_1+1))))) else (some (.done (.inl ())))
noncomputable def F106_1 (p0:List TSleeper) (p1:Int):Option (Int) :=
 lp (loopD (fun s=>F106_1_L1 p0 p1 s) 0) (fun _=>some (-1)) some
noncomputable def body106_1 (l:List AV):AR:=PP (dC qM (dC (dF 84 (dC dr_i64 dN) (lC1 lN0)) dN)) (fun p=>F106_1 p.1 p.2.1.1) (fun r=>.int .i64 r) l
attribute [go_sem] body106_1
noncomputable instance lt_F106_1_L1 {p0:List TSleeper} {p1:Int}:LT (fun s=>F106_1_L1 p0 p1 s):=⟨(fun _ _ (s:Int)=>(.ro 3 p0.length false (enR zC p0)::.fn 84 [.rptr 1 1 0 0 (enR qI [p1])]::tp 5 (.int .i64 (p0.length:Nat)::.int .i64 s::tp 10 []))),(fun _ _ s=>[]),(fun _ _ (e:Unit)=>(tp 19 [])),(fun _ _ e=>[]),_,fun s=>F106_1_L1.eq_1 _ _ _⟩
theorem ok106_1:yU Try.prog 106 (yR body106_1):=PPo (rs:=[.tmp 4]) Try.func106 (by kernel_rfl) rfl rfl Try.ntmps106 (fun _=>rfl) fun ⟨p0,⟨p1,_⟩,_⟩ r H=>by
 have C:=zE ok84_0 <| zU
 dsimp only [F106_1] at H
 exact dq
noncomputable def F83_0_L1 (p1:Int) (v1_1:List TSleeper) (v1_2:Int) (v1_3:Int):Option (Lp ((List TSleeper) × Int × Int) (((List TSleeper) × Int) ⊕ (List TSleeper))) :=
 bif (bLt v1_3 (v1_1.length:Nat)) then (need (inb v1_3 v1_1.length) <| (F84_0 (gd v1_1 v1_3.toNat) p1).bind fun r6=>bif (!r6) then (need (inb v1_2 v1_1.length) <| some (.next ((v1_1.set v1_2.toNat (gd v1_1 v1_3.toNat)),wr .i64 (v1_2+1),wr .i64 (v1_3+1)))) else (some (.next (v1_1,v1_2,wr .i64 (v1_3+1))))) else (some (.done (.inl (v1_1,v1_2))))
noncomputable def F83_0 (p0:List TSleeper) (p1:Int):Option (List TSleeper) :=
 (F106_1 p0 p1).bind fun r1=>bif (bEq r1 (-1)) then (some p0) else (lp (loopD (fun s=>F83_0_L1 p1 s.1 s.2.1 s.2.2) (p0,r1,wr .i64 (r1+1))) (fun e1=>need (slb e1.2 (e1.1.length:Nat) e1.1.length) <| need (slb 0 e1.2 e1.1.length) <| some (List.take e1.2.toNat e1.1)) some)
noncomputable def body83_0:List AV->List ABlk->ED
 | [v0,.fn 84 [v1]],h=>.ed [slN v0] (oS 57 3 h v0/\lK xU 3 (roW h v0)/\rK 1 k_i64 v1/\(F83_0 (lA yS (roW h v0)) (g_i64 (rG v1))).isSome=true) (.sl 1 3 0 ((gt (F83_0 (lA yS (roW h v0)) (g_i64 (rG v1)))).length) false) [.dead,.row 57 3 ((gt (F83_0 (lA yS (roW h v0)) (g_i64 (rG v1)))).length) (enR zC (gt (F83_0 (lA yS (roW h v0)) (g_i64 (rG v1)))))]
 | _,_=>.fail
attribute [go_sem] body83_0
noncomputable instance lt_F83_0_L1 {p1:Int}:LT (fun s=>F83_0_L1 p1 s.1 s.2.1 s.2.2):=⟨(fun _ _ (s:(List TSleeper) × Int × Int)=>(.sl 1 3 0 s.1.length false::.fn 84 [.rptr 1 1 0 0 (enR qI [p1])]::.top::.top::.top::.int .i64 s.2.1::.int .i64 s.2.2::tp 35 [])),(fun _ _ s=>[.dead,.row 57 3 s.1.length (enR zC s.1)]),(fun _ _ (e:(List TSleeper) × Int)=>(.sl 1 3 0 e.1.length false::tp 4 (.int .i64 e.2::tp 36 []))),(fun _ _ e=>[.dead,.row 57 3 e.1.length (enR zC e.1)]),_,fun s=>F83_0_L1.eq_1 _ _ _ _⟩
theorem ok83_0:yU Try.prog 83 (edC body83_0):=by
 refine edit_fnM body83_0 (rs:=[.tmp 4]) Try.func83 (by kernel_rfl) rfl rfl ?_
 intro l h bs ob q0 g0 hb hob
 unfold body83_0 at hb
 split at hb
 ·rename_i v0 v1
  injection hb with q1 q2 q3 q4;subst q1 q2 q3 q4
  obtain ⟨hk0_0,hk0_1,hk1_0,hob⟩:=hob
  obtain ⟨r,H⟩:=oE.1 hob
  rw [H,gt_some]
  obtain ⟨p0,hp0⟩:∃ p0,p0=lA yS (roW h v0):=⟨_,rfl⟩
  rw [← hp0] at H
  obtain ⟨ev0,eb0⟩:=own_row2 (f:=zC) (g:=yS) (bs:=[slN v0]) (i:=0) (fun hr=>fL hr) hk0_0 hk0_1 (L:=p0) (by rw [hp0]) rfl
  have hw1:=rK_wk (f:=qI) (g:=g_i64) (fun r h=>w_i64 h) hk1_0
  obtain ⟨p1,hp_p1⟩:∃ p1,p1=g_i64 (rG v1):=⟨_,rfl⟩
  rw [← hp_p1] at H hw1
  refine ⟨[.sl 0 3 0 p0.length false,.fn 84 [.rptr 1 1 0 0 (enR qI [p1])]],[.row 57 3 p0.length (enR zC p0)],rfl,⟨ev0,⟨(EV_fn ⟨(EV_wk hw1),trivial⟩),trivial⟩⟩,⟨eb0,trivial⟩,⟨trivial,⟨(nfB_en zG),trivial⟩⟩,?_⟩
  rw [Try.ntmps83]
  simp only [lCl,lNl,Nat.reduceAdd,Nat.reduceSub,rS,rZ,aC,aN]
  unfold F83_0 at H
  try dsimp only at H
  have C:=zE ok106_1 <| zE ok84_0 <| zU
  refine ds1 ?_
  intro r1 E G B H
  refine rg C ?_
  simp only [go_sem,Nat.reduceLT,Nat.reduceBEq,E]
  repeat ((with_reducible refine aI ?_ ?_);exact an0)
  refine zZ ?_
  refine sq zA ?_
  simp only [go_sem]
  refine yX rfl trivial (fun hc=>?_) (fun hc=>?_)
  ·have E:=E
   have B:=B
   exact dr
  have hk3:(bEq r1 (-1))=false:=by simpa using hc
  replace H:=yM hc H
  refine rg zA ?_
  simp only [go_sem]
  refine zZ ?_
  refine sq zA ?_
  simp only [go_sem]
  refine uJ ?_
  refine wX (fun s:(List TSleeper) × Int × Int=>(.sl 1 3 0 s.1.length false::.fn 84 [.rptr 1 1 0 0 (enR qI [p1])]::.top::.top::.top::.int .i64 s.2.1::.int .i64 s.2.2::tp 35 [])) (fun s=>[.dead,.row 57 3 s.1.length (enR zC s.1)]) (fun e:(List TSleeper) × Int=>(.sl 1 3 0 e.1.length false::tp 4 (.int .i64 e.2::tp 36 []))) (fun e=>[.dead,.row 57 3 e.1.length (enR zC e.1)]) H ?_ (fun s o H hn1_1 hn2_1=>?_) (fun e H=>?_)
  ·have E:=E
   have B:=And.intro hk3 (B)
   exact dr
  ·obtain ⟨v1_1,v1_2,v1_3⟩:=s
   unfold F83_0_L1 at H
   try dsimp only at H ⊢
   try simp only [tp]
   have E:=E
   have B:=And.intro hk3 (B)
   exact dr
  ·obtain ⟨w1_4,w1_5⟩:=e
   try dsimp only at H ⊢
   try simp only [tp]
   try simp only [wJ]
   refine zZ ?_
   obtain ⟨f10,H⟩:=zN.1 H
   replace f10:=slb_iff.1 f10
   refine rg zA ?_
   simp only [go_sem,Nat.reduceLeDiff,Nat.reduceAdd,f10]
   repeat ((with_reducible refine aI ?_ ?_);exact an4)
   refine zZ ?_
   obtain ⟨f11,H⟩:=zN.1 H
   replace f11:=slb_iff.1 f11
   refine rg zA ?_
   simp only [go_sem,f11]
   repeat ((with_reducible refine aI ?_ ?_);exact an5)
   refine rg zA ?_
   simp only [go_sem]
   obtain rfl:=Option.some.inj H
   refine RetE_mk [] [some 0,some 1] ?_ ?_ ?_ ?_ (by rfl) (by rfl)
   ·simp only [go_sem]
    try exact at0
   ·simp only [go_sem]
    try exact at0
   ·simp only [go_sem]
    exact (by first|(simp [Cv,zQ,(show (List.take w1_5.toNat w1_4).length=w1_5.toNat from tI (n:=w1_4.length) cl (by omega))];done)|(simp [Cv,CvL,zQ,gt_some,(show (List.take w1_5.toNat w1_4).length=w1_5.toNat from tI (n:=w1_4.length) cl (by omega))];omega))
   ·simp only [go_sem,CvH]
    first|exact ⟨zH,(CvB_pre zG (by rw [show (List.take w1_5.toNat w1_4).length=w1_5.toNat from tI (n:=w1_4.length) cl (by omega)];omega) (clr_row (fun _ _ _ _=>rfl)))⟩|trivial
 ·cases hb
noncomputable def F42 (p0:TBuffer) (p1:Int):Option ((List TFrame) × TBuffer × Int) :=
 (F18 p0).bind fun r1=>bif (!bEq r1 0) then (some ([],(TBuffer.mk 0 0 [] []),r1)) else (bif ((bLt p1 1) || (bLt 255 p1)) then (some ([],(TBuffer.mk 0 0 [] []),2)) else ((F81 p0 p1).bind fun r5=>bif (!r5.2) then (some ([],(TBuffer.mk 0 0 [] []),6)) else ((F65 p0).bind fun r8=>need (inb r5.1 r8.List.length) <| (F53 ((gd r8.List r5.1.toNat).Held)).bind fun r11=>(F83_0 r8.List p1).bind fun r13=>(F47 (TBuffer.mk r8.Limit r8.Stay r13 r8.Group)).bind fun r15=>bif (!r15) then ((F53 r8.Group).bind fun r18=>need (capb 104 (r11.length+r18.length)) <| some ((r11 ++ r18),(TBuffer.mk r8.Limit r8.Stay r13 []),0)) else (need (capb 104 r11.length) <| (some (r11 ++ ([]:List TFrame))).bind fun w22=>some (w22,(TBuffer.mk r8.Limit r8.Stay r13 r8.Group),0)))))
noncomputable def body42d (l:List AV) (s:Nat):AR:=GP (dC yK (dC (dI .i64) dN)) (fun p=>F42 p.1 p.2.1) (fun r=>.tup [.ro 41 ((r.1).length) false (enR yD (r.1)),.agg [.int .i64 ((r.2.1).Limit),.int .i64 ((r.2.1).Stay),.ro 3 (((r.2.1).List).length) false (enR zT ((r.2.1).List)),.ro 43 (((r.2.1).Group).length) false (enR zJ ((r.2.1).Group))],.int .i64 (r.2.2)]) l s
attribute [go_sem] body42d
noncomputable instance fi_ok42d_51:FI 51:=⟨_,_,[.tmp 4,.tmp 5,.tmp 6],_,Try.func51,by kernel_rfl,rfl,rfl,Try.ntmps51⟩
noncomputable instance fi_ok42d_54:FI 54:=⟨_,_,[.tmp 2],_,Try.func54,by kernel_rfl,rfl,rfl,Try.ntmps54⟩
theorem ok42d:yU Try.prog 42 (xN body42d):=GPo (rs:=[.tmp 4,.cell 5 25,.tmp 6]) Try.func42 (by kernel_rfl) rfl rfl Try.ntmps42 rn fun ⟨p0,p1,_⟩ r H=>by
 have C:=zE ok18 <| zE ok81 <| zE ok65d <| zE ok53 <| zE ok83_0 <| zE ok47 <| zU
 dsimp only [F42] at H
 refine st ?_
 refine sq zA ?_
 simp only [go_sem,Nat.reduceAdd]
 refine zZ ?_
 refine jB ?_
 refine xS zO zA 2 ?_
 simp only [zK,tS,tZ,dSl,dZ,go_sem,Nat.reduceLT,Nat.reduceAdd]
 repeat ((with_reducible refine aI ?_ ?_);exact an0)
 refine cM (rs:=[.tmp 4,.tmp 5,.tmp 6]) Try.func51 (by kernel_rfl) rfl rfl Try.ntmps51 (caps:=[]) (tc:=[.agg [.int .i64 p0.Limit,.int .i64 p0.Stay,.ro 3 p0.List.length false (enR zC p0.List),.ro 43 p0.Group.length false (enR zD p0.Group)],.int .i64 p1]) rfl (by simp only [go_sem]) rfl ?_
 simp only [lCl,lNl,Nat.reduceAdd,Nat.reduceSub,rS,rZ,aC,aN]
 refine sq zA ?_
 simp only [go_sem,Nat.reduceAdd]
 refine zZ ?_
 refine zZ ?_
 obtain ⟨r1,e2,H⟩:=bsi H
 refine rg C ?_
 simp only [go_sem,Nat.reduceLT,Nat.reduceAdd,Nat.reduceBEq,e2]
 repeat ((with_reducible refine aI ?_ ?_);exact an0)
 refine sq zA ?_
 simp only [go_sem]
 refine yX rfl trivial (fun hc=>?_) (fun hc=>?_)
 ·have E:=e2
  exact dr
 have hk3:(bEq r1 0)=true:=by simpa using hc
 replace H:=yM hc H
 refine rg zA ?_
 simp only [go_sem]
 refine zZ ?_
 refine sq zA ?_
 simp only [go_sem]
 repeat ((with_reducible refine aI ?_ ?_);exact an5)
 refine yX rfl trivial (fun hc=>?_) (fun hc=>?_)
 ·have E:=e2
  have B:=hk3
  exact dr
 have hk4:((bLt p1 1) || (bLt 255 p1))=false:=by simpa using hc
 replace H:=yM hc H
 refine rg zA ?_
 simp only [go_sem]
 refine zZ ?_
 obtain ⟨r5,e6,H⟩:=bsi H
 refine rg C ?_
 simp only [go_sem,Nat.reduceLT,Nat.reduceAdd,Nat.reduceBEq,e6]
 repeat ((with_reducible refine aI ?_ ?_);exact an0)
 refine zZ ?_
 refine sq zA ?_
 simp only [go_sem]
 refine yX rfl trivial (fun hc=>?_) (fun hc=>?_)
 ·have E:=And.intro e6 (e2)
  have B:=And.intro hk4 (hk3)
  exact dr
 have hk7:(r5.2)=true:=by simpa using hc
 replace H:=yM hc H
 refine rg zA ?_
 simp only [go_sem]
 refine zZ ?_
 obtain ⟨r8,e9,H⟩:=bsi H
 refine rg C ?_
 simp only [go_sem,Nat.reduceLT,Nat.reduceAdd,Nat.reduceBEq,e9]
 repeat ((with_reducible refine aI ?_ ?_);exact an0)
 refine zZ ?_
 obtain ⟨f10,H⟩:=zN.1 H
 replace f10:=xD.1 f10
 refine qE zO zA (by kernel_rfl) (by kernel_rfl) ?_
 simp only [go_sem,Nat.reduceLeDiff,Nat.reduceLT,Nat.reduceAdd,f10]
 repeat ((with_reducible refine aI ?_ ?_);exact an5)
 refine rg zA ?_
 simp only [go_sem]
 refine xS zO zA 7 ?_
 simp only [zK,tS,tZ,dSl,dZ,go_sem,Nat.reduceLT,Nat.reduceAdd]
 repeat ((with_reducible refine aI ?_ ?_);exact an0)
 refine vN ?_
 refine rb ?_
 simp only [rL0,rL1,rH0,rH1,rBl,dE,bH,bI,r_sl,bG,bJ,r_z,rBs,rBq,vJ,xP,xW,wQ,wE]
 refine zZ ?_
 refine sq zA ?_
 simp only [go_sem,(by decide:bEq (0) (0)=true)]
 refine yX rfl trivial (fun hc=>?_) (fun hc=>?_)
 ·cases hc
 refine rg zA ?_
 simp only [go_sem]
 refine zZ ?_
 obtain ⟨r11,e12,H⟩:=bsi H
 refine rg C ?_
 simp only [go_sem,Nat.reduceLT,Nat.reduceAdd,Nat.reduceBEq,e12]
 repeat ((with_reducible refine aI ?_ ?_);exact an0)
 refine zZ ?_
 refine jG [1] ?_ ?_
 ·simp only [go_sem,Nat.reduceBEq]
  try exact at0
 simp only [go_sem,Nat.reduceBEq,Nat.reduceAdd]
 have E:=And.intro e12 (And.intro f10 (And.intro e9 (And.intro e6 (e2))))
 have B:=And.intro hk7 (And.intro hk4 (hk3))
 refine ds1 ?_
 intro r13 E G B H
 refine ds1 ?_
 intro r15 E G B H
 refine rg C ?_
 simp only [go_sem,Nat.reduceLT,Nat.reduceAdd,Nat.reduceBEq,E]
 repeat ((with_reducible refine aI ?_ ?_);exact an0)
 refine yX rfl trivial (fun hc=>?_) (fun hc=>?_)
 ·have hk17:(r15)=false:=by simpa using hc
  replace H:=xH hc H
  refine jG [5] ?_ ?_
  ·simp only [go_sem,Nat.reduceBEq]
   try exact at0
  simp only [go_sem,Nat.reduceBEq,Nat.reduceAdd]
  have E:=And.intro e12 (And.intro f10 (And.intro e9 (And.intro e6 (And.intro e2 (E)))))
  have B:=And.intro hk17 (And.intro hk7 (And.intro hk4 (And.intro hk3 (B))))
  exact dr
 have hk17:(r15)=true:=by simpa using hc
 replace H:=yM hc H
 refine rg zA ?_
 simp only [go_sem]
 refine sq zA ?_
 simp only [go_sem]
 refine rg zA ?_
 simp only [go_sem]
 obtain ⟨f21,H⟩:=zN.1 H
 replace f21:=capb_iff.1 f21
 refine xS zO zA 2 ?_
 simp only [zK,tS,tZ,dSl,dZ,go_sem,Nat.reduceLeDiff,Nat.reduceAdd,reduceCtorEq,f21]
 repeat ((with_reducible refine aI ?_ ?_);exact an1)
 refine vN ?_
 refine zZ ?_
 obtain ⟨w22,hw23,H⟩:=bsi H
 replace hw23:=Option.some.inj hw23
 have lhw23:w22.length=r11.length:=by rw [← hw23];exact (by simp [(show ([]:List TFrame).length=0 from rfl)])
 refine vE (t2:=(tp 4 (.sl 8 41 0 w22.length false::.ptr 2 0 0 0::.top::.ptr 3 0 0 0::tp 34 []))) (h2:=[.lit 25 [.int .i64 p0.Limit,.int .i64 p0.Stay,.top,.top],.dead,.lit 25 [.int .i64 0,.int .i64 0,.ro 0 0 true (fun _ _=>.top),.ro 0 0 true (fun _ _=>.top)],.lit 25 [.int .i64 r8.Limit,.int .i64 r8.Stay,.sl 7 3 0 r13.length false,.sl 5 43 0 r8.Group.length false],.dead,.row 61 43 r8.Group.length (enR zD r8.Group),.dead,.row 57 3 r13.length (enR zC r13),.row 33 41 w22.length (enR zI w22)]) ?_ ?_
 ·refine yH ⟨[some 0,some 1,some 2,some 3,some 4,some 5,some 6,some 7,some 8],?_,?_,by rfl,by rfl⟩
  ·simp [CvL,Cv,zQ,tp,lhw23]
  ·exact ⟨(by simp [CvB,CvL,Cv,yN,geth]),zH,(by simp [CvB,CvL,Cv,yN,geth]),(by simp [CvB,CvL,Cv,yN,geth,zQ]),zH,zW yQ rfl (fun _ _ _ _=>rfl),zH,zW zG rfl (fun _ _ _ _=>rfl),zW wR lhw23 (hw23 ▸ (vQ (f:=zI) r11 ([]:List TFrame) (fun _ _ _ _=>rfl) (fun x y hx=>absurd hx (by simp)))),trivial⟩
 simp only [tp]
 have E:=And.intro f21 (And.intro E.1 (And.intro E.2.1 (And.intro e12 (And.intro f10 (And.intro e9 (And.intro e6 (e2)))))))
 have B:=And.intro hk17 (And.intro hk7 (And.intro hk4 (hk3)))
 exact dr
noncomputable def F50 (p0:TBuffer) (p1:Int):Option (TBuffer × Int) :=
 (F18 p0).bind fun r1=>bif (!bEq r1 0) then (some ((TBuffer.mk 0 0 [] []),r1)) else (bif ((bLt p1 1) || (bLt 255 p1)) then (some ((TBuffer.mk 0 0 [] []),2)) else ((F81 p0 p1).bind fun r5=>bif (!r5.2) then (some ((TBuffer.mk 0 0 [] []),6)) else ((F65 p0).bind fun r8=>need (inb r5.1 r8.List.length) <| some ((TBuffer.mk r8.Limit r8.Stay (r8.List.set r5.1.toNat (TSleeper.mk ((gd r8.List r5.1.toNat).Aid) true ((gd r8.List r5.1.toNat).Held))) r8.Group),0))))
noncomputable def body50d (l:List AV) (s:Nat):AR:=GP (dC yK (dC (dI .i64) dN)) (fun p=>F50 p.1 p.2.1) (fun r=>.tup [.agg [.int .i64 ((r.1).Limit),.int .i64 ((r.1).Stay),.ro 3 (((r.1).List).length) false (enR zT ((r.1).List)),.ro 43 (((r.1).Group).length) false (enR zJ ((r.1).Group))],.int .i64 (r.2)]) l s
attribute [go_sem] body50d
noncomputable instance fi_ok50d_51:FI 51:=⟨_,_,[.tmp 4,.tmp 5,.tmp 6],_,Try.func51,by kernel_rfl,rfl,rfl,Try.ntmps51⟩
theorem ok50d:yU Try.prog 50 (xN body50d):=GPo (rs:=[.cell 4 25,.tmp 5]) Try.func50 (by kernel_rfl) rfl rfl Try.ntmps50 rn fun ⟨p0,p1,_⟩ r H=>by
 have C:=zE ok18 <| zE ok81 <| zE ok65d <| zU
 dsimp only [F50] at H
 exact dq
end Go.Proofs.Ytefiemaoacmdkaa
