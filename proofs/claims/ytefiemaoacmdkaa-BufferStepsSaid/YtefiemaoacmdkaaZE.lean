/-
  Contracts of functions: each computes its partial function.
-/
import Derived.Test.YtefiemaoacmdkaaZEp2
import Derived.Test.YtefiemaoacmdkaaZEp5
import Derived.Test.YtefiemaoacmdkaaZEp6
import Derived.Test.YtefiemaoacmdkaaZEp7
namespace Go.Proofs.Ytefiemaoacmdkaa
open Go.Am
set_option maxHeartbeats 4000000
set_option maxRecDepth 20000
set_option linter.unusedVariables false
set_option linter.unusedSimpArgs false
theorem rowT {c:Code} {K:Kt} {t:List AV} {h:List ABlk} (i:Nat) {e:TypeId} {es n:Nat} {C:Nat->Nat->AV} (C':Nat->Nat->AV) (hb:h[i]? = some (.row e es n C)) (hc:∀ x y,x < n->y < es->C' x y=C x y) (hm:Mean Try.prog c K t (h.set i (.row e es n C'))):Mean Try.prog c K t h:=by
 intro E a Q H F hd hQ
 have hi:i < h.length:=by
  rcases Nat.lt_or_ge i h.length with q|q
  ·exact q
  ·rw [List.getElem?_eq_none q] at hb;cases hb
 have gt:∀ {b:Nat} {x:ABlk},(h.set i (.row e es n C'))[b]? = some x->(b=i/\x = .row e es n C') ∨ (b ≠ i/\h[b]? = some x):=by
  intro b x q
  by_cases hbi:b=i
  ·subst hbi;rw [List.getElem?_set_self hi] at q;exact .inl ⟨rfl,(Option.some.inj q).symm⟩
  ·rw [List.getElem?_set_ne (fun e=>hbi e.symm)] at q;exact .inr ⟨hbi,q⟩
 have gg:∀ {b:Nat} {x:ABlk},(h.set i (.row e es n C'))[b]? = some x->x ≠ .dead->∃ y,h[b]? = some y/\y ≠ .dead:=by
  intro b x q hx
  rcases gt q with ⟨rfl,rfl⟩|⟨_,q⟩
  ·exact ⟨_,hb,fun e=>by cases e⟩
  ·exact ⟨x,q,hx⟩
 have ow:∀ k,Own E (h.set i (.row e es n C')) k->Own E h k:=by
  rintro k ⟨b,x,o,q1,q2,q3⟩
  obtain ⟨y,r1,r2⟩:=gg q1 q2
  exact ⟨b,y,o,r1,r2,q3⟩
 have H2:HR E (h.set i (.row e es n C')):=by
  refine ⟨fun b x q=>?_,fun b b' x x' k o o' g1 g2 g3 g4 g5 g6=>?_,fun k hk=>⟨(H.prot k hk).1,fun ho=>(H.prot k hk).2 (ow k ho)⟩,fun b q=>H.fresh b (by simpa using q),H.lo⟩
  ·rcases gt q with ⟨rfl,rfl⟩|⟨_,q⟩
   ·have q:=H.blk b _ hb
    unfold BR at q ⊢
    cases hs:E.σ b with
    | none=>rw [hs] at q;exact q
    | some r =>
     obtain ⟨k,o⟩:=r
     rw [hs] at q
     obtain ⟨cs,h1,h2,h3⟩:=q
     exact ⟨cs,h1,h2,fun x y hx hy=>by rw [hc x y hx hy];exact h3 x y hx hy⟩
   ·exact H.blk b x q
  ·obtain ⟨y,r1,r2⟩:=gg g1 g2
   obtain ⟨z,r3,r4⟩:=gg g3 g4
   exact H.inj b b' y z k o o' r1 r2 r3 r4 g5 g6
 refine hm E a Q H2 F hd fun ex E' a' t' h' hk X H' F' hd'=>hQ ex E' a' t' h' hk ⟨X.os,X.tape,X.output,X.σ,X.prot,X.size,X.kind,fun k q ho=>X.frame k q fun w=>ho (ow k w),fun k q=>(X.own k q).imp (ow k) id,by have:=X.len;simpa using this,fun b q=>X.old b (by simpa using q),fun k q=>(X.pro k q).imp id fun q=>q.imp (ow k) id,X.lo,X.wr⟩ H' F' hd'
noncomputable def F31 (p0:TBuffer) (p1:TStep):Option ((List TFrame) × (List TFrame) × TBuffer × Int) :=
 bif (bEq p1.Kind 0) then ((F40 p0 p1.Aid).bind fun r2=>some ([],[],r2.1,r2.2)) else (bif (bEq p1.Kind 1) then ((F42 p0 p1.Aid).bind fun r5=>some ([],r5.1,r5.2.1,r5.2.2)) else (bif (bEq p1.Kind 2) then ((F50 p0 p1.Aid).bind fun r8=>some ([],[],r8.1,r8.2)) else (bif (bEq p1.Kind 3) then ((F21 p0 p1.Aid).bind fun r11=>some (r11.1,[],r11.2.1,r11.2.2)) else (bif (bEq p1.Kind 4) then ((F24 p0 p1.Aid p1.Cat p1.Frame p1.Now).bind fun r14=>some (r14.1,r14.2.1,r14.2.2.1,r14.2.2.2)) else (bif (bEq p1.Kind 5) then ((F41 p0 p1.Frame p1.Now).bind fun r17=>some (r17.1,r17.2.1,r17.2.2.1,r17.2.2.2)) else (bif (bEq p1.Kind 6) then ((F23 p0 p1.Aid).bind fun r20=>bif (bEq r20.2.2 0) then (some ([r20.1],[],r20.2.1,r20.2.2)) else (some ([],[],r20.2.1,r20.2.2))) else (bif (bEq p1.Kind 7) then ((F26 p0).bind fun r24=>some (r24.1,[],r24.2.1,r24.2.2)) else (bif (bEq p1.Kind 8) then ((F25 p0 p1.Now).bind fun r27=>some ([],r27.1,r27.2.1,r27.2.2)) else (some ([],[],(TBuffer.mk 0 0 [] []),2))))))))))
noncomputable def body31d (l:List AV) (s:Nat):AR:=GP (dC yK (dC da_TStep dN)) (fun p=>F31 p.1 p.2.1) (fun r=>.tup [.ro 41 ((r.1).length) false (enR yD (r.1)),.ro 41 ((r.2.1).length) false (enR yD (r.2.1)),.agg [.int .i64 ((r.2.2.1).Limit),.int .i64 ((r.2.2.1).Stay),.ro 3 (((r.2.2.1).List).length) false (enR zT ((r.2.2.1).List)),.ro 43 (((r.2.2.1).Group).length) false (enR zJ ((r.2.2.1).Group))],.int .i64 (r.2.2.2)]) l s
attribute [go_sem] body31d
theorem ok31d:yU Try.prog 31 (xN body31d):=GPo (rs:=[.tmp 4,.tmp 5,.cell 6 25,.tmp 7]) Try.func31 (by kernel_rfl) rfl rfl Try.ntmps31 rn fun ⟨p0,p1,_⟩ r H=>by
 have C:=zE ok40d <| zE ok42d <| zE ok50d <| zE ok21d <| zE ok24d <| zE ok41d <| zE ok23d <| zE ok26d <| zE ok25d <| zU
 dsimp only [F31] at H
 refine st ?_
 refine sq zA ?_
 simp only [go_sem,Nat.reduceLeDiff,Nat.reduceLT,Nat.reduceAdd,Nat.reduceMul,Nat.reduceSub,Nat.reduceEqDiff,Nat.reduceBEq,Int.reduceToNat,reduceCtorEq]
 refine sq zA ?_
 simp only [go_sem,Nat.reduceLeDiff,Nat.reduceLT,Nat.reduceAdd,Nat.reduceMul,Nat.reduceSub,Nat.reduceEqDiff,Nat.reduceBEq,Int.reduceToNat,reduceCtorEq]
 refine zZ ?_
 refine sq zA ?_
 simp only [go_sem,Nat.reduceLeDiff,Nat.reduceLT,Nat.reduceAdd,Nat.reduceMul,Nat.reduceSub,Nat.reduceEqDiff,Nat.reduceBEq,Int.reduceToNat,reduceCtorEq]
 repeat ((with_reducible refine aI ?_ ?_);exact an5)
 refine uJ ?_
 refine sq zA ?_
 simp only [go_sem,Nat.reduceLeDiff,Nat.reduceLT,Nat.reduceAdd,Nat.reduceMul,Nat.reduceSub,Nat.reduceEqDiff,Nat.reduceBEq,Int.reduceToNat,reduceCtorEq]
 refine yX rfl trivial (fun hc=>?_) (fun hc=>?_)
 ·exact dr
 have hk1:(bEq p1.Kind 0)=false:=by simpa using hc
 replace H:=yM hc H
 refine sq zA ?_
 simp only [go_sem,Nat.reduceLeDiff,Nat.reduceLT,Nat.reduceAdd,Nat.reduceMul,Nat.reduceSub,Nat.reduceEqDiff,Nat.reduceBEq,Int.reduceToNat,reduceCtorEq]
 refine yX rfl trivial (fun hc=>?_) (fun hc=>?_)
 ·have B:=hk1
  exact dr
 have hk4:(bEq p1.Kind 1)=false:=by simpa using hc
 replace H:=yM hc H
 refine sq zA ?_
 simp only [go_sem,Nat.reduceLeDiff,Nat.reduceLT,Nat.reduceAdd,Nat.reduceMul,Nat.reduceSub,Nat.reduceEqDiff,Nat.reduceBEq,Int.reduceToNat,reduceCtorEq]
 refine yX rfl trivial (fun hc=>?_) (fun hc=>?_)
 ·have B:=And.intro hk4 (hk1)
  exact dr
 have hk7:(bEq p1.Kind 2)=false:=by simpa using hc
 replace H:=yM hc H
 refine sq zA ?_
 simp only [go_sem,Nat.reduceLeDiff,Nat.reduceLT,Nat.reduceAdd,Nat.reduceMul,Nat.reduceSub,Nat.reduceEqDiff,Nat.reduceBEq,Int.reduceToNat,reduceCtorEq]
 refine yX rfl trivial (fun hc=>?_) (fun hc=>?_)
 ·have B:=And.intro hk7 (And.intro hk4 (hk1))
  exact dr
 have hk10:(bEq p1.Kind 3)=false:=by simpa using hc
 replace H:=yM hc H
 refine sq zA ?_
 simp only [go_sem,Nat.reduceLeDiff,Nat.reduceLT,Nat.reduceAdd,Nat.reduceMul,Nat.reduceSub,Nat.reduceEqDiff,Nat.reduceBEq,Int.reduceToNat,reduceCtorEq]
 refine yX rfl trivial (fun hc=>?_) (fun hc=>?_)
 ·have B:=And.intro hk10 (And.intro hk7 (And.intro hk4 (hk1)))
  exact dr
 have hk13:(bEq p1.Kind 4)=false:=by simpa using hc
 replace H:=yM hc H
 refine sq zA ?_
 simp only [go_sem,Nat.reduceLeDiff,Nat.reduceLT,Nat.reduceAdd,Nat.reduceMul,Nat.reduceSub,Nat.reduceEqDiff,Nat.reduceBEq,Int.reduceToNat,reduceCtorEq]
 refine yX rfl trivial (fun hc=>?_) (fun hc=>?_)
 ·have B:=And.intro hk13 (And.intro hk10 (And.intro hk7 (And.intro hk4 (hk1))))
  exact dr
 have hk16:(bEq p1.Kind 5)=false:=by simpa using hc
 replace H:=yM hc H
 refine sq zA ?_
 simp only [go_sem,Nat.reduceLeDiff,Nat.reduceLT,Nat.reduceAdd,Nat.reduceMul,Nat.reduceSub,Nat.reduceEqDiff,Nat.reduceBEq,Int.reduceToNat,reduceCtorEq]
 refine yX rfl trivial (fun hc=>?_) (fun hc=>?_)
 ·have hk19:(bEq p1.Kind 6)=true:=by simpa using hc
  replace H:=xH hc H
  refine zZ ?_
  obtain ⟨r20,e21,H⟩:=bsi H
  refine rg C ?_
  simp only [go_sem,Nat.reduceLeDiff,Nat.reduceLT,Nat.reduceAdd,Nat.reduceMul,Nat.reduceSub,Nat.reduceEqDiff,Nat.reduceBEq,Int.reduceToNat,reduceCtorEq,e21]
  repeat ((with_reducible refine aI ?_ ?_);exact an0)
  refine sq zA ?_
  simp only [go_sem,Nat.reduceLeDiff,Nat.reduceLT,Nat.reduceAdd,Nat.reduceMul,Nat.reduceSub,Nat.reduceEqDiff,Nat.reduceBEq,Int.reduceToNat,reduceCtorEq]
  repeat ((with_reducible refine aI ?_ ?_);exact an5)
  refine sq zA ?_
  simp only [go_sem,Nat.reduceLeDiff,Nat.reduceLT,Nat.reduceAdd,Nat.reduceMul,Nat.reduceSub,Nat.reduceEqDiff,Nat.reduceBEq,Int.reduceToNat,reduceCtorEq]
  refine condM' rfl trivial (fun hc=>?_) (fun hc=>?_)
  ·have E:=e21
   have B:=And.intro hk19 (And.intro hk16 (And.intro hk13 (And.intro hk10 (And.intro hk7 (And.intro hk4 (hk1))))))
   exact dr
  have hk22:(bEq r20.2.2 0)=true:=by simpa using hc
  replace H:=xH hc H
  refine rg zA ?_
  simp only [go_sem,Nat.reduceLeDiff,Nat.reduceLT,Nat.reduceAdd,Nat.reduceMul,Nat.reduceSub,Nat.reduceEqDiff,Nat.reduceBEq,Int.reduceToNat,reduceCtorEq]
  repeat ((with_reducible refine aI ?_ ?_);exact an5)
  refine rowT 5 (enR yD [r20.1]) rfl (dS ds_TFrame (xR (f:=tG) [r20.1] (fun _ _=>rfl) rfl)) ?_
  simp only [List.set_cons_succ,List.set_cons_zero]
  refine rb ?_
  simp only [rL0,rL1,rH0,rH1,rB0,rBl,dE,bH,cU,bI,r_rptr,r_sl,bG,bJ,r_fn,r_nilp,r_opt,r_z,rtp,rBs,rBq,rBf,rBu,rBo2,rs_r_u8,vJ,xP,xW,rs_a_u8,fZ,wQ,wE]
  have E:=e21
  have B:=And.intro hk22 (And.intro hk19 (And.intro hk16 (And.intro hk13 (And.intro hk10 (And.intro hk7 (And.intro hk4 (hk1)))))))
  exact dr
 have B:=And.intro hk16 (And.intro hk13 (And.intro hk10 (And.intro hk7 (And.intro hk4 (hk1)))))
 exact dr
noncomputable def F44 (p0:TFrame):Option (Bool) :=
 some (bLt 2400 (p0.Body.length:Nat))
noncomputable def body44 (l:List AV):AR:=PP (dC qK dN) (fun p=>F44 p.1) (fun r=>.bool r) l
attribute [go_sem] body44
theorem ok44:yU Try.prog 44 (yR body44):=PPo (rs:=[.tmp 2]) Try.func44 (by kernel_rfl) rfl rfl Try.ntmps44 (fun _=>rfl) fun ⟨p0,_⟩ r H=>by
 have C:=zA
 dsimp only [F44] at H
 exact dq
noncomputable def F43_L1 (p0:List TStored) (v1_1:Int):Option (Lp (Int) ((Unit) ⊕ (Bool))) :=
 bif (bLt v1_1 (p0.length:Nat)) then (need (inb v1_1 p0.length) <| (F44 (eF ((gd p0 v1_1.toNat).Frame))).bind fun r4=>bif r4 then (some (.done (.inr true))) else (some (.next (wr .i64 (v1_1+1))))) else (some (.done (.inl ())))
noncomputable def F43 (p0:List TStored):Option (Bool) :=
 bif (bLt 70 (p0.length:Nat)) then (some true) else (lp (loopD (fun s=>F43_L1 p0 s) 0) (fun _=>some false) some)
noncomputable def body43 (l:List AV):AR:=PP (dC xI dN) (fun p=>F43 p.1) (fun r=>.bool r) l
attribute [go_sem] body43
noncomputable instance lt_F43_L1 {p0:List TStored}:LT (fun s=>F43_L1 p0 s):=⟨(fun _ _ (s:Int)=>(.ro 43 p0.length false (enR zD p0)::.top::.top::.int .i64 s::tp 15 [])),(fun _ _ s=>[]),(fun _ _ (e:Unit)=>(tp 19 [])),(fun _ _ e=>[]),_,fun s=>F43_L1.eq_1 _ _⟩
theorem ok43:yU Try.prog 43 (yR body43):=PPo (rs:=[.tmp 2]) Try.func43 (by kernel_rfl) rfl rfl Try.ntmps43 (fun _=>rfl) fun ⟨p0,_⟩ r H=>by
 have C:=zE ok44 <| zU
 dsimp only [F43] at H
 exact dq
noncomputable def F11_L1 (p0:TBuffer) (v1_1:Int):Option (Lp (Int) ((Unit) ⊕ (Bool))) :=
 bif (bLt v1_1 (p0.List.length:Nat)) then (need (inb v1_1 p0.List.length) <| (F43 ((gd p0.List v1_1.toNat).Held)).bind fun r6=>bif r6 then (some (.done (.inr true))) else (some (.next (wr .i64 (v1_1+1))))) else (some (.done (.inl ())))
noncomputable def F11 (p0:TBuffer) (p1:TFrame):Option (Bool) :=
 need (bif (!(bLt 40 (p0.List.length:Nat))) then ((F43 p0.Group).isSome) else true) <| need (bif (!((bLt 40 (p0.List.length:Nat)) || (gt (F43 p0.Group)))) then ((F44 p1).isSome) else true) <| bif (((bLt 40 (p0.List.length:Nat)) || (gt (F43 p0.Group))) || (gt (F44 p1))) then (some true) else (lp (loopD (fun s=>F11_L1 p0 s) 0) (fun _=>some false) some)
noncomputable def body11 (l:List AV):AR:=PP (dC yK (dC qK dN)) (fun p=>F11 p.1 p.2.1) (fun r=>.bool r) l
attribute [go_sem] body11
noncomputable instance lt_F11_L1 {p0:TBuffer}:LT (fun s=>F11_L1 p0 s):=⟨(fun _ _ (s:Int)=>(.top::.top::.ptr 0 0 0 0::.top::.top::.int .i64 s::tp 27 [])),(fun _ _ s=>[.lit 25 [.int .i64 p0.Limit,.int .i64 p0.Stay,.ro 3 p0.List.length false (enR zC p0.List),.ro 43 p0.Group.length false (enR zD p0.Group)],.dead]),(fun _ _ (e:Unit)=>(tp 33 [])),(fun _ _ e=>[.dead,.dead]),_,fun s=>F11_L1.eq_1 _ _⟩
theorem ok11:yU Try.prog 11 (yR body11):=PPo (rs:=[.tmp 4]) Try.func11 (by kernel_rfl) rfl rfl Try.ntmps11 (fun _=>rfl) fun ⟨p0,p1,_⟩ r H=>by
 have C:=zE ok43 <| zE ok44 <| zU
 dsimp only [F11] at H
 exact dq
noncomputable def F36 (p0:TFrame) (p1:TFrame):Option (Bool) :=
 need (bif (bEq p0.Head.Kind p1.Head.Kind && (bEq p0.Head.Sub p1.Head.Sub && (bB p0.Head.ToDs p1.Head.ToDs && (bB p0.Head.FromDs p1.Head.FromDs && (bB p0.Head.More p1.Head.More && (bB p0.Head.Retry p1.Head.Retry && (bB p0.Head.Sleep p1.Head.Sleep && (bB p0.Head.MoreData p1.Head.MoreData && (bB p0.Head.Protected p1.Head.Protected && (bEq p0.Head.Duration p1.Head.Duration && (bEq p0.Head.A1.x0 p1.Head.A1.x0 && (bEq p0.Head.A1.x1 p1.Head.A1.x1 && (bEq p0.Head.A1.x2 p1.Head.A1.x2 && (bEq p0.Head.A1.x3 p1.Head.A1.x3 && (bEq p0.Head.A1.x4 p1.Head.A1.x4 && (bEq p0.Head.A1.x5 p1.Head.A1.x5 && (bEq p0.Head.A2.x0 p1.Head.A2.x0 && (bEq p0.Head.A2.x1 p1.Head.A2.x1 && (bEq p0.Head.A2.x2 p1.Head.A2.x2 && (bEq p0.Head.A2.x3 p1.Head.A2.x3 && (bEq p0.Head.A2.x4 p1.Head.A2.x4 && (bEq p0.Head.A2.x5 p1.Head.A2.x5 && (bEq p0.Head.A3.x0 p1.Head.A3.x0 && (bEq p0.Head.A3.x1 p1.Head.A3.x1 && (bEq p0.Head.A3.x2 p1.Head.A3.x2 && (bEq p0.Head.A3.x3 p1.Head.A3.x3 && (bEq p0.Head.A3.x4 p1.Head.A3.x4 && (bEq p0.Head.A3.x5 p1.Head.A3.x5 && (bEq p0.Head.A4.x0 p1.Head.A4.x0 && (bEq p0.Head.A4.x1 p1.Head.A4.x1 && (bEq p0.Head.A4.x2 p1.Head.A4.x2 && (bEq p0.Head.A4.x3 p1.Head.A4.x3 && (bEq p0.Head.A4.x4 p1.Head.A4.x4 && (bEq p0.Head.A4.x5 p1.Head.A4.x5 && (bEq p0.Head.Seq p1.Head.Seq && (bEq p0.Head.Frag p1.Head.Frag && (bEq p0.Head.Tid p1.Head.Tid && (bEq p0.Head.Ack p1.Head.Ack && (bB p0.Head.Amsdu p1.Head.Amsdu && (bB p0.Head.Eosp p1.Head.Eosp)))))))))))))))))))))))))))))))))))))))) then u8b p0.Body.length (enR xA p0.Body) else true) <| need (bif (bEq p0.Head.Kind p1.Head.Kind && (bEq p0.Head.Sub p1.Head.Sub && (bB p0.Head.ToDs p1.Head.ToDs && (bB p0.Head.FromDs p1.Head.FromDs && (bB p0.Head.More p1.Head.More && (bB p0.Head.Retry p1.Head.Retry && (bB p0.Head.Sleep p1.Head.Sleep && (bB p0.Head.MoreData p1.Head.MoreData && (bB p0.Head.Protected p1.Head.Protected && (bEq p0.Head.Duration p1.Head.Duration && (bEq p0.Head.A1.x0 p1.Head.A1.x0 && (bEq p0.Head.A1.x1 p1.Head.A1.x1 && (bEq p0.Head.A1.x2 p1.Head.A1.x2 && (bEq p0.Head.A1.x3 p1.Head.A1.x3 && (bEq p0.Head.A1.x4 p1.Head.A1.x4 && (bEq p0.Head.A1.x5 p1.Head.A1.x5 && (bEq p0.Head.A2.x0 p1.Head.A2.x0 && (bEq p0.Head.A2.x1 p1.Head.A2.x1 && (bEq p0.Head.A2.x2 p1.Head.A2.x2 && (bEq p0.Head.A2.x3 p1.Head.A2.x3 && (bEq p0.Head.A2.x4 p1.Head.A2.x4 && (bEq p0.Head.A2.x5 p1.Head.A2.x5 && (bEq p0.Head.A3.x0 p1.Head.A3.x0 && (bEq p0.Head.A3.x1 p1.Head.A3.x1 && (bEq p0.Head.A3.x2 p1.Head.A3.x2 && (bEq p0.Head.A3.x3 p1.Head.A3.x3 && (bEq p0.Head.A3.x4 p1.Head.A3.x4 && (bEq p0.Head.A3.x5 p1.Head.A3.x5 && (bEq p0.Head.A4.x0 p1.Head.A4.x0 && (bEq p0.Head.A4.x1 p1.Head.A4.x1 && (bEq p0.Head.A4.x2 p1.Head.A4.x2 && (bEq p0.Head.A4.x3 p1.Head.A4.x3 && (bEq p0.Head.A4.x4 p1.Head.A4.x4 && (bEq p0.Head.A4.x5 p1.Head.A4.x5 && (bEq p0.Head.Seq p1.Head.Seq && (bEq p0.Head.Frag p1.Head.Frag && (bEq p0.Head.Tid p1.Head.Tid && (bEq p0.Head.Ack p1.Head.Ack && (bB p0.Head.Amsdu p1.Head.Amsdu && (bB p0.Head.Eosp p1.Head.Eosp)))))))))))))))))))))))))))))))))))))))) then u8b p1.Body.length (enR xA p1.Body) else true) <| some ((bEq p0.Head.Kind p1.Head.Kind && (bEq p0.Head.Sub p1.Head.Sub && (bB p0.Head.ToDs p1.Head.ToDs && (bB p0.Head.FromDs p1.Head.FromDs && (bB p0.Head.More p1.Head.More && (bB p0.Head.Retry p1.Head.Retry && (bB p0.Head.Sleep p1.Head.Sleep && (bB p0.Head.MoreData p1.Head.MoreData && (bB p0.Head.Protected p1.Head.Protected && (bEq p0.Head.Duration p1.Head.Duration && (bEq p0.Head.A1.x0 p1.Head.A1.x0 && (bEq p0.Head.A1.x1 p1.Head.A1.x1 && (bEq p0.Head.A1.x2 p1.Head.A1.x2 && (bEq p0.Head.A1.x3 p1.Head.A1.x3 && (bEq p0.Head.A1.x4 p1.Head.A1.x4 && (bEq p0.Head.A1.x5 p1.Head.A1.x5 && (bEq p0.Head.A2.x0 p1.Head.A2.x0 && (bEq p0.Head.A2.x1 p1.Head.A2.x1 && (bEq p0.Head.A2.x2 p1.Head.A2.x2 && (bEq p0.Head.A2.x3 p1.Head.A2.x3 && (bEq p0.Head.A2.x4 p1.Head.A2.x4 && (bEq p0.Head.A2.x5 p1.Head.A2.x5 && (bEq p0.Head.A3.x0 p1.Head.A3.x0 && (bEq p0.Head.A3.x1 p1.Head.A3.x1 && (bEq p0.Head.A3.x2 p1.Head.A3.x2 && (bEq p0.Head.A3.x3 p1.Head.A3.x3 && (bEq p0.Head.A3.x4 p1.Head.A3.x4 && (bEq p0.Head.A3.x5 p1.Head.A3.x5 && (bEq p0.Head.A4.x0 p1.Head.A4.x0 && (bEq p0.Head.A4.x1 p1.Head.A4.x1 && (bEq p0.Head.A4.x2 p1.Head.A4.x2 && (bEq p0.Head.A4.x3 p1.Head.A4.x3 && (bEq p0.Head.A4.x4 p1.Head.A4.x4 && (bEq p0.Head.A4.x5 p1.Head.A4.x5 && (bEq p0.Head.Seq p1.Head.Seq && (bEq p0.Head.Frag p1.Head.Frag && (bEq p0.Head.Tid p1.Head.Tid && (bEq p0.Head.Ack p1.Head.Ack && (bB p0.Head.Amsdu p1.Head.Amsdu && (bB p0.Head.Eosp p1.Head.Eosp)))))))))))))))))))))))))))))))))))))))) && (sEq (bytesC p0.Body.length (enR xA p0.Body)) (bytesC p1.Body.length (enR xA p1.Body))))
noncomputable def body36:List AV->AR
 | [v0,v1]=>.pure (aK 41 wI v0/\aK 41 wI v1/\(F36 (yF (aL v0)) (yF (aL v1))).isSome=true) (.bool (gt (F36 (yF (aL v0)) (yF (aL v1)))))
 | _=>.fail
theorem ok36:yU Try.prog 36 (yR body36):=by
 refine pure_fnM body36 (rs:=[.tmp 4]) Try.func36 (by kernel_rfl) rfl rfl ?_
 intro l ob v hb hob
 unfold body36 at hb
 split at hb
 ·rename_i v0 v1
  injection hb with q1 q2;subst q1 q2
  obtain ⟨hk0_0,hk1_0,hob⟩:=hob
  obtain ⟨r,H⟩:=oE.1 hob
  rw [H,gt_some]
  have hw0:=dV hk0_0
  have hw1:=dV hk1_0
  generalize yF (aL v0)=p0 at H hw0
  generalize yF (aL v1)=p1 at H hw1
  refine ⟨[.agg (hC p0.Head (.ro 1 p0.Body.length false (enR xA p0.Body)::[])),.agg (hC p1.Head (.ro 1 p1.Body.length false (enR xA p1.Body)::[]))],_,(fun E vs F=>tR hw0.1 F (fun vs F=>tR hw1.1 F (fun vs F=>F))),rfl,rfl,?_⟩
  rw [Try.ntmps36]
  simp only [lCl,lNl,Nat.reduceAdd,Nat.reduceSub,rS,rZ,aC,aN]
  unfold F36 at H
  try dsimp only at H
  refine sq zA ?_
  simp only [go_sem,Nat.reduceLeDiff,Nat.reduceLT,Nat.reduceAdd,Nat.reduceMul,Nat.reduceSub,Nat.reduceEqDiff,Nat.reduceBEq,Int.reduceToNat,reduceCtorEq]
  refine zZ ?_
  obtain ⟨f1,H⟩:=zN.1 H
  replace f1:=g_iff.1 f1
  replace f1:=fun g=>u8b_iff.1 (f1 g)
  obtain ⟨f2,H⟩:=zN.1 H
  replace f2:=g_iff.1 f2
  replace f2:=fun g=>u8b_iff.1 (f2 g)
  refine rg zA ?_
  simp only [go_sem,Nat.reduceLeDiff,Nat.reduceLT,Nat.reduceAdd,Nat.reduceMul,Nat.reduceSub,Nat.reduceEqDiff,Nat.reduceBEq,Int.reduceToNat,reduceCtorEq]
  repeat ((with_reducible refine And.intro ?_ ?_);focus (first|(with_reducible trivial)|omega|exact f1|exact f2|(intro g;have q:=f1 (by first|exact g|(rw [g];rfl)|simpa using g);first|exact q|exact ⟨q.1,q.2.1⟩|exact q.2.2|omega|exact ⟨g,q⟩|exact ⟨trivial,q⟩|exact ⟨g,q.1,q.2.1⟩|exact ⟨g,q.2.2⟩)|(intro g;have q:=f2 (by first|exact g|(rw [g];rfl)|simpa using g);first|exact q|exact ⟨q.1,q.2.1⟩|exact q.2.2|omega|exact ⟨g,q⟩|exact ⟨trivial,q⟩|exact ⟨g,q.1,q.2.1⟩|exact ⟨g,q.2.2⟩)|grind))
  refine rg zA ?_
  simp only [go_sem,Nat.reduceLeDiff,Nat.reduceLT,Nat.reduceAdd,Nat.reduceMul,Nat.reduceSub,Nat.reduceEqDiff,Nat.reduceBEq,Int.reduceToNat,reduceCtorEq]
  obtain rfl:=Option.some.inj H
  first|rfl|simp only [Bool.and_false,Bool.false_and,Bool.and_true,Bool.true_and]
 ·cases hb
attribute [go_sem] body36
noncomputable def cB (p0:List TStored) (p1:List TStored) (v1_1:Int):Option (Lp (Int) ((Unit) ⊕ (Bool))) :=
 bif (bLt v1_1 (p0.length:Nat)) then (need (inb v1_1 p0.length) <| need (inb v1_1 p1.length) <| need (bif (!(!bEq ((gd p0 v1_1.toNat).Cat) ((gd p1 v1_1.toNat).Cat))) then inb v1_1 p0.length else true) <| need (bif (!(!bEq ((gd p0 v1_1.toNat).Cat) ((gd p1 v1_1.toNat).Cat))) then inb v1_1 p1.length else true) <| need (bif (!((!bEq ((gd p0 v1_1.toNat).Cat) ((gd p1 v1_1.toNat).Cat)) || (!bEq ((gd p0 v1_1.toNat).At) ((gd p1 v1_1.toNat).At)))) then inb v1_1 p0.length else true) <| need (bif (!((!bEq ((gd p0 v1_1.toNat).Cat) ((gd p1 v1_1.toNat).Cat)) || (!bEq ((gd p0 v1_1.toNat).At) ((gd p1 v1_1.toNat).At)))) then inb v1_1 p1.length else true) <| need (bif (!((!bEq ((gd p0 v1_1.toNat).Cat) ((gd p1 v1_1.toNat).Cat)) || (!bEq ((gd p0 v1_1.toNat).At) ((gd p1 v1_1.toNat).At)))) then ((F36 (eF ((gd p0 v1_1.toNat).Frame)) (eF ((gd p1 v1_1.toNat).Frame))).isSome) else true) <| bif (((!bEq ((gd p0 v1_1.toNat).Cat) ((gd p1 v1_1.toNat).Cat)) || (!bEq ((gd p0 v1_1.toNat).At) ((gd p1 v1_1.toNat).At))) || (!(gt (F36 (eF ((gd p0 v1_1.toNat).Frame)) (eF ((gd p1 v1_1.toNat).Frame)))))) then (some (.done (.inr false))) else (some (.next (wr .i64 (v1_1+1))))) else (some (.done (.inl ())))
noncomputable def F45 (p0:List TStored) (p1:List TStored):Option (Bool) :=
 bif (!bEq (p0.length:Nat) (p1.length:Nat)) then (some false) else (lp (loopD (fun s=>cB p0 p1 s) 0) (fun _=>some true) some)
noncomputable def body45 (l:List AV):AR:=PP (dC xI (dC xI dN)) (fun p=>F45 p.1 p.2.1) (fun r=>.bool r) l
attribute [go_sem] body45
noncomputable instance lt_F45_L1 {p0:List TStored} {p1:List TStored}:LT (fun s=>cB p0 p1 s):=⟨(fun _ _ (s:Int)=>(.ro 43 p0.length false (enR zD p0)::.ro 43 p1.length false (enR zD p1)::.top::.top::.top::.int .i64 s::tp 49 [])),(fun _ _ s=>[]),(fun _ _ (e:Unit)=>(tp 55 [])),(fun _ _ e=>[]),_,fun s=>cB.eq_1 _ _ _⟩
theorem ok45:yU Try.prog 45 (yR body45):=PPo (rs:=[.tmp 4]) Try.func45 (by kernel_rfl) rfl rfl Try.ntmps45 (fun _=>rfl) fun ⟨p0,p1,_⟩ r H=>by
 have C:=zE ok36 <| zU
 dsimp only [F45] at H
 exact dq
noncomputable def dW (p0:TBuffer) (p1:TBuffer) (v1_1:Int):Option (Lp (Int) ((Unit) ⊕ (Bool))) :=
 bif (bLt v1_1 (p0.List.length:Nat)) then (need (inb v1_1 p0.List.length) <| need (inb v1_1 p1.List.length) <| need (bif (!(!bEq ((gd p0.List v1_1.toNat).Aid) ((gd p1.List v1_1.toNat).Aid))) then inb v1_1 p0.List.length else true) <| need (bif (!(!bEq ((gd p0.List v1_1.toNat).Aid) ((gd p1.List v1_1.toNat).Aid))) then inb v1_1 p1.List.length else true) <| need (bif (!((!bEq ((gd p0.List v1_1.toNat).Aid) ((gd p1.List v1_1.toNat).Aid)) || (!bB ((gd p0.List v1_1.toNat).Asleep) ((gd p1.List v1_1.toNat).Asleep)))) then inb v1_1 p0.List.length else true) <| need (bif (!((!bEq ((gd p0.List v1_1.toNat).Aid) ((gd p1.List v1_1.toNat).Aid)) || (!bB ((gd p0.List v1_1.toNat).Asleep) ((gd p1.List v1_1.toNat).Asleep)))) then inb v1_1 p1.List.length else true) <| need (bif (!((!bEq ((gd p0.List v1_1.toNat).Aid) ((gd p1.List v1_1.toNat).Aid)) || (!bB ((gd p0.List v1_1.toNat).Asleep) ((gd p1.List v1_1.toNat).Asleep)))) then ((F45 ((gd p0.List v1_1.toNat).Held) ((gd p1.List v1_1.toNat).Held)).isSome) else true) <| bif (((!bEq ((gd p0.List v1_1.toNat).Aid) ((gd p1.List v1_1.toNat).Aid)) || (!bB ((gd p0.List v1_1.toNat).Asleep) ((gd p1.List v1_1.toNat).Asleep))) || (!(gt (F45 ((gd p0.List v1_1.toNat).Held) ((gd p1.List v1_1.toNat).Held))))) then (some (.done (.inr false))) else (some (.next (wr .i64 (v1_1+1))))) else (some (.done (.inl ())))
noncomputable def F16 (p0:TBuffer) (p1:TBuffer):Option (Bool) :=
 need (bif (!(((!bEq p0.Limit p1.Limit) || (!bEq p0.Stay p1.Stay)) || (!bEq (p0.List.length:Nat) (p1.List.length:Nat)))) then ((F45 p0.Group p1.Group).isSome) else true) <| bif ((((!bEq p0.Limit p1.Limit) || (!bEq p0.Stay p1.Stay)) || (!bEq (p0.List.length:Nat) (p1.List.length:Nat))) || (!(gt (F45 p0.Group p1.Group)))) then (some false) else (lp (loopD (fun s=>dW p0 p1 s) 0) (fun _=>some true) some)
noncomputable def body16 (l:List AV):AR:=PP (dC yK (dC yK dN)) (fun p=>F16 p.1 p.2.1) (fun r=>.bool r) l
attribute [go_sem] body16
noncomputable instance lt_F16_L1 {p0:TBuffer} {p1:TBuffer}:LT (fun s=>dW p0 p1 s):=⟨(fun _ _ (s:Int)=>(.top::.top::.ptr 0 0 0 0::.ptr 1 0 0 0::.top::.int .i64 s::tp 80 [])),(fun _ _ s=>[.lit 25 [.int .i64 p0.Limit,.int .i64 p0.Stay,.ro 3 p0.List.length false (enR zC p0.List),.ro 43 p0.Group.length false (enR zD p0.Group)],.lit 25 [.int .i64 p1.Limit,.int .i64 p1.Stay,.ro 3 p1.List.length false (enR zC p1.List),.ro 43 p1.Group.length false (enR zD p1.Group)]]),(fun _ _ (e:Unit)=>(tp 86 [])),(fun _ _ e=>[.dead,.dead]),_,fun s=>dW.eq_1 _ _ _⟩
theorem ok16:yU Try.prog 16 (yR body16):=PPo (rs:=[.tmp 4]) Try.func16 (by kernel_rfl) rfl rfl Try.ntmps16 (fun _=>rfl) fun ⟨p0,p1,_⟩ r H=>by
 have C:=zE ok45 <| zU
 dsimp only [F16] at H
 exact dq
noncomputable def F33_L1 (p0:List TFrame) (p1:List TFrame) (v1_1:Int):Option (Lp (Int) ((Unit) ⊕ (Bool))) :=
 bif (bLt v1_1 (p0.length:Nat)) then (need (inb v1_1 p0.length) <| need (inb v1_1 p1.length) <| (F36 (eF (gd p0 v1_1.toNat)) (eF (gd p1 v1_1.toNat))).bind fun r5=>bif (!r5) then (some (.done (.inr false))) else (some (.next (wr .i64 (v1_1+1))))) else (some (.done (.inl ())))
noncomputable def F33 (p0:List TFrame) (p1:List TFrame):Option (Bool) :=
 bif (!bEq (p0.length:Nat) (p1.length:Nat)) then (some false) else (lp (loopD (fun s=>F33_L1 p0 p1 s) 0) (fun _=>some true) some)
noncomputable def body33 (l:List AV):AR:=PP (dC eT (dC eT dN)) (fun p=>F33 p.1 p.2.1) (fun r=>.bool r) l
attribute [go_sem] body33
noncomputable instance lt_F33_L1 {p0:List TFrame} {p1:List TFrame}:LT (fun s=>F33_L1 p0 p1 s):=⟨(fun _ _ (s:Int)=>(.ro 41 p0.length false (enR zI p0)::.ro 41 p1.length false (enR zI p1)::.top::.top::.top::.int .i64 s::tp 21 [])),(fun _ _ s=>[]),(fun _ _ (e:Unit)=>(tp 27 [])),(fun _ _ e=>[]),_,fun s=>F33_L1.eq_1 _ _ _⟩
theorem ok33:yU Try.prog 33 (yR body33):=PPo (rs:=[.tmp 4]) Try.func33 (by kernel_rfl) rfl rfl Try.ntmps33 (fun _=>rfl) fun ⟨p0,p1,_⟩ r H=>by
 have C:=zE ok36 <| zU
 dsimp only [F33] at H
 exact dq
end Go.Proofs.Ytefiemaoacmdkaa
