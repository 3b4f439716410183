/-
  Contracts of functions: each computes its partial function.
-/
import Derived.Test.YtooepgpfaaddbaaGreatY3p2
namespace Go.Proofs.YtooepgpfaaddbaaGreat
open Go.Am
set_option maxHeartbeats 4000000
set_option maxRecDepth 20000
noncomputable section
set_option linter.unusedVariables false
set_option linter.unusedSimpArgs false
def ct45t0:Ct:=tab [(79,edC gL)]
theorem ct45t0_ok:yP Tryz.prog ct45t0:=zE ok79_0 <| zO
theorem ct45t0_79 (l:List AV) (h:List ABlk):ct45t0 79 l h=edC gL l h:=rfl
def F45_L1 (v1_1:Int) (v1_2:List Bool) (v1_3:Int):Option (Lp (Int × (List Bool) × Int) ((Int) ⊕ (List Int))) :=
 bif (bLt v1_3 7) then (need (inb v1_3 v1_2.length) <| bif (gd v1_2 v1_3.toNat) then (need (bLe 0 v1_3) <| some (.next (orI .u8 v1_1 (cE .u8 1 v1_3),v1_2,wr .i64 (v1_3+1)))) else (some (.next (v1_1,v1_2,wr .i64 (v1_3+1))))) else (some (.done (.inl v1_1)))
def F45 (p0:THeader):Option (List Int) :=
 bif (hdq p0) then (lp (yF (fun s=>F45_L1 s.1 s.2.1 s.2.2) (0,[false,false,false,false,false,false,false],0)) (fun w1_4=>(F79_0 [orI .u8 0 208,w1_4] 0).bind fun r6=>need (capb 1 (r6.length+6)) <| need (capb 1 (r6.length+6+6)) <| need (capb 1 (r6.length+6+6+6)) <| (some (((r6 ++ [255,255,255,255,255,255]) ++ [p0.A2.x0,p0.A2.x1,p0.A2.x2,p0.A2.x3,p0.A2.x4,p0.A2.x5]) ++ [2,0,0,0,0,1])).bind fun w12=>(F79_0 w12 (orI .i64 0 0)).bind fun r14=>some r14) some) else none
def body45:List AV->List ABlk->ED
 | [v0],h=>(fun z0=>.ed [] (aK 40 uW (roD (zH h []) v0)/\xJ (zH h []) v0/\z0.isSome=true) (.sl 0 1 0 ((gt z0).length) false) [.row 5 1 ((gt z0).length) (enR c_u8 (gt z0))]) (F45 (wM (aL (roD (zH h []) v0))))
 | _,_=>.fail
theorem ok45:FnOk Tryz.prog 45 (edC body45):=by
 refine xO body45 (rs:=[.tmp 2]) Tryz.func45 (by kernel_rfl) rfl rfl ?_
 intro l h bs ob q0 g0 hb hob
 unfold body45 at hb
 dsimp only at hb
 split at hb
 ·rename_i v0
  injection hb with q1 q2 q3 q4;subst q1 q2 q3 q4
  obtain ⟨hk0_0,hk0_1,hob⟩:=hob
  obtain ⟨r,H⟩:=oE.1 hob
  rw [H,zN]
  have hw0:=cF hk0_0
  obtain ⟨p0,hp_p0⟩:∃ p0,p0=wM (aL (roD (zH h []) v0)):=⟨_,rfl⟩
  rw [← hp_p0] at H hw0
  refine ⟨[.agg (.int .u8 p0.Kind::.int .u8 p0.Sub::.bool p0.ToDs::.bool p0.FromDs::.bool p0.More::.bool p0.Retry::.bool p0.Sleep::.bool p0.MoreData::.bool p0.Protected::.int .i64 p0.Duration::.int .u8 p0.A1.x0::.int .u8 p0.A1.x1::.int .u8 p0.A1.x2::.int .u8 p0.A1.x3::.int .u8 p0.A1.x4::.int .u8 p0.A1.x5::.int .u8 p0.A2.x0::.int .u8 p0.A2.x1::.int .u8 p0.A2.x2::.int .u8 p0.A2.x3::.int .u8 p0.A2.x4::.int .u8 p0.A2.x5::.int .u8 p0.A3.x0::.int .u8 p0.A3.x1::.int .u8 p0.A3.x2::.int .u8 p0.A3.x3::.int .u8 p0.A3.x4::.int .u8 p0.A3.x5::.int .u8 p0.A4.x0::.int .u8 p0.A4.x1::.int .u8 p0.A4.x2::.int .u8 p0.A4.x3::.int .u8 p0.A4.x4::.int .u8 p0.A4.x5::.int .i64 p0.Seq::.int .i64 p0.Frag::.int .i64 p0.Tid::.int .u8 p0.Ack::.bool p0.Amsdu::.bool p0.Eosp::[])],[],rfl,⟨(yR hk0_1 hw0),trivial⟩,trivial,trivial,⟨(yY vC),trivial⟩,⟨zW,trivial⟩,(by first|(simp only [noro];done)|(simp only [noro,yK];and_intros<;>first|trivial|exact xX (by simp only [noro]) (by simp only [noro])|(simp only [noro,yK,and_self]))),?_⟩
  rw [Tryz.ntmps45]
  simp only [lC,lN,Nat.reduceAdd,Nat.reduceSub,rS,rZ,aC,aN]
  unfold F45 at H
  try dsimp only at H
  refine zC ?_
  refine wG (c:=(hdq p0)) (fun hv1=>?_) (fun hv1=>?_)
  ·replace H:=zL hv1 H
   rw [hdq_is hv1]
   dsimp only [hd]
   refine rg zA ?_
   simp only [go_sem]
   refine zC ?_
   refine qP ?_
   refine wL zU zA 4 ?_
   simp only [zV,tS,tZ,dS,dZ,go_sem,Nat.reduceLeDiff,Nat.reduceLT,Nat.reduceAdd]
   repeat ((with_reducible refine aI ?_ ?_);exact an0)
   refine inlO (rs:=[.cell 4 129,.tmp 5]) Tryz.func56 (by kernel_rfl) rfl rfl Tryz.ntmps56 (caps:=[]) (tc:=[.int .u8 0,.int .u8 13]) rfl (by simp only [go_sem]) rfl ?_
   simp only [lC,lN,Nat.reduceAdd,Nat.reduceSub,rS,rZ,aC,aN]
   refine sq zA ?_
   simp only [go_sem]
   refine zC ?_
   refine sq zA ?_
   simp only [go_sem]
   refine xN ?_
   refine sq zA ?_
   simp only [go_sem,(by decide:bEq (0) (0)=true)]
   refine zX rfl trivial (fun hc=>?_) (fun hc=>?_)
   rotate_left
   ·cases hc
   refine sq zA ?_
   simp only [go_sem,Nat.reduceLeDiff,Nat.reduceAdd,(by decide:bLe (13) (5)=false),(by decide:bEq (13) (8)=false),(by decide:bLe (10) (13)=true),(by decide:bLe (13) (13)=true)]
   repeat ((with_reducible refine aI ?_ ?_);exact an4)
   refine rg zA ?_
   simp only [go_sem,Nat.reduceLT,Nat.reduceAdd]
   refine wL zU zA 6 ?_
   simp only [zV,tS,tZ,dS,dZ,go_sem,Nat.reduceLT,Nat.reduceAdd]
   repeat ((with_reducible refine aI ?_ ?_);exact an0)
   refine tY ?_
   refine sq zA ?_
   simp only [go_sem]
   refine zC ?_
   refine sq zA ?_
   simp only [go_sem,Nat.reduceLeDiff,Nat.reduceLT,Nat.reduceAdd]
   repeat ((with_reducible refine aI ?_ ?_);exact an2)
   refine xN ?_
   refine xP (fun s:Int × (List Bool) × Int=>(.top::.ptr 0 0 0 0::.top::.ptr 2 0 0 0::.top::.int .u8 s.1::tp 32 (.sl 4 1 0 s.2.1.length false::.int .i64 7::.int .i64 s.2.2::tp 81 []))) (fun s=>[.lit 73 (.int .u8 0::.int .u8 13::.bool false::.bool false::.bool false::.bool false::.bool false::.bool false::.bool false::.int .i64 0::.int .u8 255::.int .u8 255::.int .u8 255::.int .u8 255::.int .u8 255::.int .u8 255::.int .u8 p0.A2.x0::.int .u8 p0.A2.x1::.int .u8 p0.A2.x2::.int .u8 p0.A2.x3::.int .u8 p0.A2.x4::.int .u8 p0.A2.x5::.int .u8 2::.int .u8 0::.int .u8 0::.int .u8 0::.int .u8 0::.int .u8 1::.int .u8 0::.int .u8 0::.int .u8 0::.int .u8 0::.int .u8 0::.int .u8 0::.int .i64 0::.int .i64 0::.int .i64 0::.int .u8 0::.bool false::.bool false::[]),.dead,.lit 129 [.bool true,.bool true,.bool false],.dead,.row 4 1 s.2.1.length (enR c_b s.2.1)]) (fun e:Int=>(.top::.ptr 0 0 0 0::.top::.ptr 2 0 0 0::.top::.int .u8 e::tp 116 [])) (fun e=>[.lit 73 (.int .u8 0::.int .u8 13::.bool false::.bool false::.bool false::.bool false::.bool false::.bool false::.bool false::.int .i64 0::.int .u8 255::.int .u8 255::.int .u8 255::.int .u8 255::.int .u8 255::.int .u8 255::.int .u8 p0.A2.x0::.int .u8 p0.A2.x1::.int .u8 p0.A2.x2::.int .u8 p0.A2.x3::.int .u8 p0.A2.x4::.int .u8 p0.A2.x5::.int .u8 2::.int .u8 0::.int .u8 0::.int .u8 0::.int .u8 0::.int .u8 1::.int .u8 0::.int .u8 0::.int .u8 0::.int .u8 0::.int .u8 0::.int .u8 0::.int .i64 0::.int .i64 0::.int .i64 0::.int .u8 0::.bool false::.bool false::[]),.dead,.lit 129 [.bool true,.bool true,.bool false],.dead]) H ?_ (fun s o H hn1_1 hn2_1=>?_) (fun w1_4 H=>?_)
   ·refine Sq [(0,4),(3,1)] ?_ ?_
    ·simp [CvL,Cv,yB,tp]
    ·exact ⟨cv,yI,cv,yI,zJ nr_b cl (wS (f:=c_b) [false,false,false,false,false,false,false] (fun _ _=>rfl) rfl),trivial⟩
   ·obtain ⟨v1_1,v1_2,v1_3⟩:=s
    unfold F45_L1 at H
    try dsimp only at H ⊢
    try simp only [tp]
    refine sq zA ?_
    simp only [go_sem,Nat.reduceAdd]
    refine zC ?_
    refine condM' rfl trivial (fun hc=>?_) (fun hc=>?_)
    ·have hk2:(bLt v1_3 7)=false:=by simpa using hc
     replace H:=zK hc H
     refine rg zA ?_
     simp only [go_sem]
     refine ⟨_,(Option.some.inj H).symm,?_⟩
     refine Sq [(0,4)] ?_ ?_
     ·simp [CvL,Cv,yB]
     ·exact dQ
    have hk2:(bLt v1_3 7)=true:=by simpa using hc
    replace H:=zL hc H
    refine rg zA ?_
    simp only [go_sem]
    refine zC ?_
    refine xN ?_
    refine zC ?_
    obtain ⟨f3,H⟩:=nI H
    refine rg zA ?_
    simp only [go_sem,Nat.reduceLT,f3]
    repeat ((with_reducible refine aI ?_ ?_);exact an4)
    refine sq zA ?_
    simp only [go_sem]
    refine condM' rfl trivial (fun hc=>?_) (fun hc=>?_)
    ·have hk4:(gd v1_2 v1_3.toNat)=false:=by simpa using hc
     replace H:=zK hc H
     refine rg zA ?_
     simp only [go_sem]
     refine rg zA ?_
     simp only [go_sem]
     refine ⟨_,(Option.some.inj H).symm,?_⟩
     refine Sq [(0,5)] ?_ ?_
     ·simp [CvL,Cv,yB]
     ·exact dQ
    have hk4:(gd v1_2 v1_3.toNat)=true:=by simpa using hc
    replace H:=zL hc H
    obtain ⟨f5,H⟩:=zP.1 H
    replace f5:=bLe_iff.1 f5
    refine rg zA ?_
    simp only [go_sem,f5]
    repeat ((with_reducible refine aI ?_ ?_);exact an4)
    refine rg zA ?_
    simp only [go_sem]
    refine ⟨_,(Option.some.inj H).symm,?_⟩
    refine Sq [(0,5)] ?_ ?_
    ·simp [CvL,Cv,yB]
    ·exact dQ
   ·try dsimp only at H ⊢
    try simp only [tp]
    try simp only [yS]
    refine zC ?_
    obtain ⟨r6,e7,H⟩:=bsi H
    refine rg ct45t0_ok ?_
    simp only [go_sem,Nat.reduceLeDiff,Nat.reduceLT,Nat.reduceAdd,reduceCtorEq,ct45t0_79,gL,(by decide:cE IntKind.u8 0 2=0),(by decide:cE IntKind.u8 13 4=208),e7]
    repeat ((with_reducible refine aI ?_ ?_);exact an2)
    refine zC ?_
    refine qP ?_
    refine wL zU zA 0 ?_
    simp only [zV,tZ,dZ,go_sem]
    repeat ((with_reducible refine aI ?_ ?_);exact an0)
    refine inlO (rs:=[.tmp 2,.tmp 3]) Tryz.func58 (by kernel_rfl) rfl rfl Tryz.ntmps58 (caps:=[]) (tc:=[.ptr 0 0 0 0]) rfl (by simp only [go_sem]) rfl ?_
    simp only [lC,lN,Nat.reduceAdd,Nat.reduceSub,rS,rZ,aC,aN]
    refine sq zA ?_
    simp only [go_sem]
    refine zC ?_
    refine xC zU zA 1 (by kernel_rfl) (by kernel_rfl) ?_
    intro an han
    simp only [vH,wI,tC,xrD,xoD,uY,vL,List.append_nil,xF,refs,mask,wN,place,xU,wO,xV,hit,inL,xH,ren,rnN,nrH,nrB,nrL,nr,rZ,rS,Nat.sub_self,Nat.add_zero,Nat.zero_add,Nat.reduceSub,Nat.lt_add_one,go_sem,Nat.reduceLeDiff,Nat.reduceLT,Nat.reduceAdd,Nat.reduceSub,Nat.reduceBEq,reduceCtorEq]
    repeat ((with_reducible refine aI ?_ ?_);exact an5)
    refine zC ?_
    refine xN ?_
    refine sq zA ?_
    simp only [go_sem,Nat.reduceLeDiff,Nat.reduceLT,Nat.reduceAdd,(by decide:bEq (0) (1)=false)]
    repeat ((with_reducible refine aI ?_ ?_);exact an4)
    refine zX rfl trivial (fun hc=>?_) (fun hc=>?_)
    ·cases hc
    refine sq zA ?_
    simp only [go_sem,Nat.reduceLeDiff,Nat.reduceLT,Nat.reduceAdd,(by decide:bEq (0) (1)=false)]
    repeat ((with_reducible refine aI ?_ ?_);exact an4)
    refine zX rfl trivial (fun hc=>?_) (fun hc=>?_)
    ·cases hc
    refine sq zA ?_
    simp only [go_sem,Nat.reduceLeDiff,Nat.reduceLT,Nat.reduceAdd,(by decide:bEq (0) (2)=false)]
    repeat ((with_reducible refine aI ?_ ?_);exact an4)
    refine zX rfl trivial (fun hc=>?_) (fun hc=>?_)
    ·cases hc
    refine rg zA ?_
    simp only [go_sem]
    refine sq zA ?_
    simp only [go_sem,Nat.reduceLeDiff,Int.reduceToNat]
    repeat ((with_reducible refine aI ?_ ?_);exact an4)
    refine rg zA ?_
    simp only [go_sem]
    refine wL zU zA 5 ?_
    simp only [zV,tS,tZ,dS,dZ,go_sem,Nat.reduceLT,Nat.reduceAdd]
    repeat ((with_reducible refine aI ?_ ?_);exact an2)
    refine tY ?_
    refine zC ?_
    refine sq zA ?_
    simp only [go_sem]
    repeat ((with_reducible refine aI ?_ ?_);exact an2)
    refine xN ?_
    refine tP 4 ?_
    refine cD ?_
    refine sq zA ?_
    simp only [go_sem,(by decide:bLt (0) (3)=true)]
    refine zC ?_
    refine zX rfl trivial (fun hc=>?_) (fun hc=>?_)
    rotate_left
    ·cases hc
    refine rg zA ?_
    simp only [go_sem]
    refine zC ?_
    refine xN ?_
    refine sq zA ?_
    simp only [go_sem,Nat.reduceLeDiff,Nat.reduceLT,Nat.reduceAdd]
    repeat ((with_reducible refine aI ?_ ?_);exact an4)
    obtain ⟨f9,H⟩:=nC H
    refine rg zA ?_
    simp only [go_sem,Nat.reduceLeDiff,Nat.reduceAdd,Nat.reduceBEq,Int.reduceToNat,f9]
    repeat ((with_reducible refine aI ?_ ?_);exact an1)
    refine rg zA ?_
    simp only [go_sem,(by decide:wr IntKind.i64 ((0:Int)+1)=1)]
    refine cD ?_
    refine sq zA ?_
    simp only [go_sem,(by decide:bLt (1) (3)=true)]
    refine zC ?_
    refine zX rfl trivial (fun hc=>?_) (fun hc=>?_)
    rotate_left
    ·cases hc
    refine rg zA ?_
    simp only [go_sem]
    refine zC ?_
    refine xN ?_
    refine sq zA ?_
    simp only [go_sem,Nat.reduceLeDiff,Nat.reduceLT,Nat.reduceAdd,Int.reduceToNat]
    repeat ((with_reducible refine aI ?_ ?_);exact an4)
    obtain ⟨f10,H⟩:=nC H
    refine rg zA ?_
    simp only [go_sem,Nat.reduceLeDiff,Nat.reduceAdd,Nat.reduceBEq,Int.reduceToNat,f10]
    repeat ((with_reducible refine aI ?_ ?_);exact an1)
    refine rg zA ?_
    simp only [go_sem,(by decide:wr IntKind.i64 ((1:Int)+1)=2)]
    refine cD ?_
    refine sq zA ?_
    simp only [go_sem,(by decide:bLt (2) (3)=true)]
    refine zC ?_
    refine zX rfl trivial (fun hc=>?_) (fun hc=>?_)
    rotate_left
    ·cases hc
    refine rg zA ?_
    simp only [go_sem]
    refine zC ?_
    refine xN ?_
    refine sq zA ?_
    simp only [go_sem,Nat.reduceLeDiff,Nat.reduceLT,Nat.reduceAdd,Int.reduceToNat]
    repeat ((with_reducible refine aI ?_ ?_);exact an4)
    obtain ⟨f11,H⟩:=nC H
    refine rg zA ?_
    simp only [go_sem,Nat.reduceLeDiff,Nat.reduceAdd,Nat.reduceBEq,Int.reduceToNat,f11]
    repeat ((with_reducible refine aI ?_ ?_);exact an1)
    refine rg zA ?_
    simp only [go_sem,(by decide:wr IntKind.i64 ((2:Int)+1)=3)]
    refine cD ?_
    refine sq zA ?_
    simp only [go_sem,(by decide:bLt (3) (3)=false)]
    refine zC ?_
    refine zX rfl trivial (fun hc=>?_) (fun hc=>?_)
    ·cases hc
    refine rg zA ?_
    simp only [go_sem]
    refine zC ?_
    refine sq zA ?_
    simp only [go_sem,Nat.reduceLeDiff,Nat.reduceLT,Nat.reduceAdd]
    repeat ((with_reducible refine aI ?_ ?_);exact an4)
    refine zX rfl trivial (fun hc=>?_) (fun hc=>?_)
    rotate_left
    ·cases hc
    obtain ⟨w12,hw13,H⟩:=bsj H
    have lhw13:w12.length=r6.length+6+6+6:=by rw [← hw13];exact cl
    refine tR (t2:=(.top::.ptr 0 0 0 0::.top::.ptr 2 0 0 0::tp 4 (.sl 9 1 0 w12.length false::.top::.ro 0 0 true (fun _ _=>.top)::tp 111 []))) (h2:=[.lit 73 (.int .u8 0::.int .u8 13::.bool false::.bool false::.bool false::.bool false::.bool false::.bool false::.bool false::.int .i64 0::.int .u8 255::.int .u8 255::.int .u8 255::.int .u8 255::.int .u8 255::.int .u8 255::.int .u8 p0.A2.x0::.int .u8 p0.A2.x1::.int .u8 p0.A2.x2::.int .u8 p0.A2.x3::.int .u8 p0.A2.x4::.int .u8 p0.A2.x5::.int .u8 2::.int .u8 0::.int .u8 0::.int .u8 0::.int .u8 0::.int .u8 1::.int .u8 0::.int .u8 0::.int .u8 0::.int .u8 0::.int .u8 0::.int .u8 0::.int .i64 0::.int .i64 0::.int .i64 0::.int .u8 0::.bool false::.bool false::[]),.dead,.lit 129 [.bool true,.bool true,.bool false],.dead,.dead,.dead,.lit 168 [.ptr 0 0 0 10,.ptr 0 0 0 16,.ptr 0 0 0 22,.ptr 0 0 0 28],.dead,.dead,.row 5 1 w12.length (enR c_u8 w12)]) ?_ ?_
    ·refine Sq [(0,10)] ?_ ?_
     ·simp [CvL,Cv,yB,tp,lhw13]
     ·refine pQ ?_
      exact ⟨zJ vC lhw13 (hw13 ▸ (app_row2 (show ((r6 ++ [255,255,255,255,255,255]) ++ [p0.A2.x0,p0.A2.x1,p0.A2.x2,p0.A2.x3,p0.A2.x4,p0.A2.x5]).length=r6.length+6+6 from by simp) (f:=c_u8) ((r6 ++ [255,255,255,255,255,255]) ++ [p0.A2.x0,p0.A2.x1,p0.A2.x2,p0.A2.x3,p0.A2.x4,p0.A2.x5]) [2,0,0,0,0,1] (app_row2 (show (r6 ++ [255,255,255,255,255,255]).length=r6.length+6 from by simp) (f:=c_u8) (r6 ++ [255,255,255,255,255,255]) [p0.A2.x0,p0.A2.x1,p0.A2.x2,p0.A2.x3,p0.A2.x4,p0.A2.x5] (vO (f:=c_u8) r6 [255,255,255,255,255,255] (fun _ _ _ _=>rfl) (arr_row (L:=[255,255,255,255,255,255]) (by intro x hx;match x,hx with|0,_=>rfl|1,_=>rfl|2,_=>rfl|3,_=>rfl|4,_=>rfl|5,_=>rfl|x+6,hx=>exact absurd hx (by simp)))) (arr_row (L:=[p0.A2.x0,p0.A2.x1,p0.A2.x2,p0.A2.x3,p0.A2.x4,p0.A2.x5]) (by intro x hx;match x,hx with|0,_=>rfl|1,_=>rfl|2,_=>rfl|3,_=>rfl|4,_=>rfl|5,_=>rfl|x+6,hx=>exact absurd hx (by simp)))) (arr_row (L:=[2,0,0,0,0,1]) (by intro x hx;match x,hx with|0,_=>rfl|1,_=>rfl|2,_=>rfl|3,_=>rfl|4,_=>rfl|5,_=>rfl|x+6,hx=>exact absurd hx (by simp))))),trivial⟩
    simp only [tp]
    obtain ⟨r14,e15,H⟩:=bsi H
    refine rg ct45t0_ok ?_
    simp only [go_sem,Nat.reduceLeDiff,Nat.reduceLT,Nat.reduceAdd,ct45t0_79,gL,(by decide:cE IntKind.i64 0 4=0),e15]
    repeat ((with_reducible refine aI ?_ ?_);exact an0)
    refine zC ?_
    refine sq zA ?_
    simp only [go_sem]
    repeat ((with_reducible refine aI ?_ ?_);exact an0)
    refine xN ?_
    refine tP 1 ?_
    refine cD ?_
    refine sq zA ?_
    simp only [go_sem,(by decide:bLt (0) (0)=false)]
    refine zC ?_
    refine zX rfl trivial (fun hc=>?_) (fun hc=>?_)
    ·cases hc
    refine rg zA ?_
    simp only [go_sem]
    refine zC ?_
    refine sq zA ?_
    simp only [go_sem,Nat.reduceLT,Nat.reduceAdd]
    repeat ((with_reducible refine aI ?_ ?_);exact an4)
    refine zX rfl trivial (fun hc=>?_) (fun hc=>?_)
    ·cases hc
    refine rg zA ?_
    simp only [go_sem]
    refine sq zA ?_
    simp only [go_sem]
    refine rg zA ?_
    simp only [go_sem]
    obtain rfl:=Option.some.inj H
    refine yE [] [some 10] ?_ ?_ ?_ ?_ (by rfl) (by rfl)
    ·simp only [go_sem]
     try exact at0
    ·simp only [go_sem]
     try exact at0
    ·simp only [go_sem]
     exact (by first|(simp [Cv,yB];done)|(simp [Cv,CvL,yB,zN];omega))
    ·simp only [go_sem,Nat.reduceAdd,CvH]
     exact zJ vC cl (fun _ _ _ _=>rfl)
  replace H:=zK hv1 H
  cases H
 ·cases hb
def ct77t0:Ct:=tab [(93,pureC body93),(94,pureC body94)]
theorem ct77t0_ok:yP Tryz.prog ct77t0:=zE ok93 <| zE ok94 <| zO
theorem ct77t0_93 (l:List AV) (h:List ABlk):ct77t0 93 l h=pureC body93 l h:=rfl
theorem ct77t0_94 (l:List AV) (h:List ABlk):ct77t0 94 l h=pureC body94 l h:=rfl
def F77 (p0:List Int):Option (Int) :=
 (F94 4294967295 p0).bind fun r1=>(F93 r1).bind fun r3=>some r3
def dV:List AV->AR
 | [v0]=>.pure (lK k_u8 1 v0/\(F77 (lA g_u8 v0)).isSome=true) (.int .u32 (gt (F77 (lA g_u8 v0))))
 | _=>.fail
theorem ok77:FnOk Tryz.prog 77 (pureC dV):=by
 refine yM dV (rs:=[.tmp 2]) Tryz.func77 (by kernel_rfl) rfl rfl ?_
 intro l ob v hb hob
 unfold dV at hb
 split at hb
 ·rename_i v0
  injection hb with q1 q2;subst q1 q2
  obtain ⟨hk0_0,hob⟩:=hob
  obtain ⟨r,H⟩:=oE.1 hob
  rw [H,zN]
  have hw0:=lK_wk (fun r h=>w_u8 h) hk0_0
  generalize lA g_u8 v0=p0 at H hw0
  refine ⟨[.ro 1 p0.length false (enR c_u8 p0)],_,(fun E vs F=>yC hw0.1 F (fun vs F=>F)),rfl,rfl,?_⟩
  rw [Tryz.ntmps77]
  simp only [lC,lN,Nat.reduceAdd,Nat.reduceSub,rS,rZ,aC,aN]
  unfold F77 at H
  try dsimp only at H
  refine sq zA ?_
  simp only [go_sem]
  refine zC ?_
  obtain ⟨r1,e2,H⟩:=bsi H
  obtain ⟨r3,e4,H⟩:=bsi H
  refine rg ct77t0_ok ?_
  simp only [go_sem,ct77t0_93,body93,ct77t0_94,body94,e2,e4]
  repeat ((with_reducible refine aI ?_ ?_);exact an0)
  refine rg zA ?_
  simp only [go_sem]
  obtain rfl:=Option.some.inj H
  exact fB
 ·cases hb
def F78 (p0:List Int) (p1:List Int):Option (List Int) :=
 need (mkb 1 0 (wr .i64 ((p0.length:Nat)+(p1.length:Nat)))) <| (some (List.replicate 0 (0:Int))).bind fun w2=>need (capb 1 (w2.length+p0.length)) <| need (capb 1 (w2.length+p0.length+p1.length)) <| some ((w2 ++ p0) ++ p1)
def dW:List AV->List ABlk->ED
 | [v0,v1],h=>(fun z0=>.ed [] (lK k_u8 1 (roD (zH h []) v0)/\xJ (zH h []) v0/\lK k_u8 1 (roD (zH h []) v1)/\xJ (zH h []) v1/\z0.isSome=true) (.sl 0 1 0 ((gt z0).length) false) [.row 5 1 ((gt z0).length) (enR c_u8 (gt z0))]) (F78 (lA g_u8 (roD (zH h []) v0)) (lA g_u8 (roD (zH h []) v1)))
 | _,_=>.fail
theorem ok78:FnOk Tryz.prog 78 (edC dW):=by
 refine xO dW (rs:=[.tmp 4]) Tryz.func78 (by kernel_rfl) rfl rfl ?_
 intro l h bs ob q0 g0 hb hob
 unfold dW at hb
 dsimp only at hb
 split at hb
 ·rename_i v0 v1
  injection hb with q1 q2 q3 q4;subst q1 q2 q3 q4
  obtain ⟨hk0_0,hk0_1,hk1_0,hk1_1,hob⟩:=hob
  obtain ⟨r,H⟩:=oE.1 hob
  rw [H,zN]
  have hw0:=lK_wk (fun r h=>w_u8 h) hk0_0
  obtain ⟨p0,hp_p0⟩:∃ p0,p0=lA g_u8 (roD (zH h []) v0):=⟨_,rfl⟩
  rw [← hp_p0] at H hw0
  have hw1:=lK_wk (fun r h=>w_u8 h) hk1_0
  obtain ⟨p1,hp_p1⟩:∃ p1,p1=lA g_u8 (roD (zH h []) v1):=⟨_,rfl⟩
  rw [← hp_p1] at H hw1
  refine ⟨[.ro 1 p0.length false (enR c_u8 p0),.ro 1 p1.length false (enR c_u8 p1)],[],rfl,⟨(yR hk0_1 hw0),⟨(yR hk1_1 hw1),trivial⟩⟩,trivial,trivial,⟨(yY vC),trivial⟩,⟨zW,trivial⟩,(by first|(simp only [noro];done)|(simp only [noro,yK];and_intros<;>first|trivial|exact xX (by simp only [noro]) (by simp only [noro])|(simp only [noro,yK,and_self]))),?_⟩
  rw [Tryz.ntmps78]
  simp only [lC,lN,Nat.reduceAdd,Nat.reduceSub,rS,rZ,aC,aN]
  unfold F78 at H
  try dsimp only at H
  refine sq zA ?_
  simp only [go_sem]
  refine zC ?_
  obtain ⟨f1,H⟩:=nM H
  refine rg zA ?_
  simp only [go_sem,f1]
  repeat ((with_reducible refine aI ?_ ?_);exact an2)
  refine zC ?_
  obtain ⟨w2,hw3,H⟩:=bsj H
  have lhw3:w2.length=0:=by rw [← hw3];exact (by simp)
  refine tR (t2:=(.ro 1 p0.length false (enR c_u8 p0)::.ro 1 p1.length false (enR c_u8 p1)::.top::.top::.top::.sl 0 1 0 w2.length false::tp 11 [])) (h2:=[.row 5 1 w2.length (enR c_u8 w2)]) ?_ ?_
  ·refine Sq [(0,1)] ?_ ?_
   ·simp [CvL,Cv,yB,tp,lhw3]
   ·exact ⟨zJ vC lhw3 (hw3 ▸ (rep_row (f:=c_u8) 0 0 rfl)),trivial⟩
  simp only [tp]
  obtain ⟨f4,H⟩:=nC H
  obtain ⟨f5,H⟩:=nC H
  refine rg zA ?_
  simp only [go_sem,Nat.reduceAdd,f4,f5]
  repeat ((with_reducible refine aI ?_ ?_);exact an1)
  refine rg zA ?_
  simp only [go_sem]
  obtain rfl:=Option.some.inj H
  refine yE [] [some 2] ?_ ?_ ?_ ?_ (by rfl) (by rfl)
  ·simp only [go_sem]
   try exact at0
  ·simp only [go_sem]
   try exact at0
  ·simp only [go_sem]
   exact (by first|(simp [Cv,yB];done)|(simp [Cv,yB];omega))
  ·simp only [go_sem,CvH]
   exact zJ vC cl (app_row2 (show (w2 ++ p0).length=w2.length+p0.length from by simp) (f:=c_u8) (w2 ++ p0) p1 (vO (f:=c_u8) w2 p0 (fun _ _ _ _=>rfl) (fun _ _ _ _=>rfl)) (fun _ _ _ _=>rfl))
 ·cases hb
def ct44t0:Ct:=tab [(77,pureC dV)]
theorem ct44t0_ok:yP Tryz.prog ct44t0:=zE ok77 <| zO
theorem ct44t0_77 (l:List AV) (h:List ABlk):ct44t0 77 l h=pureC dV l h:=rfl
def ct44t1:Ct:=tab [(78,edC dW)]
theorem ct44t1_ok:yP Tryz.prog ct44t1:=zE ok78 <| zO
theorem ct44t1_78 (l:List AV) (h:List ABlk):ct44t1 78 l h=edC dW l h:=rfl
def F44 (p0:List Int):Option (List Int) :=
 (F77 p0).bind fun r1=>(F78 p0 [wr .u8 (wW .u32 r1 24),wr .u8 (wW .u32 r1 16),wr .u8 (wW .u32 r1 8),wr .u8 r1]).bind fun r3=>some r3
def body44:List AV->List ABlk->ED
 | [v0],h=>(fun z0=>.ed [] (lK k_u8 1 (roD (zH h []) v0)/\xJ (zH h []) v0/\(F44 (lA g_u8 (roD (zH h []) v0))).isSome=true) (.sl 0 1 0 (z0.length) false) [.row 5 1 (z0.length) (enR c_u8 z0)]) (gt (F44 (lA g_u8 (roD (zH h []) v0))))
 | _,_=>.fail
theorem ok44:FnOk Tryz.prog 44 (edC body44):=by
 refine xO body44 (rs:=[.tmp 2]) Tryz.func44 (by kernel_rfl) rfl rfl ?_
 intro l h bs ob q0 g0 hb hob
 unfold body44 at hb
 dsimp only at hb
 split at hb
 ·rename_i v0
  injection hb with q1 q2 q3 q4;subst q1 q2 q3 q4
  obtain ⟨hk0_0,hk0_1,hob⟩:=hob
  obtain ⟨r,H⟩:=oE.1 hob
  rw [H,zN]
  have hw0:=lK_wk (fun r h=>w_u8 h) hk0_0
  obtain ⟨p0,hp_p0⟩:∃ p0,p0=lA g_u8 (roD (zH h []) v0):=⟨_,rfl⟩
  rw [← hp_p0] at H hw0
  refine ⟨[.ro 1 p0.length false (enR c_u8 p0)],[],rfl,⟨(yR hk0_1 hw0),trivial⟩,trivial,trivial,⟨(yY vC),trivial⟩,⟨zW,trivial⟩,(by first|(simp only [noro];done)|(simp only [noro,yK];and_intros<;>first|trivial|exact xX (by simp only [noro]) (by simp only [noro])|(simp only [noro,yK,and_self]))),?_⟩
  rw [Tryz.ntmps44]
  simp only [lC,lN,Nat.reduceAdd,Nat.reduceSub,rS,rZ,aC,aN]
  unfold F44 at H
  try dsimp only at H
  refine sq zA ?_
  simp only [go_sem]
  refine zC ?_
  obtain ⟨r1,e2,H⟩:=bsi H
  refine rg ct44t0_ok ?_
  simp only [go_sem,ct44t0_77,dV,e2]
  repeat ((with_reducible refine aI ?_ ?_);exact an0)
  refine zC ?_
  obtain ⟨r3,e4,H⟩:=bsi H
  refine rg ct44t1_ok ?_
  simp only [go_sem,Nat.reduceLeDiff,Nat.reduceAdd,reduceCtorEq,ct44t1_78,dW,e4]
  repeat ((with_reducible refine aI ?_ ?_);exact an2)
  refine rg zA ?_
  simp only [go_sem]
  obtain rfl:=Option.some.inj H
  refine yE [] [some 1] ?_ ?_ ?_ ?_ (by rfl) (by rfl)
  ·simp only [go_sem]
   try exact at0
  ·simp only [go_sem]
   try exact at0
  ·simp only [go_sem]
   exact (by first|(simp [Cv,yB];done)|(simp [Cv,CvL,yB,zN];omega))
  ·simp only [go_sem,CvH]
   exact zJ vC cl (fun _ _ _ _=>rfl)
 ·cases hb
def ct21t0:Ct:=tab [(42,pureC dP),(43,pureC dR)]
theorem ct21t0_ok:yP Tryz.prog ct21t0:=zE ok42 <| zE ok43 <| zO
theorem ct21t0_42 (l:List AV) (h:List ABlk):ct21t0 42 l h=pureC dP l h:=rfl
theorem ct21t0_43 (l:List AV) (h:List ABlk):ct21t0 43 l h=pureC dR l h:=rfl
def ct21t1:Ct:=tab [(44,edC body44),(45,edC body45)]
theorem ct21t1_ok:yP Tryz.prog ct21t1:=zE ok44 <| zE ok45 <| zO
theorem ct21t1_44 (l:List AV) (h:List ABlk):ct21t1 44 l h=edC body44 l h:=rfl
theorem ct21t1_45 (l:List AV) (h:List ABlk):ct21t1 45 l h=edC body45 l h:=rfl
def F21 (p0:TFrame):Option ((List Int) × Int) :=
 (F42 p0.Head).bind fun r1=>need (bif (bEq r1 0) then ((F43 p0.Head).isSome) else true) <| bif ((!bEq r1 0) || ((gt (F43 p0.Head)) && (bLt 0 (p0.Body.length:Nat)))) then none else (bif (bLt 2304 (p0.Body.length:Nat)) then none else ((F45 p0.Head).bind fun r4=>need (capb 1 (r4.length+p0.Body.length)) <| (F44 (deR g_u8 (r4.length+p0.Body.length) (uL r4.length (enR c_u8 r4) (enR c_u8 p0.Body)))).bind fun r7=>some (r7,0)))
def body21:List AV->List ABlk->ED
 | [v0],h=>(fun z0=>.ed [] (aK 41 gX (roD (zH h []) v0)/\xJ (zH h []) v0/\z0.isSome=true) (.tup [.sl 0 1 0 (((gt z0).1).length) false,.int .i64 ((gt z0).2)]) [.row 5 1 (((gt z0).1).length) (enR c_u8 ((gt z0).1))]) (F21 (jG (aL (roD (zH h []) v0))))
 | _,_=>.fail
theorem ok21:FnOk Tryz.prog 21 (edC body21):=by
 refine xO body21 (rs:=[.tmp 2,.tmp 3]) Tryz.func21 (by kernel_rfl) rfl rfl ?_
 intro l h bs ob q0 g0 hb hob
 unfold body21 at hb
 dsimp only at hb
 split at hb
 ·rename_i v0
  injection hb with q1 q2 q3 q4;subst q1 q2 q3 q4
  obtain ⟨hk0_0,hk0_1,hob⟩:=hob
  obtain ⟨r,H⟩:=oE.1 hob
  rw [H,zN]
  have hw0:=wA_TFrame hk0_0
  obtain ⟨p0,hp_p0⟩:∃ p0,p0=jG (aL (roD (zH h []) v0)):=⟨_,rfl⟩
  rw [← hp_p0] at H hw0
  refine ⟨[.agg (.int .u8 p0.Head.Kind::.int .u8 p0.Head.Sub::.bool p0.Head.ToDs::.bool p0.Head.FromDs::.bool p0.Head.More::.bool p0.Head.Retry::.bool p0.Head.Sleep::.bool p0.Head.MoreData::.bool p0.Head.Protected::.int .i64 p0.Head.Duration::.int .u8 p0.Head.A1.x0::.int .u8 p0.Head.A1.x1::.int .u8 p0.Head.A1.x2::.int .u8 p0.Head.A1.x3::.int .u8 p0.Head.A1.x4::.int .u8 p0.Head.A1.x5::.int .u8 p0.Head.A2.x0::.int .u8 p0.Head.A2.x1::.int .u8 p0.Head.A2.x2::.int .u8 p0.Head.A2.x3::.int .u8 p0.Head.A2.x4::.int .u8 p0.Head.A2.x5::.int .u8 p0.Head.A3.x0::.int .u8 p0.Head.A3.x1::.int .u8 p0.Head.A3.x2::.int .u8 p0.Head.A3.x3::.int .u8 p0.Head.A3.x4::.int .u8 p0.Head.A3.x5::.int .u8 p0.Head.A4.x0::.int .u8 p0.Head.A4.x1::.int .u8 p0.Head.A4.x2::.int .u8 p0.Head.A4.x3::.int .u8 p0.Head.A4.x4::.int .u8 p0.Head.A4.x5::.int .i64 p0.Head.Seq::.int .i64 p0.Head.Frag::.int .i64 p0.Head.Tid::.int .u8 p0.Head.Ack::.bool p0.Head.Amsdu::.bool p0.Head.Eosp::.ro 1 p0.Body.length false (enR c_u8 p0.Body)::[])],[],rfl,⟨(yR hk0_1 hw0),trivial⟩,trivial,trivial,⟨(yY vC),trivial⟩,⟨zW,trivial⟩,(by first|(simp only [noro,yK,and_self];done)|(simp only [noro,yK];and_intros<;>first|trivial|exact xX (by simp only [noro]) (by simp only [noro])|(simp only [noro,yK,and_self]))),?_⟩
  rw [Tryz.ntmps21]
  simp only [lC,lN,Nat.reduceAdd,Nat.reduceSub,rS,rZ,aC,aN]
  unfold F21 at H
  try dsimp only at H
  refine sq zA ?_
  simp only [go_sem]
  refine zC ?_
  refine zC ?_
  obtain ⟨r1,e2,H⟩:=bsi H
  obtain ⟨f3,H⟩:=zP.1 H
  replace f3:=xR.1 f3
  refine rg ct21t0_ok ?_
  simp only [go_sem,Nat.reduceLeDiff,Nat.reduceLT,Nat.reduceAdd,reduceCtorEq,ct21t0_42,dP,ct21t0_43,dR,e2]
  repeat ((with_reducible refine And.intro ?_ ?_);focus exact bn2 f3)
  refine zX rfl trivial (fun hc=>?_) (fun hc=>?_)
  ·replace H:=zL hc H
   cases H
  replace H:=zK hc H
  refine rg zA ?_
  simp only [go_sem]
  refine zC ?_
  refine sq zA ?_
  simp only [go_sem,Nat.reduceLT,Nat.reduceAdd]
  repeat ((with_reducible refine aI ?_ ?_);exact an0)
  refine zX rfl trivial (fun hc=>?_) (fun hc=>?_)
  ·replace H:=zL hc H
   cases H
  replace H:=zK hc H
  refine rg zA ?_
  simp only [go_sem]
  refine zC ?_
  obtain ⟨r4,e5,H⟩:=bsi H
  obtain ⟨f6,H⟩:=nC H
  obtain ⟨r7,e8,H⟩:=bsi H
  (try simp only [go_sem,Nat.reduceLeDiff,Nat.reduceLT,Nat.reduceAdd,Nat.reduceMul,Nat.reduceSub,Nat.reduceEqDiff,Nat.reduceBEq,Int.reduceToNat,reduceCtorEq] at e8)
  refine gQ [(29,[],[2])] zU ct21t1_ok 3 (by kernel_rfl) (by kernel_rfl) ?_
  intro an han
  simp only [vH,wI,tC,xrD,xoD,uY,vL,List.append_nil,xF,refs,vN,mask,wN,place,xU,wO,xV,hit,inL,xH,ren,rnN,nrH,nrB,rZ,rS,Nat.sub_self,Nat.add_zero,Nat.zero_add,Nat.reduceSub,Nat.lt_add_one,go_sem,Nat.reduceLeDiff,Nat.reduceLT,Nat.reduceAdd,Nat.reduceSub,Nat.reduceBEq,reduceCtorEq,ct21t1_44,body44,ct21t1_45,body45,e5,f6,e8]
  repeat ((with_reducible refine aI ?_ ?_);exact an6)
  refine rg zA ?_
  simp only [go_sem]
  obtain rfl:=Option.some.inj H
  refine yE [] [some 3] ?_ ?_ ?_ ?_ (by rfl) (by rfl)
  ·simp only [go_sem]
   try exact at0
  ·simp only [go_sem]
   try exact at0
  ·simp only [go_sem]
   exact cT
  ·simp only [go_sem,CvH]
   exact zJ vC cl (fun _ _ _ _=>rfl)
 ·cases hb
def ct8t0:Ct:=tab [(19,edC body19)]
theorem ct8t0_ok:yP Tryz.prog ct8t0:=zE ok19 <| zO
theorem ct8t0_19 (l:List AV) (h:List ABlk):ct8t0 19 l h=edC body19 l h:=rfl
def ct8t1:Ct:=tab [(20,edC body20)]
theorem ct8t1_ok:yP Tryz.prog ct8t1:=zE ok20 <| zO
theorem ct8t1_20 (l:List AV) (h:List ABlk):ct8t1 20 l h=edC body20 l h:=rfl
def ct8t2:Ct:=tab [(11,pureC jL),(21,edC body21)]
theorem ct8t2_ok:yP Tryz.prog ct8t2:=zE ok11 <| zE ok21 <| zO
theorem ct8t2_11 (l:List AV) (h:List ABlk):ct8t2 11 l h=pureC jL l h:=rfl
theorem ct8t2_21 (l:List AV) (h:List ABlk):ct8t2 21 l h=edC body21 l h:=rfl
def F8 (p0:TRegulateWord) (p1:A6u8):Option ((List Int) × Bool) :=
 (F19 p0).bind fun r1=>(F20 (TAction.mk 7 1 0 r1.1)).bind fun r3=>(F11).bind fun r5=>(F21 (TFrame.mk (THeader.mk 0 13 false false false false false false false 0 (A6u8.mk 255 255 255 255 255 255) (A6u8.mk p1.x0 p1.x1 p1.x2 p1.x3 p1.x4 p1.x5) (A6u8.mk r5.x0 r5.x1 r5.x2 r5.x3 r5.x4 r5.x5) (A6u8.mk 0 0 0 0 0 0) 0 0 0 0 false false) r3.1)).bind fun r7=>some (r7.1,((((bEq r1.2 0) && (bEq r3.2 0)) && (bEq r7.2 0)) && (bLt 0 (r7.1.length:Nat))))
def fD:List AV->List ABlk->ED
 | [v0,v1],h=>(fun z0=>.ed [] (aK 4 yV (roD (zH h []) v0)/\xJ (zH h []) v0/\aK 6 bG (roD (zH h []) v1)/\xJ (zH h []) v1/\z0.isSome=true) (.tup [.sl 0 1 0 (((gt z0).1).length) false,.bool ((gt z0).2)]) [.row 5 1 (((gt z0).1).length) (enR c_u8 ((gt z0).1))]) (F8 (zY (aL (roD (zH h []) v0))) (gW (aL (roD (zH h []) v1))))
 | _,_=>.fail
theorem ok8:FnOk Tryz.prog 8 (edC fD):=by
 refine xO fD (rs:=[.tmp 4,.tmp 5]) Tryz.func8 (by kernel_rfl) rfl rfl ?_
 intro l h bs ob q0 g0 hb hob
 unfold fD at hb
 dsimp only at hb
 split at hb
 ·rename_i v0 v1
  injection hb with q1 q2 q3 q4;subst q1 q2 q3 q4
  obtain ⟨hk0_0,hk0_1,hk1_0,hk1_1,hob⟩:=hob
  obtain ⟨r,H⟩:=oE.1 hob
  rw [H,zN]
  have hw0:=xY hk0_0
  obtain ⟨p0,hp_p0⟩:∃ p0,p0=zY (aL (roD (zH h []) v0)):=⟨_,rfl⟩
  rw [← hp_p0] at H hw0
  have hw1:=wA_A6u8 hk1_0
  obtain ⟨p1,hp_p1⟩:∃ p1,p1=gW (aL (roD (zH h []) v1)):=⟨_,rfl⟩
  rw [← hp_p1] at H hw1
  refine ⟨[.agg [.int .u8 p0.Kind,.int .i64 p0.Channel,.int .i64 p0.To,.int .i64 p0.At],.agg [.int .u8 p1.x0,.int .u8 p1.x1,.int .u8 p1.x2,.int .u8 p1.x3,.int .u8 p1.x4,.int .u8 p1.x5]],[],rfl,⟨(yR hk0_1 hw0),⟨(yR hk1_1 hw1),trivial⟩⟩,trivial,trivial,⟨(yY vC),trivial⟩,⟨zW,trivial⟩,(by first|(simp only [noro,yK,and_self];done)|(simp only [noro,yK];and_intros<;>first|trivial|exact xX (by simp only [noro]) (by simp only [noro])|(simp only [noro,yK,and_self]))),?_⟩
  rw [Tryz.ntmps8]
  simp only [lC,lN,Nat.reduceAdd,Nat.reduceSub,rS,rZ,aC,aN]
  unfold F8 at H
  try dsimp only at H
  refine sq zA ?_
  simp only [go_sem]
  refine zC ?_
  obtain ⟨r1,e2,H⟩:=bsi H
  refine rg ct8t0_ok ?_
  simp only [go_sem,Nat.reduceLT,Nat.reduceAdd,ct8t0_19,body19,e2]
  repeat ((with_reducible refine aI ?_ ?_);exact an0)
  refine zC ?_
  obtain ⟨r3,e4,H⟩:=bsi H
  refine rg ct8t1_ok ?_
  simp only [go_sem,Nat.reduceLeDiff,Nat.reduceLT,Nat.reduceAdd,ct8t1_20,body20,e4]
  repeat ((with_reducible refine aI ?_ ?_);exact an0)
  refine sq zA ?_
  simp only [go_sem,Nat.reduceLeDiff,Nat.reduceAdd]
  repeat ((with_reducible refine aI ?_ ?_);exact an4)
  refine zC ?_
  obtain ⟨r5,e6,H⟩:=bsi H
  obtain ⟨r7,e8,H⟩:=bsi H
  refine gQ [(32,[],[3])] zU ct8t2_ok 1 (by kernel_rfl) (by kernel_rfl) ?_
  intro an han
  simp only [vH,wI,tC,xrD,xoD,uY,vL,List.append_nil,xF,refs,vN,mask,wN,place,xU,wO,xV,hit,inL,xH,ren,qB,rnN,nrH,nrB,rZ,rS,Nat.sub_self,Nat.add_zero,Nat.zero_add,Nat.reduceSub,Nat.lt_add_one,go_sem,Nat.reduceLeDiff,Nat.reduceLT,Nat.reduceAdd,Nat.reduceSub,Nat.reduceBEq,ct8t2_11,jL,ct8t2_21,body21,e6,e8]
  repeat ((with_reducible refine aI ?_ ?_);exact an5)
  refine sq zA ?_
  simp only [go_sem]
  repeat ((with_reducible refine aI ?_ ?_);exact an3)
  refine rg zA ?_
  simp only [go_sem]
  obtain rfl:=Option.some.inj H
  refine yE [] [some 5] ?_ ?_ ?_ ?_ (by rfl) (by rfl)
  ·simp only [go_sem]
   try exact at0
  ·simp only [go_sem]
   try exact at0
  ·simp only [go_sem]
   exact cT
  ·simp only [go_sem,CvH]
   exact zJ vC cl (fun _ _ _ _=>rfl)
 ·cases hb
def ct89t0:Ct:=tab [(77,pureC dV)]
theorem ct89t0_ok:yP Tryz.prog ct89t0:=zE ok77 <| zO
theorem ct89t0_77 (l:List AV) (h:List ABlk):ct89t0 77 l h=pureC dV l h:=rfl
def F89 (p0:List Int) (p1:List Int):Option (Bool) :=
 (F77 p0).bind fun r1=>need (inb 0 p1.length) <| need (bif (bEq (wr .u8 (wW .u32 r1 24)) (gd p1 0)) then inb 1 p1.length else true) <| need (bif ((bEq (wr .u8 (wW .u32 r1 24)) (gd p1 0)) && (bEq (wr .u8 (wW .u32 r1 16)) (gd p1 1))) then inb 2 p1.length else true) <| need (bif (((bEq (wr .u8 (wW .u32 r1 24)) (gd p1 0)) && (bEq (wr .u8 (wW .u32 r1 16)) (gd p1 1))) && (bEq (wr .u8 (wW .u32 r1 8)) (gd p1 2))) then inb 3 p1.length else true) <| some ((((bEq (wr .u8 (wW .u32 r1 24)) (gd p1 0)) && (bEq (wr .u8 (wW .u32 r1 16)) (gd p1 1))) && (bEq (wr .u8 (wW .u32 r1 8)) (gd p1 2))) && (bEq (wr .u8 r1) (gd p1 3)))
def body89:List AV->AR
 | [v0,v1]=>.pure (lK k_u8 1 v0/\lK k_u8 1 v1/\(F89 (lA g_u8 v0) (lA g_u8 v1)).isSome=true) (.bool (gt (F89 (lA g_u8 v0) (lA g_u8 v1))))
 | _=>.fail
theorem ok89:FnOk Tryz.prog 89 (pureC body89):=by
 refine yM body89 (rs:=[.tmp 4]) Tryz.func89 (by kernel_rfl) rfl rfl ?_
 intro l ob v hb hob
 unfold body89 at hb
 split at hb
 ·rename_i v0 v1
  injection hb with q1 q2;subst q1 q2
  obtain ⟨hk0_0,hk1_0,hob⟩:=hob
  obtain ⟨r,H⟩:=oE.1 hob
  rw [H,zN]
  have hw0:=lK_wk (fun r h=>w_u8 h) hk0_0
  have hw1:=lK_wk (fun r h=>w_u8 h) hk1_0
  generalize lA g_u8 v0=p0 at H hw0
  generalize lA g_u8 v1=p1 at H hw1
  refine ⟨[.ro 1 p0.length false (enR c_u8 p0),.ro 1 p1.length false (enR c_u8 p1)],_,(fun E vs F=>yC hw0.1 F (fun vs F=>yC hw1.1 F (fun vs F=>F))),rfl,rfl,?_⟩
  rw [Tryz.ntmps89]
  simp only [lC,lN,Nat.reduceAdd,Nat.reduceSub,rS,rZ,aC,aN]
  unfold F89 at H
  try dsimp only at H
  refine sq zA ?_
  simp only [go_sem]
  refine zC ?_
  obtain ⟨r1,e2,H⟩:=bsi H
  refine rg ct89t0_ok ?_
  simp only [go_sem,ct89t0_77,dV,e2]
  repeat ((with_reducible refine aI ?_ ?_);exact an0)
  refine zC ?_
  obtain ⟨f3,H⟩:=nI H
  obtain ⟨f4,H⟩:=zP.1 H
  replace f4:=xR.1 f4
  replace f4:=fun g=>uF.1 (f4 g)
  obtain ⟨f5,H⟩:=zP.1 H
  replace f5:=xR.1 f5
  replace f5:=fun g=>uF.1 (f5 g)
  obtain ⟨f6,H⟩:=zP.1 H
  replace f6:=xR.1 f6
  replace f6:=fun g=>uF.1 (f6 g)
  refine rg zA ?_
  simp only [go_sem,Nat.reduceLT,Int.reduceToNat,f3]
  repeat ((with_reducible refine And.intro ?_ ?_);focus exact bn6 f4 f5 f6)
  refine rg zA ?_
  simp only [go_sem]
  obtain rfl:=Option.some.inj H
  exact fB
 ·cases hb
def ct88_0t0:Ct:=tab [(89,pureC body89)]
theorem ct88_0t0_ok:yP Tryz.prog ct88_0t0:=zE ok89 <| zO
theorem ct88_0t0_89 (l:List AV) (h:List ABlk):ct88_0t0 89 l h=pureC body89 l h:=rfl
def ct88_0t1:Ct:=tab [(78,edC dW)]
theorem ct88_0t1_ok:yP Tryz.prog ct88_0t1:=zE ok78 <| zO
theorem ct88_0t1_78 (l:List AV) (h:List ABlk):ct88_0t1 78 l h=edC dW l h:=rfl
def F88_0 (p0:List Int) (p1:Int):Option ((List Int) × Int) :=
 bif (bLt (p0.length:Nat) p1) then none else (need (slb 0 (wr .i64 ((p0.length:Nat) - p1)) p0.length) <| need (slb (wr .i64 ((p0.length:Nat) - p1)) (p0.length:Nat) p0.length) <| (F89 (deR g_u8 ((wr .i64 ((p0.length:Nat) - p1)).toNat) (enR c_u8 p0)) (deR g_u8 (p0.length - (wr .i64 ((p0.length:Nat) - p1)).toNat) (enR c_u8 (p0.drop ((wr .i64 ((p0.length:Nat) - p1)).toNat))))).bind fun r3=>bif (!r3) then (some ([],31)) else (need (slb 0 (wr .i64 ((p0.length:Nat) - p1)) p0.length) <| (F78 (deR g_u8 ((wr .i64 ((p0.length:Nat) - p1)).toNat) (enR c_u8 p0)) []).bind fun r7=>some (r7,0)))
def gO:List AV->Nat->AR
 | [v0,v1,.fn 89 []],_=>.pure (lK k_u8 1 v0/\iK .i64 v1/\(F88_0 (lA g_u8 v0) (iA v1)).isSome=true) (.tup [.ro 1 (((gt (F88_0 (lA g_u8 v0) (iA v1))).1).length) false (enR c_u8 ((gt (F88_0 (lA g_u8 v0) (iA v1))).1)),.int .i64 ((gt (F88_0 (lA g_u8 v0) (iA v1))).2)])
 | _,_=>.fail
theorem ok88_0:FnOk Tryz.prog 88 (jS gO):=by
 refine gen_fn gO (rs:=[.tmp 6,.tmp 7]) Tryz.func88 (by kernel_rfl) rfl rfl ?_
 intro l s ob v ns hb hob
 rcases hb with ⟨hb,rfl⟩|hb
 ·unfold gO at hb
  split at hb
  ·rename_i v0 v1
   injection hb with q1 q2;subst q1 q2
   obtain ⟨hk0_0,hk1_0,hob⟩:=hob
   obtain ⟨r,H⟩:=oE.1 hob
   rw [H,zN]
   have hw0:=lK_wk (fun r h=>w_u8 h) hk0_0
   have hw1:=iK_wk hk1_0
   generalize lA g_u8 v0=p0 at H hw0
   generalize iA v1=p1 at H hw1
   refine ⟨[.ro 1 p0.length false (enR c_u8 p0),.int .i64 p1,.fn 89 []],.tup [.ro 1 r.1.length false (enR c_u8 r.1),.int .i64 r.2],[],(fun E vs F=>yC hw0.1 F (fun vs F=>yC hw1.1 F (fun vs F=>yC (fn_wk fU) F (fun vs F=>F)))),by simp only [ren,qB],trivial,?_⟩
   rw [Tryz.ntmps88]
   simp only [lC,lN,Nat.reduceAdd,Nat.reduceSub,rS,rZ,aC,aN]
   unfold F88_0 at H
   try dsimp only at H
   refine sq zA ?_
   simp only [go_sem]
   refine zC ?_
   refine sq zA ?_
   simp only [go_sem]
   repeat ((with_reducible refine aI ?_ ?_);exact an0)
   refine zX rfl trivial (fun hc=>?_) (fun hc=>?_)
   ·replace H:=zL hc H
    cases H
   replace H:=zK hc H
   refine rg zA ?_
   simp only [go_sem]
   refine sq zA ?_
   simp only [go_sem]
   repeat ((with_reducible refine aI ?_ ?_);exact an0)
   refine zC ?_
   refine zC ?_
   obtain ⟨f1,H⟩:=nS H
   obtain ⟨f2,H⟩:=nS H
   obtain ⟨r3,e4,H⟩:=bsi H
   (try simp only [go_sem,Nat.reduceLeDiff,Nat.reduceLT,Nat.reduceAdd,Nat.reduceMul,Nat.reduceSub,Nat.reduceEqDiff,Nat.reduceBEq,Int.reduceToNat,reduceCtorEq] at e4)
   refine xZ zU ct88_0t0_ok (by kernel_rfl) (by kernel_rfl) ?_
   simp only [go_sem,ct88_0t0_89,body89,f1,f2,e4]
   repeat ((with_reducible refine aI ?_ ?_);exact an0)
   refine zX rfl trivial (fun hc=>?_) (fun hc=>?_)
   ·have hk5:(r3)=false:=by simpa using hc
    replace H:=zL hc H
    refine sq zA ?_
    simp only [go_sem]
    refine rg zA ?_
    simp only [go_sem]
    obtain rfl:=Option.some.inj H
    refine ⟨[],?_,?_,[],?_,?_,rfl⟩
    ·simp only [go_sem]
     try exact at0
    ·simp only [go_sem]
     try exact at0
    ·simp only [go_sem]
     exact gH (xB (Cv_ronil (α:=Int)) (xB uP uO))
    ·simp only [go_sem,CvH]
   have hk5:(r3)=true:=by simpa using hc
   replace H:=zK hc H
   refine rg zA ?_
   simp only [go_sem]
   refine zC ?_
   obtain ⟨f6,H⟩:=nS H
   obtain ⟨r7,e8,H⟩:=bsi H
   (try simp only [go_sem,Nat.reduceLeDiff,Nat.reduceLT,Nat.reduceAdd,Nat.reduceMul,Nat.reduceSub,Nat.reduceEqDiff,Nat.reduceBEq,Int.reduceToNat,reduceCtorEq] at e8)
   refine rg ct88_0t1_ok ?_
   simp only [go_sem,reduceCtorEq,ct88_0t1_78,dW,f6,e8]
   repeat ((with_reducible refine aI ?_ ?_);exact an0)
   refine rg zA ?_
   simp only [go_sem]
   obtain rfl:=Option.some.inj H
   refine ⟨[0],?_,?_,[],?_,?_,rfl⟩
   ·simp only [go_sem]
    try exact at0
   ·simp only [go_sem]
    try exact at0
   ·simp only [go_sem]
    exact gH (xB (ro_row (by first|rfl|simp) (fun _ _ _ _=>rfl)) (xB uP uO))
   ·simp only [go_sem,CvH]
  ·cases hb
 ·unfold gO at hb
  split at hb<;>cases hb
def ct54t0:Ct:=tab [(88,jS gO)]
theorem ct54t0_ok:yP Tryz.prog ct54t0:=zE ok88_0 <| zO
theorem ct54t0_88 (l:List AV) (h:List ABlk):ct54t0 88 l h=jS gO l h:=rfl
def F54 (p0:List Int):Option ((List Int) × Int) :=
 (F88_0 p0 4).bind fun r1=>some (r1.1,r1.2)
def body54:List AV->Nat->AR
 | [v0],_=>.pure (lK k_u8 1 v0/\(F54 (lA g_u8 v0)).isSome=true) (.tup [.ro 1 (((gt (F54 (lA g_u8 v0))).1).length) false (enR c_u8 ((gt (F54 (lA g_u8 v0))).1)),.int .i64 ((gt (F54 (lA g_u8 v0))).2)])
 | _,_=>.fail
theorem ok54:FnOk Tryz.prog 54 (jS body54):=by
 refine gen_fn body54 (rs:=[.tmp 2,.tmp 3]) Tryz.func54 (by kernel_rfl) rfl rfl ?_
 intro l s ob v ns hb hob
 rcases hb with ⟨hb,rfl⟩|hb
 ·unfold body54 at hb
  split at hb
  ·rename_i v0
   injection hb with q1 q2;subst q1 q2
   obtain ⟨hk0_0,hob⟩:=hob
   obtain ⟨r,H⟩:=oE.1 hob
   rw [H,zN]
   have hw0:=lK_wk (fun r h=>w_u8 h) hk0_0
   generalize lA g_u8 v0=p0 at H hw0
   refine ⟨[.ro 1 p0.length false (enR c_u8 p0)],.tup [.ro 1 r.1.length false (enR c_u8 r.1),.int .i64 r.2],[],(fun E vs F=>yC hw0.1 F (fun vs F=>F)),by simp only [ren,qB],trivial,?_⟩
   rw [Tryz.ntmps54]
   simp only [lC,lN,Nat.reduceAdd,Nat.reduceSub,rS,rZ,aC,aN]
   unfold F54 at H
   try dsimp only at H
   refine sq zA ?_
   simp only [go_sem]
   refine zC ?_
   obtain ⟨r1,e2,H⟩:=bsi H
   refine rg ct54t0_ok ?_
   simp only [go_sem,Nat.reduceLT,Nat.reduceAdd,ct54t0_88,gO,e2]
   repeat ((with_reducible refine aI ?_ ?_);exact an0)
   refine rg zA ?_
   simp only [go_sem]
   obtain rfl:=Option.some.inj H
   refine ⟨[],?_,?_,[],?_,?_,rfl⟩
   ·simp only [go_sem]
    try exact at0
   ·simp only [go_sem]
    try exact at0
   ·simp only [go_sem]
    exact gH (xB (Cv_nf (by simp only [nref])) (xB uP uO))
   ·simp only [go_sem,CvH]
  ·cases hb
 ·unfold body54 at hb
  split at hb<;>cases hb
def eE (p0:Tcursor) (p1:Int):Option ((List Int) × Tcursor) :=
 bif (bLt (p0.b.length:Nat) p1) then none else (need (slb 0 p1 p0.b.length) <| need (slb p1 (p0.b.length:Nat) p0.b.length) <| some ((List.take p1.toNat p0.b),(Tcursor.mk (p0.b.drop p1.toNat) p0.short)))
def uR:List AV->List ABlk->ED
 | [v0,v1],h=>(fun z0=>.ed [ptB v0] (pK 126 2 h v0/\tO (getL (kK h (yA h v0)))/\nref (getL (yA h v0) 0)/\nref (getL (yA h v0) 1)/\iK .i64 v1/\z0.isSome=true) (.ro 1 (((gt z0).1).length) false (enR c_u8 ((gt z0).1))) [.lit 126 [.ro 1 ((((gt z0).2).b).length) false (enR c_u8 (((gt z0).2).b)),.bool (((gt z0).2).short)]]) (eE (kS (getL (kK h (yA h v0)))) (iA v1))
 | _,_=>.fail
theorem ok55_0:FnOk Tryz.prog 55 (edC uR):=by
 refine edit_fnM uR (rs:=[.tmp 4]) Tryz.func55 (by kernel_rfl) rfl rfl ?_
 intro l h bs ob q0 g0 hb hob
 unfold uR at hb
 dsimp only at hb
 split at hb
 ·rename_i v0 v1
  injection hb with q1 q2 q3 q4;subst q1 q2 q3 q4
  obtain ⟨hk0_0,hk0_1,hk0_2,hk0_3,hk1_0,hob⟩:=hob
  obtain ⟨r,H⟩:=oE.1 hob
  rw [H,zN]
  obtain ⟨p0,hp0⟩:∃ p0,p0=kS (getL (kK h (yA h v0))):=⟨_,rfl⟩
  rw [← hp0] at H
  have hw0:∀ y,y < 2->WkV (getL (vS p0) y) (roW h (getL (yA h v0) y))/\nref (getL (vS p0) y):=fun y hy=>by rw [hp0,← yQ];exact w_Tcursor hk0_1 y hy
  have hk0_K:=hk0_1
  unfold tO at hk0_K
  obtain ⟨kk0_0,kk0_1⟩:=hk0_K
  have hw1:=iK_wk hk1_0
  obtain ⟨p1,hp_p1⟩:∃ p1,p1=iA v1:=⟨_,rfl⟩
  rw [← hp_p1] at H hw1
  refine ⟨[.ptr 0 0 0 0,.int .i64 p1],[.lit 126 [.ro 1 p0.b.length false (enR c_u8 p0.b),.bool p0.short]],rfl,⟨(EV_pK hk0_0 rfl),⟨(EV_wk hw1),trivial⟩⟩,⟨(EB_pK hk0_0 rfl rfl (fun y hy=>by
     match y,hy with
     | 0,_=>exact uQ hk0_2 (hw0 0 (by decide))
     | 1,_=>exact uQ hk0_3 (hw0 1 (by decide))
     | y+2,hy=>omega)),trivial⟩,⟨trivial,trivial⟩,?_⟩
  rw [Tryz.ntmps55]
  simp only [lC,lN,Nat.reduceAdd,Nat.reduceSub,rS,rZ,aC,aN]
  unfold eE at H
  try dsimp only at H
  refine sq zA ?_
  simp only [go_sem]
  refine zC ?_
  refine sq zA ?_
  simp only [go_sem,Nat.reduceLeDiff,Nat.reduceLT,Nat.reduceAdd]
  repeat ((with_reducible refine aI ?_ ?_);exact an0)
  refine zX rfl trivial (fun hc=>?_) (fun hc=>?_)
  ·replace H:=zL hc H
   cases H
  replace H:=zK hc H
  refine rg zA ?_
  simp only [go_sem]
  refine zC ?_
  obtain ⟨f1,H⟩:=nS H
  refine rg zA ?_
  simp only [go_sem,Nat.reduceLeDiff,Nat.reduceLT,Nat.reduceAdd,f1]
  repeat ((with_reducible refine aI ?_ ?_);exact an4)
  refine zC ?_
  obtain ⟨f2,H⟩:=nS H
  refine rg zA ?_
  simp only [go_sem,Nat.reduceLeDiff,Nat.reduceLT,Nat.reduceAdd,f2]
  repeat ((with_reducible refine aI ?_ ?_);exact an4)
  refine sq zA ?_
  simp only [go_sem]
  refine rg zA ?_
  simp only [go_sem]
  obtain rfl:=Option.some.inj H
  refine yE [] [some 0] ?_ ?_ ?_ ?_ (by rfl) (by rfl)
  ·simp only [go_sem]
   try exact at0
  ·simp only [go_sem]
   try exact at0
  ·simp only [go_sem]
   exact (ro_row (by rw [List.length_take];omega) take_row)
  ·simp only [go_sem,CvH]
   exact (by simp [CvB,CvL,Cv,uD,geth])
 ·cases hb
def ct57_0t0:Ct:=tab [(55,edC uR)]
theorem ct57_0t0_ok:yP Tryz.prog ct57_0t0:=zE ok55_0 <| zO
theorem ct57_0t0_55 (l:List AV) (h:List ABlk):ct57_0t0 55 l h=edC uR l h:=rfl
def F57_0 (p0:Tcursor):Option (Int × Tcursor) :=
 (eE p0 2).bind fun r1=>need (inb 0 r1.1.length) <| need (inb 1 r1.1.length) <| some (orI .i64 (wr .i64 (gd r1.1 0)) (cE .i64 (wr .i64 (gd r1.1 1)) 8),r1.2)
def gK:List AV->List ABlk->ED
 | [v0],h=>(fun z0=>.ed [ptB v0] (pK 126 2 h v0/\tO (getL (kK h (yA h v0)))/\nref (getL (yA h v0) 0)/\nref (getL (yA h v0) 1)/\z0.isSome=true) (.int .i64 ((gt z0).1)) [.lit 126 [.ro 1 ((((gt z0).2).b).length) false (enR c_u8 (((gt z0).2).b)),.bool (((gt z0).2).short)]]) (F57_0 (kS (getL (kK h (yA h v0)))))
 | _,_=>.fail
theorem ok57_0:FnOk Tryz.prog 57 (edC gK):=by
 refine edit_fnM gK (rs:=[.tmp 2]) Tryz.func57 (by kernel_rfl) rfl rfl ?_
 intro l h bs ob q0 g0 hb hob
 unfold gK at hb
 dsimp only at hb
 split at hb
 ·rename_i v0
  injection hb with q1 q2 q3 q4;subst q1 q2 q3 q4
  obtain ⟨hk0_0,hk0_1,hk0_2,hk0_3,hob⟩:=hob
  obtain ⟨r,H⟩:=oE.1 hob
  rw [H,zN]
  obtain ⟨p0,hp0⟩:∃ p0,p0=kS (getL (kK h (yA h v0))):=⟨_,rfl⟩
  rw [← hp0] at H
  have hw0:∀ y,y < 2->WkV (getL (vS p0) y) (roW h (getL (yA h v0) y))/\nref (getL (vS p0) y):=fun y hy=>by rw [hp0,← yQ];exact w_Tcursor hk0_1 y hy
  have hk0_K:=hk0_1
  unfold tO at hk0_K
  obtain ⟨kk0_0,kk0_1⟩:=hk0_K
  refine ⟨[.ptr 0 0 0 0],[.lit 126 [.ro 1 p0.b.length false (enR c_u8 p0.b),.bool p0.short]],rfl,⟨(EV_pK hk0_0 rfl),trivial⟩,⟨(EB_pK hk0_0 rfl rfl (fun y hy=>by
     match y,hy with
     | 0,_=>exact uQ hk0_2 (hw0 0 (by decide))
     | 1,_=>exact uQ hk0_3 (hw0 1 (by decide))
     | y+2,hy=>omega)),trivial⟩,⟨trivial,trivial⟩,?_⟩
  rw [Tryz.ntmps57]
  simp only [lC,lN,Nat.reduceAdd,Nat.reduceSub,rS,rZ,aC,aN]
  unfold F57_0 at H
  try dsimp only at H
  refine sq zA ?_
  simp only [go_sem]
  refine zC ?_
  obtain ⟨r1,e2,H⟩:=bsi H
  refine rg ct57_0t0_ok ?_
  simp only [go_sem,Nat.reduceAdd,ct57_0t0_55,uR,e2]
  repeat ((with_reducible refine aI ?_ ?_);exact an0)
  refine zC ?_
  obtain ⟨f3,H⟩:=nI H
  obtain ⟨f4,H⟩:=nI H
  refine xZ zU zA (by kernel_rfl) (by kernel_rfl) ?_
  simp only [go_sem,Nat.reduceLT,Int.reduceToNat,f3,f4]
  repeat ((with_reducible refine aI ?_ ?_);exact an4)
  refine rg zA ?_
  simp only [go_sem]
  obtain rfl:=Option.some.inj H
  refine yE [] [some 0] ?_ ?_ ?_ ?_ (by rfl) (by rfl)
  ·simp only [go_sem]
   try exact at0
  ·simp only [go_sem]
   try exact at0
  ·simp only [go_sem]
   exact uP
  ·simp only [go_sem,CvH]
   exact (by simp [CvB,CvL,Cv,uD,geth])
 ·cases hb
def ct26t0:Ct:=tab [(54,jS body54)]
theorem ct26t0_ok:yP Tryz.prog ct26t0:=zE ok54 <| zO
theorem ct26t0_54 (l:List AV) (h:List ABlk):ct26t0 54 l h=jS body54 l h:=rfl
def ct26t1:Ct:=tab [(55,edC uR)]
theorem ct26t1_ok:yP Tryz.prog ct26t1:=zE ok55_0 <| zO
theorem ct26t1_55 (l:List AV) (h:List ABlk):ct26t1 55 l h=edC uR l h:=rfl
def ct26t2:Ct:=tab [(57,edC gK)]
theorem ct26t2_ok:yP Tryz.prog ct26t2:=zE ok57_0 <| zO
theorem ct26t2_57 (l:List AV) (h:List ABlk):ct26t2 57 l h=edC gK l h:=rfl
def ct26t3:Ct:=tab [(42,pureC dP),(43,pureC dR)]
theorem ct26t3_ok:yP Tryz.prog ct26t3:=zE ok42 <| zE ok43 <| zO
theorem ct26t3_42 (l:List AV) (h:List ABlk):ct26t3 42 l h=pureC dP l h:=rfl
theorem ct26t3_43 (l:List AV) (h:List ABlk):ct26t3 43 l h=pureC dR l h:=rfl
def F26 (p0:List Int):Option (TFrame × Int) :=
 (F54 p0).bind fun r1=>bif (!bEq r1.2 0) then (some ((TFrame.mk (THeader.mk 0 0 false false false false false false false 0 (A6u8.mk 0 0 0 0 0 0) (A6u8.mk 0 0 0 0 0 0) (A6u8.mk 0 0 0 0 0 0) (A6u8.mk 0 0 0 0 0 0) 0 0 0 0 false false) []),r1.2)) else ((eE (Tcursor.mk r1.1 false) 2).bind fun r4=>bif r4.2.short then none else (need (inb 1 r4.1.length) <| need (inb 0 r4.1.length) <| need (inb 0 r4.1.length) <| bif bEq (uE .u8 (wW .u8 (gd r4.1 0) 2) 3) 0 then (bif bEq (wW .u8 (gd r4.1 0) 4) 13 then (need (inb 0 r4.1.length) <| bif ((!bEq (uE .u8 (gd r4.1 0) 3) 0) || (!bEq (uE .u8 (gd r4.1 1) 128) 0)) then none else ((F57_0 r4.2).bind fun r12=>(eE r12.2 6).bind fun r15=>need (decide (6 <= r15.1.length)) <| (eE r15.2 6).bind fun r18=>need (decide (6 <= r18.1.length)) <| (eE r18.2 6).bind fun r21=>need (decide (6 <= r21.1.length)) <| (F57_0 r21.2).bind fun r24=>bif r24.2.short then none else ((F42 (THeader.mk 0 13 (!bEq (uE .u8 (gd r4.1 1) 1) 0) (!bEq (uE .u8 (gd r4.1 1) 2) 0) (!bEq (uE .u8 (gd r4.1 1) 4) 0) (!bEq (uE .u8 (gd r4.1 1) 8) 0) (!bEq (uE .u8 (gd r4.1 1) 16) 0) (!bEq (uE .u8 (gd r4.1 1) 32) 0) (!bEq (uE .u8 (gd r4.1 1) 64) 0) r12.1 (A6u8.mk (gd r15.1 0) (gd r15.1 1) (gd r15.1 2) (gd r15.1 3) (gd r15.1 4) (gd r15.1 5)) (A6u8.mk (gd r18.1 0) (gd r18.1 1) (gd r18.1 2) (gd r18.1 3) (gd r18.1 4) (gd r18.1 5)) (A6u8.mk (gd r21.1 0) (gd r21.1 1) (gd r21.1 2) (gd r21.1 3) (gd r21.1 4) (gd r21.1 5)) (A6u8.mk 0 0 0 0 0 0) (wW .i64 r24.1 4) (uE .i64 r24.1 15) 0 0 false false)).bind fun r27=>need (bif (bEq r27 0) then ((F43 (THeader.mk 0 13 (!bEq (uE .u8 (gd r4.1 1) 1) 0) (!bEq (uE .u8 (gd r4.1 1) 2) 0) (!bEq (uE .u8 (gd r4.1 1) 4) 0) (!bEq (uE .u8 (gd r4.1 1) 8) 0) (!bEq (uE .u8 (gd r4.1 1) 16) 0) (!bEq (uE .u8 (gd r4.1 1) 32) 0) (!bEq (uE .u8 (gd r4.1 1) 64) 0) r12.1 (A6u8.mk (gd r15.1 0) (gd r15.1 1) (gd r15.1 2) (gd r15.1 3) (gd r15.1 4) (gd r15.1 5)) (A6u8.mk (gd r18.1 0) (gd r18.1 1) (gd r18.1 2) (gd r18.1 3) (gd r18.1 4) (gd r18.1 5)) (A6u8.mk (gd r21.1 0) (gd r21.1 1) (gd r21.1 2) (gd r21.1 3) (gd r21.1 4) (gd r21.1 5)) (A6u8.mk 0 0 0 0 0 0) (wW .i64 r24.1 4) (uE .i64 r24.1 15) 0 0 false false)).isSome) else true) <| bif ((!bEq r27 0) || ((gt (F43 (THeader.mk 0 13 (!bEq (uE .u8 (gd r4.1 1) 1) 0) (!bEq (uE .u8 (gd r4.1 1) 2) 0) (!bEq (uE .u8 (gd r4.1 1) 4) 0) (!bEq (uE .u8 (gd r4.1 1) 8) 0) (!bEq (uE .u8 (gd r4.1 1) 16) 0) (!bEq (uE .u8 (gd r4.1 1) 32) 0) (!bEq (uE .u8 (gd r4.1 1) 64) 0) r12.1 (A6u8.mk (gd r15.1 0) (gd r15.1 1) (gd r15.1 2) (gd r15.1 3) (gd r15.1 4) (gd r15.1 5)) (A6u8.mk (gd r18.1 0) (gd r18.1 1) (gd r18.1 2) (gd r18.1 3) (gd r18.1 4) (gd r18.1 5)) (A6u8.mk (gd r21.1 0) (gd r21.1 1) (gd r21.1 2) (gd r21.1 3) (gd r21.1 4) (gd r21.1 5)) (A6u8.mk 0 0 0 0 0 0) (wW .i64 r24.1 4) (uE .i64 r24.1 15) 0 0 false false))) && (bLt 0 (r24.2.b.length:Nat)))) then none else (bif (bLt 2304 (r24.2.b.length:Nat)) then none else (need (capb 1 r24.2.b.length) <| some ((TFrame.mk (THeader.mk 0 13 (!bEq (uE .u8 (gd r4.1 1) 1) 0) (!bEq (uE .u8 (gd r4.1 1) 2) 0) (!bEq (uE .u8 (gd r4.1 1) 4) 0) (!bEq (uE .u8 (gd r4.1 1) 8) 0) (!bEq (uE .u8 (gd r4.1 1) 16) 0) (!bEq (uE .u8 (gd r4.1 1) 32) 0) (!bEq (uE .u8 (gd r4.1 1) 64) 0) r12.1 (A6u8.mk (gd r15.1 0) (gd r15.1 1) (gd r15.1 2) (gd r15.1 3) (gd r15.1 4) (gd r15.1 5)) (A6u8.mk (gd r18.1 0) (gd r18.1 1) (gd r18.1 2) (gd r18.1 3) (gd r18.1 4) (gd r18.1 5)) (A6u8.mk (gd r21.1 0) (gd r21.1 1) (gd r21.1 2) (gd r21.1 3) (gd r21.1 4) (gd r21.1 5)) (A6u8.mk 0 0 0 0 0 0) (wW .i64 r24.1 4) (uE .i64 r24.1 15) 0 0 false false) ([] ++ r24.2.b)),0)))))) else (none)) else (none)))
def body26:List AV->List ABlk->ED
 | [v0],h=>(fun z1=>(fun z0=>.ed [] (lK k_u8 1 (roD (zH h []) v0)/\xJ (zH h []) v0/\(F26 (lA g_u8 (roD (zH h []) v0))).isSome=true) (.tup [.agg (.int .u8 (z0.Kind)::.int .u8 (z0.Sub)::.bool (z0.ToDs)::.bool (z0.FromDs)::.bool (z0.More)::.bool (z0.Retry)::.bool (z0.Sleep)::.bool (z0.MoreData)::.bool (z0.Protected)::.int .i64 (z0.Duration)::.int .u8 ((z0.A1).x0)::.int .u8 ((z0.A1).x1)::.int .u8 ((z0.A1).x2)::.int .u8 ((z0.A1).x3)::.int .u8 ((z0.A1).x4)::.int .u8 ((z0.A1).x5)::.int .u8 ((z0.A2).x0)::.int .u8 ((z0.A2).x1)::.int .u8 ((z0.A2).x2)::.int .u8 ((z0.A2).x3)::.int .u8 ((z0.A2).x4)::.int .u8 ((z0.A2).x5)::.int .u8 ((z0.A3).x0)::.int .u8 ((z0.A3).x1)::.int .u8 ((z0.A3).x2)::.int .u8 ((z0.A3).x3)::.int .u8 ((z0.A3).x4)::.int .u8 ((z0.A3).x5)::.int .u8 ((z0.A4).x0)::.int .u8 ((z0.A4).x1)::.int .u8 ((z0.A4).x2)::.int .u8 ((z0.A4).x3)::.int .u8 ((z0.A4).x4)::.int .u8 ((z0.A4).x5)::.int .i64 (z0.Seq)::.int .i64 (z0.Frag)::.int .i64 (z0.Tid)::.int .u8 (z0.Ack)::.bool (z0.Amsdu)::.bool (z0.Eosp)::.sl 0 1 0 (((z1.1).Body).length) false::[]),.int .i64 (z1.2)]) [.row 5 1 (((z1.1).Body).length) (enR c_u8 ((z1.1).Body))]) ((z1.1).Head)) (gt (F26 (lA g_u8 (roD (zH h []) v0))))
 | _,_=>.fail
theorem ok26:FnOk Tryz.prog 26 (edC body26):=by
 refine xO body26 (rs:=[.cell 2 75,.tmp 3]) Tryz.func26 (by kernel_rfl) rfl rfl ?_
 intro l h bs ob q0 g0 hb hob
 unfold body26 at hb
 dsimp only at hb
 split at hb
 ·rename_i v0
  injection hb with q1 q2 q3 q4;subst q1 q2 q3 q4
  obtain ⟨hk0_0,hk0_1,hob⟩:=hob
  obtain ⟨r,H⟩:=oE.1 hob
  rw [H,zN]
  have hw0:=lK_wk (fun r h=>w_u8 h) hk0_0
  obtain ⟨p0,hp_p0⟩:∃ p0,p0=lA g_u8 (roD (zH h []) v0):=⟨_,rfl⟩
  rw [← hp_p0] at H hw0
  refine ⟨[.ro 1 p0.length false (enR c_u8 p0)],[],rfl,⟨(yR hk0_1 hw0),trivial⟩,trivial,trivial,⟨(yY vC),trivial⟩,⟨zW,trivial⟩,(by first|(simp only [noro,yK,and_self];done)|(simp only [noro,yK];and_intros<;>first|trivial|exact xX (by simp only [noro]) (by simp only [noro])|(simp only [noro,yK,and_self]))),?_⟩
  rw [Tryz.ntmps26]
  simp only [lC,lN,Nat.reduceAdd,Nat.reduceSub,rS,rZ,aC,aN]
  unfold F26 at H
  try dsimp only at H
  refine sq zA ?_
  simp only [go_sem]
  refine zC ?_
  obtain ⟨r1,e2,H⟩:=bsi H
  refine rg ct26t0_ok ?_
  simp only [go_sem,Nat.reduceLT,Nat.reduceAdd,ct26t0_54,body54,e2]
  repeat ((with_reducible refine aI ?_ ?_);exact an0)
  refine zC ?_
  refine sq zA ?_
  simp only [go_sem]
  refine zX rfl trivial (fun hc=>?_) (fun hc=>?_)
  ·have hk3:(bEq r1.2 0)=false:=by simpa using hc
   replace H:=zL hc H
   refine sq zA ?_
   simp only [go_sem,Nat.reduceAdd]
   repeat ((with_reducible refine aI ?_ ?_);exact an4)
   refine rg zA ?_
   simp only [go_sem,Nat.reduceLT,Nat.reduceAdd]
   obtain rfl:=Option.some.inj H
   refine yE [] [none] ?_ ?_ ?_ ?_ (by rfl) (by rfl)
   ·simp only [go_sem]
    try exact at0
   ·simp only [go_sem]
    try exact at0
   ·simp only [go_sem]
    exact cT
   ·simp only [go_sem,CvH]
    exact zQ
  have hk3:(bEq r1.2 0)=true:=by simpa using hc
  replace H:=zK hc H
  refine rg zA ?_
  simp only [go_sem]
  refine sq zA ?_
  simp only [go_sem,Nat.reduceLeDiff,Nat.reduceAdd]
  refine zC ?_
  obtain ⟨r4,e5,H⟩:=bsi H
  refine rg ct26t1_ok ?_
  simp only [go_sem,Nat.reduceAdd,ct26t1_55,uR,e5]
  repeat ((with_reducible refine aI ?_ ?_);exact an0)
  refine zC ?_
  refine sq zA ?_
  simp only [go_sem,Nat.reduceLT,Nat.reduceAdd]
  repeat ((with_reducible refine aI ?_ ?_);exact an4)
  refine zX rfl trivial (fun hc=>?_) (fun hc=>?_)
  ·replace H:=zL hc H
   cases H
  replace H:=zK hc H
  refine rg zA ?_
  simp only [go_sem]
  refine zC ?_
  obtain ⟨f6,H⟩:=nI H
  refine rg zA ?_
  simp only [go_sem,Nat.reduceLT,Int.reduceToNat,f6]
  repeat ((with_reducible refine aI ?_ ?_);exact an4)
  refine zC ?_
  obtain ⟨f7,H⟩:=nI H
  obtain ⟨f8,H⟩:=nI H
  refine xC zU zA 1 (by kernel_rfl) (by kernel_rfl) ?_
  intro an han
  simp only [vH,wI,tC,xrD,xoD,uY,vL,List.append_nil,xF,refs,mask,wN,place,xU,wO,xV,hit,inL,xH,ren,rnN,nrH,nrB,nrL,nr,rZ,rS,Nat.sub_self,Nat.add_zero,Nat.zero_add,Nat.reduceSub,Nat.lt_add_one,go_sem,Nat.reduceLeDiff,Nat.reduceAdd,Nat.reduceSub,Nat.reduceBEq,f7]
  repeat ((with_reducible refine aI ?_ ?_);exact an5)
  refine zC ?_
  refine wG (c:=(bEq (uE .u8 (wW .u8 (gd r4.1 0) 2) 3) 0)) (fun hv9=>?_) (fun hv9=>?_)
  ·replace H:=zL hv9 H
   have hv9_:uE .u8 (wW .u8 (gd r4.1 0) 2) 3=0:=of_decide_eq_true hv9
   rw [hv9_]
   refine wG (c:=(bEq (wW .u8 (gd r4.1 0) 4) 13)) (fun hv10=>?_) (fun hv10=>?_)
   ·replace H:=zL hv10 H
    have hv10_:wW .u8 (gd r4.1 0) 4=13:=of_decide_eq_true hv10
    rw [hv10_]
    refine qP ?_
    refine wL zU zA 4 ?_
    simp only [zV,tS,tZ,dS,dZ,go_sem,Nat.reduceLeDiff,Nat.reduceLT,Nat.reduceAdd]
    repeat ((with_reducible refine aI ?_ ?_);exact an0)
    refine inlO (rs:=[.cell 4 129,.tmp 5]) Tryz.func56 (by kernel_rfl) rfl rfl Tryz.ntmps56 (caps:=[]) (tc:=[.int .u8 0,.int .u8 13]) rfl (by simp only [go_sem]) rfl ?_
    simp only [lC,lN,Nat.reduceAdd,Nat.reduceSub,rS,rZ,aC,aN]
    refine sq zA ?_
    simp only [go_sem,Nat.reduceAdd]
    refine zC ?_
    refine sq zA ?_
    simp only [go_sem]
    refine xN ?_
    refine sq zA ?_
    simp only [go_sem,(by decide:bEq (0) (0)=true)]
    refine zX rfl trivial (fun hc=>?_) (fun hc=>?_)
    rotate_left
    ·cases hc
    refine sq zA ?_
    simp only [go_sem,Nat.reduceLeDiff,Nat.reduceAdd,(by decide:bLe (13) (5)=false),(by decide:bEq (13) (8)=false),(by decide:bLe (10) (13)=true),(by decide:bLe (13) (13)=true)]
    repeat ((with_reducible refine aI ?_ ?_);exact an4)
    refine rg zA ?_
    simp only [go_sem,Nat.reduceLT,Nat.reduceAdd]
    refine wL zU zA 6 ?_
    simp only [zV,tS,tZ,dS,dZ,go_sem,Nat.reduceLT,Nat.reduceAdd]
    repeat ((with_reducible refine aI ?_ ?_);exact an0)
    refine tY ?_
    refine zC ?_
    refine zC ?_
    obtain ⟨f11,H⟩:=nI H
    refine rg zA ?_
    simp only [go_sem,Nat.reduceLT,f11]
    repeat ((with_reducible refine aI ?_ ?_);exact an4)
    refine zX rfl trivial (fun hc=>?_) (fun hc=>?_)
    ·replace H:=zL hc H
     cases H
    replace H:=zK hc H
    refine rg zA ?_
    simp only [go_sem]
    refine sq zA ?_
    simp only [go_sem,Nat.reduceLeDiff,Nat.reduceAdd]
    repeat ((with_reducible refine aI ?_ ?_);exact an4)
    refine sq zA ?_
    simp only [go_sem,Nat.reduceLeDiff,Nat.reduceAdd]
    repeat ((with_reducible refine aI ?_ ?_);exact an4)
    refine zC ?_
    obtain ⟨r12,e13,H⟩:=bsi H
    refine rg ct26t2_ok ?_
    simp only [go_sem,Nat.reduceLeDiff,Nat.reduceAdd,ct26t2_57,gK,e13]
    repeat ((with_reducible refine aI ?_ ?_);exact an0)
    refine zC ?_
    refine qP ?_
    refine wL zU zA 0 ?_
    simp only [zV,tZ,dZ,go_sem]
    repeat ((with_reducible refine aI ?_ ?_);exact an0)
    refine inlO (rs:=[.tmp 2,.tmp 3]) Tryz.func58 (by kernel_rfl) rfl rfl Tryz.ntmps58 (caps:=[]) (tc:=[.ptr 2 0 0 0]) rfl (by simp only [go_sem]) rfl ?_
    simp only [lC,lN,Nat.reduceAdd,Nat.reduceSub,rS,rZ,aC,aN]
    refine sq zA ?_
    simp only [go_sem]
    refine zC ?_
    refine xC zU zA 1 (by kernel_rfl) (by kernel_rfl) ?_
    intro an han
    simp only [vH,wI,tC,xrD,xoD,uY,vL,List.append_nil,xF,refs,mask,wN,place,xU,wO,xV,hit,inL,xH,ren,rnN,nrH,nrB,nrL,nr,rZ,rS,Nat.sub_self,Nat.add_zero,Nat.zero_add,Nat.reduceSub,Nat.lt_add_one,go_sem,Nat.reduceLeDiff,Nat.reduceLT,Nat.reduceAdd,Nat.reduceSub,Nat.reduceBEq,reduceCtorEq]
    repeat ((with_reducible refine aI ?_ ?_);exact an5)
    refine zC ?_
    refine xN ?_
    refine sq zA ?_
    simp only [go_sem,Nat.reduceLeDiff,Nat.reduceLT,Nat.reduceAdd,(by decide:bEq (0) (1)=false)]
    repeat ((with_reducible refine aI ?_ ?_);exact an4)
    refine zX rfl trivial (fun hc=>?_) (fun hc=>?_)
    ·cases hc
    refine sq zA ?_
    simp only [go_sem,Nat.reduceLeDiff,Nat.reduceLT,Nat.reduceAdd,(by decide:bEq (0) (1)=false)]
    repeat ((with_reducible refine aI ?_ ?_);exact an4)
    refine zX rfl trivial (fun hc=>?_) (fun hc=>?_)
    ·cases hc
    refine sq zA ?_
    simp only [go_sem,Nat.reduceLeDiff,Nat.reduceLT,Nat.reduceAdd,(by decide:bEq (0) (2)=false)]
    repeat ((with_reducible refine aI ?_ ?_);exact an4)
    refine zX rfl trivial (fun hc=>?_) (fun hc=>?_)
    ·cases hc
    refine rg zA ?_
    simp only [go_sem]
    refine sq zA ?_
    simp only [go_sem,Nat.reduceLeDiff,Int.reduceToNat]
    repeat ((with_reducible refine aI ?_ ?_);exact an4)
    refine rg zA ?_
    simp only [go_sem]
    refine wL zU zA 5 ?_
    simp only [zV,tS,tZ,dS,dZ,go_sem,Nat.reduceLT,Nat.reduceAdd]
    repeat ((with_reducible refine aI ?_ ?_);exact an2)
    refine tY ?_
    refine zC ?_
    refine sq zA ?_
    simp only [go_sem]
    repeat ((with_reducible refine aI ?_ ?_);exact an2)
    refine xN ?_
    refine tP 4 ?_
    refine cD ?_
    refine sq zA ?_
    simp only [go_sem,(by decide:bLt (0) (3)=true)]
    refine zC ?_
    refine zX rfl trivial (fun hc=>?_) (fun hc=>?_)
    rotate_left
    ·cases hc
    refine rg zA ?_
    simp only [go_sem]
    refine zC ?_
    refine xN ?_
    refine sq zA ?_
    simp only [go_sem,Nat.reduceLeDiff,Nat.reduceLT,Nat.reduceAdd]
    repeat ((with_reducible refine aI ?_ ?_);exact an4)
    obtain ⟨r15,e16,H⟩:=bsi H
    obtain ⟨f17,H⟩:=zP.1 H
    replace f17:=decide_eq_true_iff.1 f17
    refine xC zU ct26t1_ok 0 (by kernel_rfl) (by kernel_rfl) ?_
    intro an han
    simp only [vH,wI,tC,xrD,xoD,uY,vL,List.append_nil,xF,refs,vN,mask,wN,place,xU,wO,xV,hit,inL,xH,ren,nrH,nrB,nrL,nr,rZ,Nat.sub_self,Nat.add_zero,Nat.zero_add,Nat.reduceSub,Nat.lt_add_one,go_sem,Nat.reduceLeDiff,Nat.reduceLT,Nat.reduceAdd,Nat.reduceSub,Nat.reduceBEq,Int.reduceToNat,reduceCtorEq,ct26t1_55,uR,e16,f17]
    repeat ((with_reducible refine aI ?_ ?_);exact an7)
    refine rg zA ?_
    simp only [go_sem,(by decide:wr IntKind.i64 ((0:Int)+1)=1)]
    refine cD ?_
    refine sq zA ?_
    simp only [go_sem,(by decide:bLt (1) (3)=true)]
    refine zC ?_
    refine zX rfl trivial (fun hc=>?_) (fun hc=>?_)
    rotate_left
    ·cases hc
    refine rg zA ?_
    simp only [go_sem]
    refine zC ?_
    refine xN ?_
    refine sq zA ?_
    simp only [go_sem,Nat.reduceLeDiff,Nat.reduceLT,Nat.reduceAdd,Int.reduceToNat]
    repeat ((with_reducible refine aI ?_ ?_);exact an4)
    obtain ⟨r18,e19,H⟩:=bsi H
    obtain ⟨f20,H⟩:=zP.1 H
    replace f20:=decide_eq_true_iff.1 f20
    refine xC zU ct26t1_ok 0 (by kernel_rfl) (by kernel_rfl) ?_
    intro an han
    simp only [vH,wI,tC,xrD,xoD,uY,vL,List.append_nil,xF,refs,vN,mask,wN,place,xU,wO,xV,hit,inL,xH,ren,nrH,nrB,nrL,nr,rZ,Nat.sub_self,Nat.add_zero,Nat.zero_add,Nat.reduceSub,Nat.lt_add_one,go_sem,Nat.reduceLeDiff,Nat.reduceLT,Nat.reduceAdd,Nat.reduceSub,Nat.reduceBEq,Int.reduceToNat,reduceCtorEq,ct26t1_55,uR,e19,f20]
    repeat ((with_reducible refine aI ?_ ?_);exact an7)
    refine rg zA ?_
    simp only [go_sem,(by decide:wr IntKind.i64 ((1:Int)+1)=2)]
    refine cD ?_
    refine sq zA ?_
    simp only [go_sem,(by decide:bLt (2) (3)=true)]
    refine zC ?_
    refine zX rfl trivial (fun hc=>?_) (fun hc=>?_)
    rotate_left
    ·cases hc
    refine rg zA ?_
    simp only [go_sem]
    refine zC ?_
    refine xN ?_
    refine sq zA ?_
    simp only [go_sem,Nat.reduceLeDiff,Nat.reduceLT,Nat.reduceAdd,Int.reduceToNat]
    repeat ((with_reducible refine aI ?_ ?_);exact an4)
    obtain ⟨r21,e22,H⟩:=bsi H
    obtain ⟨f23,H⟩:=zP.1 H
    replace f23:=decide_eq_true_iff.1 f23
    refine xC zU ct26t1_ok 0 (by kernel_rfl) (by kernel_rfl) ?_
    intro an han
    simp only [vH,wI,tC,xrD,xoD,uY,vL,List.append_nil,xF,refs,vN,mask,wN,place,xU,wO,xV,hit,inL,xH,ren,nrH,nrB,nrL,nr,rZ,Nat.sub_self,Nat.add_zero,Nat.zero_add,Nat.reduceSub,Nat.lt_add_one,go_sem,Nat.reduceLeDiff,Nat.reduceLT,Nat.reduceAdd,Nat.reduceSub,Nat.reduceBEq,Int.reduceToNat,reduceCtorEq,ct26t1_55,uR,e22,f23]
    repeat ((with_reducible refine aI ?_ ?_);exact an7)
    refine rg zA ?_
    simp only [go_sem,(by decide:wr IntKind.i64 ((2:Int)+1)=3)]
    refine cD ?_
    refine sq zA ?_
    simp only [go_sem,(by decide:bLt (3) (3)=false)]
    refine zC ?_
    refine zX rfl trivial (fun hc=>?_) (fun hc=>?_)
    ·cases hc
    refine rg zA ?_
    simp only [go_sem]
    refine zC ?_
    refine sq zA ?_
    simp only [go_sem,Nat.reduceLeDiff,Nat.reduceLT,Nat.reduceAdd]
    repeat ((with_reducible refine aI ?_ ?_);exact an4)
    refine zX rfl trivial (fun hc=>?_) (fun hc=>?_)
    rotate_left
    ·cases hc
    refine zC ?_
    obtain ⟨r24,e25,H⟩:=bsi H
    refine rg ct26t2_ok ?_
    simp only [go_sem,Nat.reduceAdd,ct26t2_57,gK,e25]
    repeat ((with_reducible refine aI ?_ ?_);exact an2)
    refine rg zA ?_
    simp only [go_sem,Nat.reduceLeDiff,Nat.reduceAdd]
    repeat ((with_reducible refine aI ?_ ?_);exact an4)
    refine zC ?_
    refine sq zA ?_
    simp only [go_sem]
    repeat ((with_reducible refine aI ?_ ?_);exact an2)
    refine xN ?_
    refine tP 1 ?_
    refine cD ?_
    refine sq zA ?_
    simp only [go_sem,(by decide:bLt (0) (0)=false)]
    refine zC ?_
    refine zX rfl trivial (fun hc=>?_) (fun hc=>?_)
    ·cases hc
    refine rg zA ?_
    simp only [go_sem]
    refine sq zA ?_
    simp only [go_sem]
    refine zC ?_
    refine sq zA ?_
    simp only [go_sem,Nat.reduceLT,Nat.reduceAdd]
    repeat ((with_reducible refine aI ?_ ?_);exact an4)
    refine zX rfl trivial (fun hc=>?_) (fun hc=>?_)
    ·cases hc
    refine rg zA ?_
    simp only [go_sem]
    refine zC ?_
    refine sq zA ?_
    simp only [go_sem,Nat.reduceLT,Nat.reduceAdd]
    repeat ((with_reducible refine aI ?_ ?_);exact an4)
    refine zX rfl trivial (fun hc=>?_) (fun hc=>?_)
    ·replace H:=zL hc H
     cases H
    replace H:=zK hc H
    refine rg zA ?_
    simp only [go_sem]
    refine zC ?_
    refine zC ?_
    obtain ⟨r27,e28,H⟩:=bsi H
    obtain ⟨f29,H⟩:=zP.1 H
    replace f29:=xR.1 f29
    refine rg ct26t3_ok ?_
    simp only [go_sem,Nat.reduceLeDiff,Nat.reduceLT,Nat.reduceAdd,ct26t3_42,dP,ct26t3_43,dR,e28]
    repeat ((with_reducible refine And.intro ?_ ?_);focus exact bn4 f29)
    refine zX rfl trivial (fun hc=>?_) (fun hc=>?_)
    ·replace H:=zL hc H
     cases H
    replace H:=zK hc H
    refine rg zA ?_
    simp only [go_sem]
    refine zC ?_
    refine sq zA ?_
    simp only [go_sem,Nat.reduceLeDiff,Nat.reduceLT,Nat.reduceAdd]
    repeat ((with_reducible refine aI ?_ ?_);exact an2)
    refine zX rfl trivial (fun hc=>?_) (fun hc=>?_)
    ·replace H:=zL hc H
     cases H
    replace H:=zK hc H
    refine rg zA ?_
    simp only [go_sem]
    refine zC ?_
    obtain ⟨f30,H⟩:=nC H
    refine xC zU zA 2 (by kernel_rfl) (by kernel_rfl) ?_
    intro an han
    simp only [vH,wI,tC,xrD,xoD,uY,vL,List.append_nil,xF,refs,vN,mask,wN,place,xU,wO,xV,hit,inL,xH,ren,rnN,nrH,nrB,nrL,nr,rZ,rS,Nat.sub_self,Nat.add_zero,Nat.zero_add,Nat.reduceSub,Nat.not_lt_zero,Nat.zero_le,Nat.lt_add_one,go_sem,Nat.reduceLeDiff,Nat.reduceLT,Nat.reduceAdd,Nat.reduceSub,Nat.reduceBEq,f30]
    repeat ((with_reducible refine aI ?_ ?_);exact an6)
    refine rg zA ?_
    simp only [go_sem,Nat.reduceLT,Nat.reduceAdd]
    obtain rfl:=Option.some.inj H
    refine yE [] [some 7] ?_ ?_ ?_ ?_ (by rfl) (by rfl)
    ·simp only [go_sem]
     try exact at0
    ·simp only [go_sem]
     try exact at0
    ·simp only [go_sem]
     exact cT
    ·simp only [go_sem,Nat.reduceAdd,CvH]
     exact zJ vC cl (vO (f:=c_u8) [] r24.2.b (wS (f:=c_u8) [] (fun _ _=>rfl) rfl) (fun _ _ _ _=>rfl))
   replace H:=zK hv10 H
   cases H
  replace H:=zK hv9 H
  cases H
 ·cases hb
def F98 (p0:TReader):Option (Int) :=
 bif ((bLt p0.At 0) || (bLt (p0.Data.length:Nat) p0.At)) then (some 8) else (some 0)
def body98:List AV->AR
 | [v0]=>.pure (aK 2 uX v0/\(F98 (yX (aL v0))).isSome=true) (.int .i64 (gt (F98 (yX (aL v0)))))
 | _=>.fail
theorem ok98:FnOk Tryz.prog 98 (pureC body98):=by
 refine yM body98 (rs:=[.tmp 2]) Tryz.func98 (by kernel_rfl) rfl rfl ?_
 intro l ob v hb hob
 unfold body98 at hb
 split at hb
 ·rename_i v0
  injection hb with q1 q2;subst q1 q2
  obtain ⟨hk0_0,hob⟩:=hob
  obtain ⟨r,H⟩:=oE.1 hob
  rw [H,zN]
  have hw0:=cG hk0_0
  generalize yX (aL v0)=p0 at H hw0
  refine ⟨[.agg [.ro 1 p0.Data.length false (enR c_u8 p0.Data),.int .i64 p0.At]],_,(fun E vs F=>yC hw0.1 F (fun vs F=>F)),rfl,rfl,?_⟩
  rw [Tryz.ntmps98]
  simp only [lC,lN,Nat.reduceAdd,Nat.reduceSub,rS,rZ,aC,aN]
  unfold F98 at H
  try dsimp only at H
  refine sq zA ?_
  simp only [go_sem]
  refine zC ?_
  refine sq zA ?_
  simp only [go_sem,Nat.reduceLeDiff,Nat.reduceLT,Nat.reduceAdd]
  repeat ((with_reducible refine aI ?_ ?_);exact an3)
  refine zX rfl trivial (fun hc=>?_) (fun hc=>?_)
  ·have hk1:((bLt p0.At 0) || (bLt (p0.Data.length:Nat) p0.At))=true:=by simpa using hc
   replace H:=zL hc H
   refine sq zA ?_
   simp only [go_sem]
   refine rg zA ?_
   simp only [go_sem]
   obtain rfl:=Option.some.inj H
   exact fB
  have hk1:((bLt p0.At 0) || (bLt (p0.Data.length:Nat) p0.At))=false:=by simpa using hc
  replace H:=zK hc H
  refine rg zA ?_
  simp only [go_sem]
  refine sq zA ?_
  simp only [go_sem]
  refine rg zA ?_
  simp only [go_sem]
  obtain rfl:=Option.some.inj H
  exact fB
 ·cases hb
def ct90t0:Ct:=tab [(98,pureC body98)]
theorem ct90t0_ok:yP Tryz.prog ct90t0:=zE ok98 <| zO
theorem ct90t0_98 (l:List AV) (h:List ABlk):ct90t0 98 l h=pureC body98 l h:=rfl
def F90 (p0:TReader) (p1:Int):Option ((List Int) × TReader × Int) :=
 (F98 p0).bind fun r1=>bif (!bEq r1 0) then none else (bif (bLt p1 0) then none else (bif (bLt (wr .i64 ((p0.Data.length:Nat) - p0.At)) p1) then none else (need (slb p0.At (wr .i64 (p0.At+p1)) p0.Data.length) <| need (capb 1 (((wr .i64 (p0.At+p1)).toNat) - p0.At.toNat)) <| (some ([] ++ (List.take (((wr .i64 (p0.At+p1)).toNat) - p0.At.toNat) (p0.Data.drop p0.At.toNat)))).bind fun w5=>some (w5,(TReader.mk p0.Data (wr .i64 (p0.At+p1))),0))))
def gP:List AV->Nat->AR
 | [v0,v1],_=>.pure (aK 2 uX v0/\iK .i64 v1/\(F90 (yX (aL v0)) (iA v1)).isSome=true) (.tup [.ro 1 (((gt (F90 (yX (aL v0)) (iA v1))).1).length) false (enR c_u8 ((gt (F90 (yX (aL v0)) (iA v1))).1)),.agg [.ro 1 ((((gt (F90 (yX (aL v0)) (iA v1))).2.1).Data).length) false (enR c_u8 (((gt (F90 (yX (aL v0)) (iA v1))).2.1).Data)),.int .i64 (((gt (F90 (yX (aL v0)) (iA v1))).2.1).At)],.int .i64 ((gt (F90 (yX (aL v0)) (iA v1))).2.2)])
 | _,_=>.fail
theorem ok90:FnOk Tryz.prog 90 (jS gP):=by
 refine gen_fn gP (rs:=[.tmp 4,.cell 5 141,.tmp 6]) Tryz.func90 (by kernel_rfl) rfl rfl ?_
 intro l s ob v ns hb hob
 rcases hb with ⟨hb,rfl⟩|hb
 ·unfold gP at hb
  split at hb
  ·rename_i v0 v1
   injection hb with q1 q2;subst q1 q2
   obtain ⟨hk0_0,hk1_0,hob⟩:=hob
   obtain ⟨r,H⟩:=oE.1 hob
   rw [H,zN]
   have hw0:=cG hk0_0
   have hw1:=iK_wk hk1_0
   generalize yX (aL v0)=p0 at H hw0
   generalize iA v1=p1 at H hw1
   refine ⟨[.agg [.ro 1 p0.Data.length false (enR c_u8 p0.Data),.int .i64 p0.At],.int .i64 p1],.tup [.ro 1 r.1.length false (enR c_u8 r.1),.agg [.ro 1 r.2.1.Data.length false (enR c_u8 r.2.1.Data),.int .i64 r.2.1.At],.int .i64 r.2.2],[],(fun E vs F=>yC hw0.1 F (fun vs F=>yC hw1.1 F (fun vs F=>F))),by simp only [ren,qB],trivial,?_⟩
   rw [Tryz.ntmps90]
   simp only [lC,lN,Nat.reduceAdd,Nat.reduceSub,rS,rZ,aC,aN]
   unfold F90 at H
   try dsimp only at H
   refine sq zA ?_
   simp only [go_sem]
   refine zC ?_
   refine zC ?_
   obtain ⟨r1,e2,H⟩:=bsi H
   refine rg ct90t0_ok ?_
   simp only [go_sem,Nat.reduceLT,Nat.reduceAdd,ct90t0_98,body98,e2]
   repeat ((with_reducible refine aI ?_ ?_);exact an0)
   refine sq zA ?_
   simp only [go_sem]
   refine zX rfl trivial (fun hc=>?_) (fun hc=>?_)
   ·replace H:=zL hc H
    cases H
   replace H:=zK hc H
   refine rg zA ?_
   simp only [go_sem]
   refine zC ?_
   refine sq zA ?_
   simp only [go_sem]
   refine zX rfl trivial (fun hc=>?_) (fun hc=>?_)
   ·replace H:=zL hc H
    cases H
   replace H:=zK hc H
   refine rg zA ?_
   simp only [go_sem]
   refine zC ?_
   refine sq zA ?_
   simp only [go_sem,Nat.reduceLeDiff,Nat.reduceLT,Nat.reduceAdd]
   repeat ((with_reducible refine aI ?_ ?_);exact an0)
   refine zX rfl trivial (fun hc=>?_) (fun hc=>?_)
   ·replace H:=zL hc H
    cases H
   replace H:=zK hc H
   refine rg zA ?_
   simp only [go_sem]
   refine zC ?_
   obtain ⟨f3,H⟩:=nS H
   obtain ⟨f4,H⟩:=nC H
   refine rg zA ?_
   simp only [go_sem,Nat.reduceLeDiff,Nat.reduceLT,Nat.reduceAdd,f3,f4]
   repeat ((with_reducible refine aI ?_ ?_);exact an1)
   refine zC ?_
   obtain ⟨w5,hw6,H⟩:=bsj H
   have lhw6:w5.length=((wr .i64 (p0.At+p1)).toNat) - p0.At.toNat:=by rw [← hw6];exact (show (List.take (((wr .i64 (p0.At+p1)).toNat) - p0.At.toNat) (p0.Data.drop p0.At.toNat)).length=((wr .i64 (p0.At+p1)).toNat) - p0.At.toNat from (by rw [List.length_take,List.length_drop];omega))
   refine tR (t2:=(.top::.int .i64 p1::.ptr 0 0 0 0::.top::.top::.ptr 1 0 0 0::.top::.top::.sl 3 1 0 w5.length false::tp 36 [])) (h2:=[.lit 141 [.ro 1 p0.Data.length false (enR c_u8 p0.Data),.int .i64 p0.At],.lit 141 [.ro 0 0 true (fun _ _=>.top),.int .i64 0],.dead,.row 5 1 w5.length (enR c_u8 w5)]) ?_ ?_
   ·refine Sq [(0,4)] ?_ ?_
    ·simp [CvL,Cv,yB,tp,lhw6]
    ·exact ⟨(by simp [CvB,CvL,Cv,uD,geth]),(by simp [CvB,CvL,Cv,uD,geth]),yI,zJ vC lhw6 (hw6 ▸ (vO (f:=c_u8) [] (List.take (((wr .i64 (p0.At+p1)).toNat) - p0.At.toNat) (p0.Data.drop p0.At.toNat)) (wS (f:=c_u8) [] (fun _ _=>rfl) rfl) take_row)),trivial⟩
   simp only [tp]
   refine rg zA ?_
   simp only [go_sem,Nat.reduceLT,Nat.reduceAdd]
   repeat ((with_reducible refine aI ?_ ?_);exact an4)
   refine zC ?_
   refine xC zU zA 0 (by kernel_rfl) (by kernel_rfl) ?_
   intro an han
   simp only [vH,wI,tC,xrD,xoD,uY,vL,List.append_nil,xF,refs,mask,wN,place,xU,wO,xV,hit,inL,xH,nrH,nrB,nrL,nr,rZ,Nat.sub_self,Nat.add_zero,Nat.zero_add,Nat.reduceSub,Nat.lt_add_one,go_sem,Nat.reduceLeDiff,Nat.reduceLT,Nat.reduceAdd,Nat.reduceSub,Nat.reduceBEq]
   repeat ((with_reducible refine aI ?_ ?_);exact an5)
   refine rg zA ?_
   simp only [go_sem,Nat.reduceLT,Nat.reduceAdd]
   obtain rfl:=Option.some.inj H
   refine ⟨[3,0,1],?_,?_,[],?_,?_,rfl⟩
   ·simp only [go_sem,Nat.reduceBEq]
    try exact at0
   ·simp only [go_sem]
    try exact at0
   ·simp only [go_sem,Nat.reduceBEq]
    exact gH (xB (ro_row (by first|rfl|simp) (fun _ _ _ _=>rfl)) (xB (Cv_agg (xB (Cv_nf (by simp only [nref])) (xB uP uO))) (xB uP uO)))
   ·simp only [go_sem,CvH]
  ·cases hb
 ·unfold gP at hb
  split at hb<;>cases hb
def ct27t0:Ct:=tab [(90,jS gP)]
theorem ct27t0_ok:yP Tryz.prog ct27t0:=zE ok90 <| zO
theorem ct27t0_90 (l:List AV) (h:List ABlk):ct27t0 90 l h=jS gP l h:=rfl
def F27 (p0:List Int):Option (TAction × Int) :=
 bif (bLt 2304 (p0.length:Nat)) then none else ((F90 (TReader.mk p0 0) 3).bind fun r1=>bif (bEq r1.2.2 0) then (need (inb 0 r1.1.length) <| need (inb 1 r1.1.length) <| need (inb 2 r1.1.length) <| (F90 r1.2.1 (wr .i64 ((p0.length:Nat) - r1.2.1.At))).bind fun r6=>bif (bEq r6.2.2 0) then (some ((TAction.mk (gd r1.1 0) (gd r1.1 1) (gd r1.1 2) r6.1),0)) else none) else none)
def body27:List AV->Nat->AR
 | [v0],_=>.pure (lK k_u8 1 v0/\(F27 (lA g_u8 v0)).isSome=true) (.tup [.agg [.int .u8 (((gt (F27 (lA g_u8 v0))).1).Category),.int .u8 (((gt (F27 (lA g_u8 v0))).1).Code),.int .u8 (((gt (F27 (lA g_u8 v0))).1).Token),.ro 1 ((((gt (F27 (lA g_u8 v0))).1).Data).length) false (enR c_u8 (((gt (F27 (lA g_u8 v0))).1).Data))],.int .i64 ((gt (F27 (lA g_u8 v0))).2)])
 | _,_=>.fail
theorem ok27:FnOk Tryz.prog 27 (jS body27):=by
 refine gen_fn body27 (rs:=[.cell 2 70,.tmp 3]) Tryz.func27 (by kernel_rfl) rfl rfl ?_
 intro l s ob v ns hb hob
 rcases hb with ⟨hb,rfl⟩|hb
 ·unfold body27 at hb
  split at hb
  ·rename_i v0
   injection hb with q1 q2;subst q1 q2
   obtain ⟨hk0_0,hob⟩:=hob
   obtain ⟨r,H⟩:=oE.1 hob
   rw [H,zN]
   have hw0:=lK_wk (fun r h=>w_u8 h) hk0_0
   generalize lA g_u8 v0=p0 at H hw0
   refine ⟨[.ro 1 p0.length false (enR c_u8 p0)],.tup [.agg [.int .u8 r.1.Category,.int .u8 r.1.Code,.int .u8 r.1.Token,.ro 1 r.1.Data.length false (enR c_u8 r.1.Data)],.int .i64 r.2],[],(fun E vs F=>yC hw0.1 F (fun vs F=>F)),by simp only [ren,qB],trivial,?_⟩
   rw [Tryz.ntmps27]
   simp only [lC,lN,Nat.reduceAdd,Nat.reduceSub,rS,rZ,aC,aN]
   unfold F27 at H
   try dsimp only at H
   refine sq zA ?_
   simp only [go_sem]
   refine zC ?_
   refine qP ?_
   refine wL zU zA 1 ?_
   simp only [zV,tS,tZ,dS,dZ,go_sem]
   repeat ((with_reducible refine aI ?_ ?_);exact an0)
   refine inlO (rs:=[.tmp 2]) Tryz.func59 (by kernel_rfl) rfl rfl Tryz.ntmps59 (caps:=[]) (tc:=[.ro 1 p0.length false (enR c_u8 p0)]) rfl (by simp only [go_sem]) rfl ?_
   simp only [lC,lN,Nat.reduceAdd,Nat.reduceSub,rS,rZ,aC,aN]
   refine sq zA ?_
   simp only [go_sem]
   refine sq zA ?_
   simp only [go_sem,Nat.reduceLeDiff,Nat.reduceAdd]
   refine zC ?_
   refine sq zA ?_
   simp only [go_sem]
   repeat ((with_reducible refine aI ?_ ?_);exact an0)
   refine zX rfl trivial (fun hc=>?_) (fun hc=>?_)
   ·replace H:=zL hc H
    cases H
   replace H:=zK hc H
   refine rg zA ?_
   simp only [go_sem]
   refine sq zA ?_
   simp only [go_sem]
   refine rg zA ?_
   simp only [go_sem]
   refine wL zU zA 1 ?_
   simp only [zV,tS,tZ,dS,dZ,go_sem]
   repeat ((with_reducible refine aI ?_ ?_);exact an0)
   refine tY ?_
   refine zC ?_
   refine qP ?_
   refine wL zU zA 1 ?_
   simp only [zV,tS,tZ,dS,dZ,go_sem]
   repeat ((with_reducible refine aI ?_ ?_);exact an0)
   refine inlO (rs:=[.tmp 4]) Tryz.func60 (by kernel_rfl) rfl rfl Tryz.ntmps60 (caps:=[]) (tc:=[.ptr 1 0 0 0,.int .i64 3]) rfl (by simp only [go_sem]) rfl ?_
   simp only [lC,lN,Nat.reduceAdd,Nat.reduceSub,rS,rZ,aC,aN]
   refine sq zA ?_
   simp only [go_sem]
   refine zC ?_
   refine sq zA ?_
   simp only [go_sem,Nat.reduceLT,Nat.reduceAdd,(by decide:bEq (0) (0)=true)]
   repeat ((with_reducible refine aI ?_ ?_);exact an4)
   refine zX rfl trivial (fun hc=>?_) (fun hc=>?_)
   rotate_left
   ·cases hc
   refine zC ?_
   obtain ⟨r1,e2,H⟩:=bsi H
   refine rg ct27t0_ok ?_
   simp only [go_sem,Nat.reduceLeDiff,Nat.reduceLT,Nat.reduceAdd,reduceCtorEq,ct27t0_90,gP,e2]
   repeat ((with_reducible refine aI ?_ ?_);exact an0)
   refine zC ?_
   refine sq zA ?_
   simp only [go_sem]
   refine condM' rfl trivial (fun hc=>?_) (fun hc=>?_)
   ·replace H:=zK hc H
    cases H
   replace H:=zL hc H
   refine sq zA ?_
   simp only [go_sem,Nat.reduceLeDiff,Nat.reduceLT,Nat.reduceAdd,reduceCtorEq]
   repeat ((with_reducible refine aI ?_ ?_);exact an4)
   refine sq zA ?_
   simp only [go_sem]
   refine rg zA ?_
   simp only [go_sem]
   refine wL zU zA 1 ?_
   simp only [zV,tS,tZ,dS,dZ,go_sem]
   repeat ((with_reducible refine aI ?_ ?_);exact an0)
   refine tY ?_
   refine zC ?_
   obtain ⟨f3,H⟩:=nI H
   obtain ⟨f4,H⟩:=nI H
   obtain ⟨f5,H⟩:=nI H
   refine xC zU zA 1 (by kernel_rfl) (by kernel_rfl) ?_
   intro an han
   simp only [vH,wI,tC,xrD,xoD,uY,vL,List.append_nil,xF,refs,mask,wN,place,xU,wO,xV,hit,inL,xH,ren,rnN,nrH,nrB,nrL,nr,rZ,rS,Nat.sub_self,Nat.add_zero,Nat.zero_add,Nat.reduceSub,Nat.lt_add_one,go_sem,Nat.reduceLeDiff,Nat.reduceLT,Nat.reduceAdd,Nat.reduceSub,Nat.reduceBEq,Int.reduceToNat,f3,f4,f5]
   repeat ((with_reducible refine aI ?_ ?_);exact an5)
   refine zC ?_
   refine sq zA ?_
   simp only [go_sem,Nat.reduceLT,Nat.reduceAdd,(by decide:bEq (0) (0)=true)]
   repeat ((with_reducible refine aI ?_ ?_);exact an4)
   refine zX rfl trivial (fun hc=>?_) (fun hc=>?_)
   rotate_left
   ·cases hc
   refine qP ?_
   refine wL zU zA 9 ?_
   simp only [zV,tS,tZ,dS,dZ,go_sem,Nat.reduceLeDiff,Nat.reduceLT,Nat.reduceAdd,reduceCtorEq]
   repeat ((with_reducible refine aI ?_ ?_);exact an0)
   refine inlO (rs:=[.tmp 4]) Tryz.func60 (by kernel_rfl) rfl rfl Tryz.ntmps60 (caps:=[]) (tc:=[.ptr 1 0 0 0,.int .i64 (wr .i64 ((p0.length:Nat) - r1.2.1.At))]) rfl (by simp only [go_sem]) rfl ?_
   simp only [lC,lN,Nat.reduceAdd,Nat.reduceSub,rS,rZ,aC,aN]
   refine sq zA ?_
   simp only [go_sem]
   refine zC ?_
   refine sq zA ?_
   simp only [go_sem,Nat.reduceLT,Nat.reduceAdd,(by decide:bEq (0) (0)=true)]
   repeat ((with_reducible refine aI ?_ ?_);exact an4)
   refine zX rfl trivial (fun hc=>?_) (fun hc=>?_)
   rotate_left
   ·cases hc
   refine zC ?_
   obtain ⟨r6,e7,H⟩:=bsi H
   refine rg ct27t0_ok ?_
   simp only [go_sem,Nat.reduceLeDiff,Nat.reduceLT,Nat.reduceAdd,reduceCtorEq,ct27t0_90,gP,e7]
   repeat ((with_reducible refine aI ?_ ?_);exact an0)
   refine zC ?_
   refine sq zA ?_
   simp only [go_sem]
   refine condM' rfl trivial (fun hc=>?_) (fun hc=>?_)
   ·replace H:=zK hc H
    cases H
   replace H:=zL hc H
   refine sq zA ?_
   simp only [go_sem,Nat.reduceLeDiff,Nat.reduceLT,Nat.reduceAdd,reduceCtorEq]
   repeat ((with_reducible refine aI ?_ ?_);exact an4)
   refine sq zA ?_
   simp only [go_sem]
   refine rg zA ?_
   simp only [go_sem]
   refine wL zU zA 2 ?_
   simp only [zV,tS,tZ,dS,dZ,go_sem,Nat.reduceAdd]
   repeat ((with_reducible refine aI ?_ ?_);exact an0)
   refine tY ?_
   refine zC ?_
   refine qP ?_
   refine wL zU zA 2 ?_
   simp only [zV,tS,tZ,dS,dZ,go_sem,Nat.reduceLT,Nat.reduceAdd]
   repeat ((with_reducible refine aI ?_ ?_);exact an0)
   refine inlO (rs:=[.cell 4 70,.tmp 5]) Tryz.func61 (by kernel_rfl) rfl rfl Tryz.ntmps61 (caps:=[]) (tc:=[.agg [.int .u8 (gd r1.1 0),.int .u8 (gd r1.1 1),.int .u8 (gd r1.1 2),.ro 1 r6.1.length false (enR c_u8 r6.1)],.ptr 1 0 0 0]) rfl (by simp only [go_sem]) rfl ?_
   simp only [lC,lN,Nat.reduceAdd,Nat.reduceSub,rS,rZ,aC,aN]
   refine sq zA ?_
   simp only [go_sem,Nat.reduceAdd]
   refine sq zA ?_
   simp only [go_sem,Nat.reduceAdd]
   refine zC ?_
   refine sq zA ?_
   simp only [go_sem,Nat.reduceLT,Nat.reduceAdd,(by decide:bEq (0) (0)=true)]
   repeat ((with_reducible refine aI ?_ ?_);exact an4)
   refine zX rfl trivial (fun hc=>?_) (fun hc=>?_)
   ·cases hc
   refine rg zA ?_
   simp only [go_sem]
   refine sq zA ?_
   simp only [go_sem,Nat.reduceLT,Nat.reduceAdd]
   repeat ((with_reducible refine aI ?_ ?_);exact an4)
   refine rg zA ?_
   simp only [go_sem,Nat.reduceLT,Nat.reduceAdd]
   refine wL zU zA 4 ?_
   simp only [zV,tS,tZ,dS,dZ,go_sem,Nat.reduceLT,Nat.reduceAdd]
   repeat ((with_reducible refine aI ?_ ?_);exact an0)
   refine tY ?_
   refine rg zA ?_
   simp only [go_sem,Nat.reduceLT,Nat.reduceAdd]
   obtain rfl:=Option.some.inj H
   refine ⟨[0,1,2,3,4,5,6,7],?_,?_,[],?_,?_,rfl⟩
   ·simp only [go_sem]
    try exact at0
   ·simp only [go_sem]
    try exact at0
   ·simp only [go_sem]
    exact gH (xB (Cv_agg (xB uP (xB uP (xB uP (xB (Cv_nf (by simp only [nref])) uO))))) (xB uP uO))
   ·simp only [go_sem,CvH]
  ·cases hb
 ·unfold body27 at hb
  split at hb<;>cases hb
def ct91t0:Ct:=tab [(90,jS gP)]
theorem ct91t0_ok:yP Tryz.prog ct91t0:=zE ok90 <| zO
theorem ct91t0_90 (l:List AV) (h:List ABlk):ct91t0 90 l h=jS gP l h:=rfl
def F91_L1 (r1:(List Int) × TReader × Int) (v1_1:Int) (v1_2:Int):Option (Lp (Int × Int) ((Int) ⊕ (Int × TReader × Int))) :=
 bif (bLt v1_2 (r1.1.length:Nat)) then (need (inb v1_2 r1.1.length) <| need (bLe 0 (wr .i64 (8 * v1_2))) <| some (.next (orI .u64 v1_1 (cE .u64 (wr .u64 (gd r1.1 v1_2.toNat)) (wr .i64 (8 * v1_2))),wr .i64 (v1_2+1)))) else (some (.done (.inl v1_1)))
def F91 (p0:TReader) (p1:Int):Option (Int × TReader × Int) :=
 (F90 p0 p1).bind fun r1=>bif (!bEq r1.2.2 0) then none else (lp (yF (fun s=>F91_L1 r1 s.1 s.2) (0,0)) (fun w1_3=>some (w1_3,r1.2.1,0)) some)
def body91:List AV->Nat->AR
 | [v0,v1],_=>.pure (aK 2 uX v0/\iK .i64 v1/\(F91 (yX (aL v0)) (iA v1)).isSome=true) (.tup [.int .u64 ((gt (F91 (yX (aL v0)) (iA v1))).1),.agg [.ro 1 ((((gt (F91 (yX (aL v0)) (iA v1))).2.1).Data).length) false (enR c_u8 (((gt (F91 (yX (aL v0)) (iA v1))).2.1).Data)),.int .i64 (((gt (F91 (yX (aL v0)) (iA v1))).2.1).At)],.int .i64 ((gt (F91 (yX (aL v0)) (iA v1))).2.2)])
 | _,_=>.fail
theorem ok91:FnOk Tryz.prog 91 (jS body91):=by
 refine gen_fn body91 (rs:=[.tmp 4,.cell 5 141,.tmp 6]) Tryz.func91 (by kernel_rfl) rfl rfl ?_
 intro l s ob v ns hb hob
 rcases hb with ⟨hb,rfl⟩|hb
 ·unfold body91 at hb
  split at hb
  ·rename_i v0 v1
   injection hb with q1 q2;subst q1 q2
   obtain ⟨hk0_0,hk1_0,hob⟩:=hob
   obtain ⟨r,H⟩:=oE.1 hob
   rw [H,zN]
   have hw0:=cG hk0_0
   have hw1:=iK_wk hk1_0
   generalize yX (aL v0)=p0 at H hw0
   generalize iA v1=p1 at H hw1
   refine ⟨[.agg [.ro 1 p0.Data.length false (enR c_u8 p0.Data),.int .i64 p0.At],.int .i64 p1],.tup [.int .u64 r.1,.agg [.ro 1 r.2.1.Data.length false (enR c_u8 r.2.1.Data),.int .i64 r.2.1.At],.int .i64 r.2.2],[],(fun E vs F=>yC hw0.1 F (fun vs F=>yC hw1.1 F (fun vs F=>F))),by simp only [ren,qB],trivial,?_⟩
   rw [Tryz.ntmps91]
   simp only [lC,lN,Nat.reduceAdd,Nat.reduceSub,rS,rZ,aC,aN]
   unfold F91 at H
   try dsimp only at H
   refine sq zA ?_
   simp only [go_sem]
   refine zC ?_
   obtain ⟨r1,e2,H⟩:=bsi H
   refine rg ct91t0_ok ?_
   simp only [go_sem,Nat.reduceLT,Nat.reduceAdd,ct91t0_90,gP,e2]
   repeat ((with_reducible refine aI ?_ ?_);exact an0)
   refine zC ?_
   refine sq zA ?_
   simp only [go_sem]
   refine zX rfl trivial (fun hc=>?_) (fun hc=>?_)
   ·replace H:=zL hc H
    cases H
   replace H:=zK hc H
   refine rg zA ?_
   simp only [go_sem]
   refine sq zA ?_
   simp only [go_sem]
   refine zC ?_
   refine sq zA ?_
   simp only [go_sem]
   repeat ((with_reducible refine aI ?_ ?_);exact an0)
   refine xN ?_
   refine xP (fun s:Int × Int=>(tp 5 (.ptr 1 0 0 0::.top::.top::.ptr 2 0 0 0::.top::.int .u64 s.1::tp 13 (.ro 1 r1.1.length false (enR c_u8 r1.1)::.int .i64 (r1.1.length:Nat)::.int .i64 s.2::tp 14 [])))) (fun s=>[.dead,.lit 141 [.ro 0 0 true (fun _ _=>.top),.int .i64 0],.lit 141 [.ro 1 r1.2.1.Data.length false (enR c_u8 r1.2.1.Data),.int .i64 r1.2.1.At]]) (fun e:Int=>(tp 5 (.ptr 1 0 0 0::.top::.top::.ptr 2 0 0 0::.top::.int .u64 e::tp 30 []))) (fun e=>[.dead,.lit 141 [.ro 0 0 true (fun _ _=>.top),.int .i64 0],.lit 141 [.ro 1 r1.2.1.Data.length false (enR c_u8 r1.2.1.Data),.int .i64 r1.2.1.At]]) H ?_ (fun s o H hn1_1 hn2_1=>?_) (fun w1_3 H=>?_)
   ·refine Sq [(0,3)] ?_ ?_
    ·simp [CvL,Cv,yB,tp]
    ·exact dQ
   ·obtain ⟨v1_1,v1_2⟩:=s
    unfold F91_L1 at H
    try dsimp only at H ⊢
    try simp only [tp]
    refine sq zA ?_
    simp only [go_sem,Nat.reduceAdd]
    refine zC ?_
    refine condM' rfl trivial (fun hc=>?_) (fun hc=>?_)
    ·have hk3:(bLt v1_2 (r1.1.length:Nat))=false:=by simpa using hc
     replace H:=zK hc H
     refine rg zA ?_
     simp only [go_sem]
     refine ⟨_,(Option.some.inj H).symm,?_⟩
     refine Sq [(0,3)] ?_ ?_
     ·simp [CvL,Cv,yB]
     ·exact dQ
    have hk3:(bLt v1_2 (r1.1.length:Nat))=true:=by simpa using hc
    replace H:=zL hc H
    refine rg zA ?_
    simp only [go_sem]
    refine zC ?_
    refine xN ?_
    refine zC ?_
    obtain ⟨f4,H⟩:=nI H
    refine rg zA ?_
    simp only [go_sem,Nat.reduceLT,f4]
    repeat ((with_reducible refine aI ?_ ?_);exact an4)
    obtain ⟨f5,H⟩:=zP.1 H
    replace f5:=bLe_iff.1 f5
    refine rg zA ?_
    simp only [go_sem,f5]
    repeat ((with_reducible refine aI ?_ ?_);exact an4)
    refine rg zA ?_
    simp only [go_sem]
    refine ⟨_,(Option.some.inj H).symm,?_⟩
    refine Sq [(0,3)] ?_ ?_
    ·simp [CvL,Cv,yB]
    ·exact dQ
   ·try dsimp only at H ⊢
    try simp only [tp]
    try simp only [yS]
    refine zC ?_
    refine xC zU zA 0 (by kernel_rfl) (by kernel_rfl) ?_
    intro an han
    simp only [vH,wI,tC,xrD,xoD,uY,vL,List.append_nil,xF,refs,mask,wN,place,xU,wO,xV,hit,inL,xH,nrH,nrB,nrL,nr,rZ,Nat.sub_self,Nat.add_zero,Nat.zero_add,Nat.reduceSub,Nat.lt_add_one,go_sem,Nat.reduceLeDiff,Nat.reduceAdd,Nat.reduceSub,Nat.reduceBEq]
    repeat ((with_reducible refine aI ?_ ?_);exact an5)
    refine rg zA ?_
    simp only [go_sem,Nat.reduceLT,Nat.reduceAdd]
    obtain rfl:=Option.some.inj H
    refine ⟨[1,2],?_,?_,[],?_,?_,rfl⟩
    ·simp only [go_sem]
     try exact at0
    ·simp only [go_sem]
     try exact at0
    ·simp only [go_sem]
     exact gH (xB uP (xB (Cv_agg (xB (Cv_nf (by simp only [nref])) (xB uP uO))) (xB uP uO)))
    ·simp only [go_sem,CvH]
  ·cases hb
 ·unfold body91 at hb
  split at hb<;>cases hb
def ct62t0:Ct:=tab [(91,jS body91)]
theorem ct62t0_ok:yP Tryz.prog ct62t0:=zE ok91 <| zO
theorem ct62t0_91 (l:List AV) (h:List ABlk):ct62t0 91 l h=jS body91 l h:=rfl
def F62 (p0:TReader):Option (Int × TReader × Int) :=
 (F91 p0 8).bind fun r1=>some (r1.1,r1.2.1,r1.2.2)
def body62:List AV->Nat->AR
 | [v0],_=>.pure (aK 2 uX v0/\(F62 (yX (aL v0))).isSome=true) (.tup [.int .u64 ((gt (F62 (yX (aL v0)))).1),.agg [.ro 1 ((((gt (F62 (yX (aL v0)))).2.1).Data).length) false (enR c_u8 (((gt (F62 (yX (aL v0)))).2.1).Data)),.int .i64 (((gt (F62 (yX (aL v0)))).2.1).At)],.int .i64 ((gt (F62 (yX (aL v0)))).2.2)])
 | _,_=>.fail
theorem ok62:FnOk Tryz.prog 62 (jS body62):=by
 refine gen_fn body62 (rs:=[.tmp 2,.cell 3 141,.tmp 4]) Tryz.func62 (by kernel_rfl) rfl rfl ?_
 intro l s ob v ns hb hob
 rcases hb with ⟨hb,rfl⟩|hb
 ·unfold body62 at hb
  split at hb
  ·rename_i v0
   injection hb with q1 q2;subst q1 q2
   obtain ⟨hk0_0,hob⟩:=hob
   obtain ⟨r,H⟩:=oE.1 hob
   rw [H,zN]
   have hw0:=cG hk0_0
   generalize yX (aL v0)=p0 at H hw0
   refine ⟨[.agg [.ro 1 p0.Data.length false (enR c_u8 p0.Data),.int .i64 p0.At]],.tup [.int .u64 r.1,.agg [.ro 1 r.2.1.Data.length false (enR c_u8 r.2.1.Data),.int .i64 r.2.1.At],.int .i64 r.2.2],[],(fun E vs F=>yC hw0.1 F (fun vs F=>F)),by simp only [ren,qB],trivial,?_⟩
   rw [Tryz.ntmps62]
   simp only [lC,lN,Nat.reduceAdd,Nat.reduceSub,rS,rZ,aC,aN]
   unfold F62 at H
   try dsimp only at H
   refine sq zA ?_
   simp only [go_sem]
   refine zC ?_
   obtain ⟨r1,e2,H⟩:=bsi H
   refine rg ct62t0_ok ?_
   simp only [go_sem,Nat.reduceLT,Nat.reduceAdd,ct62t0_91,body91,e2]
   repeat ((with_reducible refine aI ?_ ?_);exact an0)
   refine rg zA ?_
   simp only [go_sem,Nat.reduceLT,Nat.reduceAdd]
   obtain rfl:=Option.some.inj H
   refine ⟨[0,1],?_,?_,[],?_,?_,rfl⟩
   ·simp only [go_sem]
    try exact at0
   ·simp only [go_sem]
    try exact at0
   ·simp only [go_sem]
    exact gH (xB uP (xB (Cv_agg (xB (Cv_nf (by simp only [nref])) (xB uP uO))) (xB uP uO)))
   ·simp only [go_sem,CvH]
  ·cases hb
 ·unfold body62 at hb
  split at hb<;>cases hb
def ct28t0:Ct:=tab [(62,jS body62)]
theorem ct28t0_ok:yP Tryz.prog ct28t0:=zE ok62 <| zO
theorem ct28t0_62 (l:List AV) (h:List ABlk):ct28t0 62 l h=jS body62 l h:=rfl
def ct28t1:Ct:=tab [(29,pureC kR)]
theorem ct28t1_ok:yP Tryz.prog ct28t1:=zE ok29 <| zO
theorem ct28t1_29 (l:List AV) (h:List ABlk):ct28t1 29 l h=pureC kR l h:=rfl
def F28 (p0:List Int):Option (TRegulateWord × Int) :=
 (F62 (TReader.mk p0 (jI 3 (p0.length:Nat)))).bind fun r1=>bif (!bEq r1.2.2 0) then none else (bif (bLt 11 (p0.length:Nat)) then none else (need (inb 0 p0.length) <| need (inb 1 p0.length) <| need (inb 2 p0.length) <| (F29 (TRegulateWord.mk (gd p0 0) (wr .i64 (gd p0 1)) (wr .i64 (gd p0 2)) (wr .i64 (jI r1.1 4611686018427387904)))).bind fun r6=>bif (!r6) then none else (some ((TRegulateWord.mk (gd p0 0) (wr .i64 (gd p0 1)) (wr .i64 (gd p0 2)) (wr .i64 (jI r1.1 4611686018427387904))),0))))
def body28:List AV->AR
 | [v0]=>.pure (lK k_u8 1 v0/\(F28 (lA g_u8 v0)).isSome=true) (.tup [.agg [.int .u8 (((gt (F28 (lA g_u8 v0))).1).Kind),.int .i64 (((gt (F28 (lA g_u8 v0))).1).Channel),.int .i64 (((gt (F28 (lA g_u8 v0))).1).To),.int .i64 (((gt (F28 (lA g_u8 v0))).1).At)],.int .i64 ((gt (F28 (lA g_u8 v0))).2)])
 | _=>.fail
theorem ok28:FnOk Tryz.prog 28 (pureC body28):=by
 refine yM body28 (rs:=[.cell 2 43,.tmp 3]) Tryz.func28 (by kernel_rfl) rfl rfl ?_
 intro l ob v hb hob
 unfold body28 at hb
 split at hb
 ·rename_i v0
  injection hb with q1 q2;subst q1 q2
  obtain ⟨hk0_0,hob⟩:=hob
  obtain ⟨r,H⟩:=oE.1 hob
  rw [H,zN]
  have hw0:=lK_wk (fun r h=>w_u8 h) hk0_0
  generalize lA g_u8 v0=p0 at H hw0
  refine ⟨[.ro 1 p0.length false (enR c_u8 p0)],_,(fun E vs F=>yC hw0.1 F (fun vs F=>F)),rfl,rfl,?_⟩
  rw [Tryz.ntmps28]
  simp only [lC,lN,Nat.reduceAdd,Nat.reduceSub,rS,rZ,aC,aN]
  unfold F28 at H
  try dsimp only at H
  refine sq zA ?_
  simp only [go_sem]
  refine zC ?_
  obtain ⟨r1,e2,H⟩:=bsi H
  refine rg ct28t0_ok ?_
  simp only [go_sem,Nat.reduceLeDiff,Nat.reduceLT,Nat.reduceAdd,ct28t0_62,body62,e2]
  repeat ((with_reducible refine aI ?_ ?_);exact an0)
  refine zC ?_
  refine xN ?_
  refine sq zA ?_
  simp only [go_sem]
  refine zX rfl trivial (fun hc=>?_) (fun hc=>?_)
  ·replace H:=zL hc H
   cases H
  replace H:=zK hc H
  refine sq zA ?_
  simp only [go_sem]
  repeat ((with_reducible refine aI ?_ ?_);exact an0)
  refine zX rfl trivial (fun hc=>?_) (fun hc=>?_)
  ·replace H:=zL hc H
   cases H
  replace H:=zK hc H
  refine rg zA ?_
  simp only [go_sem]
  refine zC ?_
  obtain ⟨f3,H⟩:=nI H
  obtain ⟨f4,H⟩:=nI H
  obtain ⟨f5,H⟩:=nI H
  refine xC zU zA 1 (by kernel_rfl) (by kernel_rfl) ?_
  intro an han
  simp only [vH,wI,tC,xrD,xoD,uY,vL,List.append_nil,xF,refs,vN,mask,wN,place,xU,wO,xV,hit,inL,xH,ren,rnN,nrH,nrB,nrL,nr,rZ,rS,Nat.sub_self,Nat.add_zero,Nat.zero_add,Nat.reduceSub,Nat.lt_add_one,go_sem,Nat.reduceLeDiff,Nat.reduceAdd,Nat.reduceSub,Nat.reduceBEq,Int.reduceToNat,f3,f4,f5]
  repeat ((with_reducible refine aI ?_ ?_);exact an5)
  refine zC ?_
  refine zC ?_
  obtain ⟨r6,e7,H⟩:=bsi H
  refine rg ct28t1_ok ?_
  simp only [go_sem,Nat.reduceLT,Nat.reduceAdd,ct28t1_29,kR,e7]
  repeat ((with_reducible refine aI ?_ ?_);exact an0)
  refine zX rfl trivial (fun hc=>?_) (fun hc=>?_)
  ·replace H:=zL hc H
   cases H
  replace H:=zK hc H
  refine rg zA ?_
  simp only [go_sem]
  refine sq zA ?_
  simp only [go_sem,Nat.reduceLT,Nat.reduceAdd]
  repeat ((with_reducible refine aI ?_ ?_);exact an4)
  refine rg zA ?_
  simp only [go_sem,Nat.reduceLT,Nat.reduceAdd]
  obtain rfl:=Option.some.inj H
  exact fB
 ·cases hb
def ct12t0:Ct:=tab [(26,edC body26)]
theorem ct12t0_ok:yP Tryz.prog ct12t0:=zE ok26 <| zO
theorem ct12t0_26 (l:List AV) (h:List ABlk):ct12t0 26 l h=edC body26 l h:=rfl
def ct12t1:Ct:=tab [(27,jS body27)]
theorem ct12t1_ok:yP Tryz.prog ct12t1:=zE ok27 <| zO
theorem ct12t1_27 (l:List AV) (h:List ABlk):ct12t1 27 l h=jS body27 l h:=rfl
def ct12t2:Ct:=tab [(28,pureC body28)]
theorem ct12t2_ok:yP Tryz.prog ct12t2:=zE ok28 <| zO
theorem ct12t2_28 (l:List AV) (h:List ABlk):ct12t2 28 l h=pureC body28 l h:=rfl
def F12 (p0:List Int):Option (TRegulateWord × Bool) :=
 (F26 p0).bind fun r1=>bif (!bEq r1.2 0) then (some ((TRegulateWord.mk 0 0 0 0),false)) else ((F27 r1.1.Body).bind fun r4=>(F28 r4.1.Data).bind fun r6=>some (r6.1,((bEq r4.2 0) && (bEq r6.2 0))))
def fW:List AV->AR
 | [v0]=>.pure (lK k_u8 1 v0/\(F12 (lA g_u8 v0)).isSome=true) (.tup [.agg [.int .u8 (((gt (F12 (lA g_u8 v0))).1).Kind),.int .i64 (((gt (F12 (lA g_u8 v0))).1).Channel),.int .i64 (((gt (F12 (lA g_u8 v0))).1).To),.int .i64 (((gt (F12 (lA g_u8 v0))).1).At)],.bool ((gt (F12 (lA g_u8 v0))).2)])
 | _=>.fail
theorem ok12:FnOk Tryz.prog 12 (pureC fW):=by
 refine yM fW (rs:=[.cell 2 43,.tmp 3]) Tryz.func12 (by kernel_rfl) rfl rfl ?_
 intro l ob v hb hob
 unfold fW at hb
 split at hb
 ·rename_i v0
  injection hb with q1 q2;subst q1 q2
  obtain ⟨hk0_0,hob⟩:=hob
  obtain ⟨r,H⟩:=oE.1 hob
  rw [H,zN]
  have hw0:=lK_wk (fun r h=>w_u8 h) hk0_0
  generalize lA g_u8 v0=p0 at H hw0
  refine ⟨[.ro 1 p0.length false (enR c_u8 p0)],_,(fun E vs F=>yC hw0.1 F (fun vs F=>F)),rfl,rfl,?_⟩
  rw [Tryz.ntmps12]
  simp only [lC,lN,Nat.reduceAdd,Nat.reduceSub,rS,rZ,aC,aN]
  unfold F12 at H
  try dsimp only at H
  refine sq zA ?_
  simp only [go_sem]
  refine zC ?_
  obtain ⟨r1,e2,H⟩:=bsi H
  refine rg ct12t0_ok ?_
  simp only [go_sem,Nat.reduceLT,Nat.reduceAdd,ct12t0_26,body26,e2]
  repeat ((with_reducible refine aI ?_ ?_);exact an0)
  refine zC ?_
  refine sq zA ?_
  simp only [go_sem]
  refine zX rfl trivial (fun hc=>?_) (fun hc=>?_)
  ·have hk3:(bEq r1.2 0)=false:=by simpa using hc
   replace H:=zL hc H
   refine sq zA ?_
   simp only [go_sem,Nat.reduceAdd]
   repeat ((with_reducible refine aI ?_ ?_);exact an4)
   refine rg zA ?_
   simp only [go_sem,Nat.reduceLT,Nat.reduceAdd]
   obtain rfl:=Option.some.inj H
   exact fB
  have hk3:(bEq r1.2 0)=true:=by simpa using hc
  replace H:=zK hc H
  refine rg zA ?_
  simp only [go_sem]
  refine zC ?_
  refine fz_mean [1] ?_ ?_
  ·simp only [go_sem,Nat.reduceBEq]
   try exact at0
  simp only [go_sem,Nat.reduceBEq,Nat.reduceAdd]
  obtain ⟨r4,e5,H⟩:=bsi H
  refine rg ct12t1_ok ?_
  simp only [go_sem,Nat.reduceLT,Nat.reduceAdd,ct12t1_27,body27,e5]
  repeat ((with_reducible refine aI ?_ ?_);exact an0)
  refine zC ?_
  obtain ⟨r6,e7,H⟩:=bsi H
  refine rg ct12t2_ok ?_
  simp only [go_sem,Nat.reduceLT,Nat.reduceAdd,ct12t2_28,body28,e7]
  repeat ((with_reducible refine aI ?_ ?_);exact an0)
  refine sq zA ?_
  simp only [go_sem,Nat.reduceLT,Nat.reduceAdd]
  repeat ((with_reducible refine aI ?_ ?_);exact an4)
  refine rg zA ?_
  simp only [go_sem,Nat.reduceLT,Nat.reduceAdd]
  obtain rfl:=Option.some.inj H
  exact fB
 ·cases hb
def M30:List (Int × Value):=[(1,.agg #[.func (.func 64) #[] #[],.func (.func 65) #[] #[]]),(2,.agg #[.func (.func 66) #[] #[],.func (.func 67) #[] #[]]),(3,.agg #[.func (.func 68) #[] #[],.func (.func 69) #[] #[]])]
theorem lk30 (n:Int):lkM M30 n=bif bEq n 1 then .agg [.fn 64 [],.fn 65 []] else bif bEq n 2 then .agg [.fn 66 [],.fn 67 []] else bif bEq n 3 then .agg [.fn 68 [],.fn 69 []] else .top:=rfl
theorem has30 (n:Int):hasM M30 n=bif bEq n 1 then true else bif bEq n 2 then true else bif bEq n 3 then true else false:=rfl
theorem go30 (w:World):Calls Tryz.prog 30 #[] w fun e w'=>e = .returned (.map (some w.heap.size))/\∃ es c,NewMap w w' es c/\es.toList.map (fun e=>(e.key,e.val))=M30.map (fun q=>(Value.int .u8 q.1,q.2)):=by
 refine calls_of_wp Tryz.func30 rfl ?_
 refine wp_seq (wp_region_list ?_)
 refine stepL rfl rfl ?_
 refine wp_seq (wp_region_list ?_)
 refine stepL (r:=.map (some w.heap.size)) (w':=w.alloc (.map #[] 0)) rfl rfl ?_
 have n0:=NewMap.mk0 w
 refine stepL (r:=.agg #[.func (.func 64) #[] #[],.func (.func 65) #[] #[]]) (w':=w.alloc (.map #[] 0)) rfl (by kernel_rfl) ?_
 obtain ⟨w1,r1,n1⟩:=n0.ins (P:=Tryz.prog) (mt:=92) (kt:=5) (et:=91) (n:=1) (v:=.agg #[.func (.func 64) #[] #[],.func (.func 65) #[] #[]]) (by kernel_rfl) (by kernel_rfl) (by simp [MapKept.IsKey]) (by simp)
 refine stepS rfl (skipU r1) ?_
 refine stepL (r:=.agg #[.func (.func 66) #[] #[],.func (.func 67) #[] #[]]) (w':=w1) rfl (by kernel_rfl) ?_
 obtain ⟨w2,r2,n2⟩:=n1.ins (P:=Tryz.prog) (mt:=92) (kt:=5) (et:=91) (n:=2) (v:=.agg #[.func (.func 66) #[] #[],.func (.func 67) #[] #[]]) (by kernel_rfl) (by kernel_rfl) (by simp [MapKept.IsKey]) (by simp)
 refine stepS rfl (skipU r2) ?_
 refine stepL (r:=.agg #[.func (.func 68) #[] #[],.func (.func 69) #[] #[]]) (w':=w2) rfl (by kernel_rfl) ?_
 obtain ⟨w3,r3,n3⟩:=n2.ins (P:=Tryz.prog) (mt:=92) (kt:=5) (et:=91) (n:=3) (v:=.agg #[.func (.func 68) #[] #[],.func (.func 69) #[] #[]]) (by kernel_rfl) (by kernel_rfl) (by simp [MapKept.IsKey]) (by simp)
 refine stepS rfl (skipU r3) ?_
 refine stepL rfl rfl ?_
 refine stepL rfl rfl ?_
 refine wp_ret ?_
 exact ⟨rfl,.map (some w.heap.size),by kernel_rfl,rfl,_,_,n3,rfl⟩
theorem ok30:FnOk Tryz.prog 30 (mapC M30):=map_fn ⟨_,Tryz.func30,by kernel_rfl,by kernel_rfl⟩ M30 go30
def F64_0 (p0_2:Bool) (p1:TRegulateWord) (p2:Int):Option (Bool) :=
 some ((!p0_2) && (bLe p2 p1.At))
def eK:List AV->AR
 | [v0,v1,v2]=>.pure (rM 10 v0/\bK (rG v0 2)/\aK 4 yV v1/\iK .i64 v2/\(F64_0 (bA (rG v0 2)) (zY (aL v1)) (iA v2)).isSome=true) (.bool (gt (F64_0 (bA (rG v0 2)) (zY (aL v1)) (iA v2))))
 | _=>.fail
theorem ok64_0:FnOk Tryz.prog 64 (pureC eK):=by
 refine yM eK (rs:=[.tmp 6]) Tryz.func64 (by kernel_rfl) rfl rfl ?_
 intro l ob v hb hob
 unfold eK at hb
 split at hb
 ·rename_i v0 v1 v2
  injection hb with q1 q2;subst q1 q2
  obtain ⟨hk0_0,hk0_1,hk1_0,hk2_0,hob⟩:=hob
  obtain ⟨r,H⟩:=oE.1 hob
  rw [H,zN]
  have hw0:=(fN (cells:=[AV.top,AV.top,AV.bool (bA (rG v0 2)),AV.top,AV.top,AV.top,AV.top,AV.top,AV.top,AV.top]) hk0_0 (fun y hy=>match y,hy with|0,_=>yD|1,_=>yD|2,_=>vT hk0_1|3,_=>yD|4,_=>yD|5,_=>yD|6,_=>yD|7,_=>yD|8,_=>yD|9,_=>yD|y+10,hy=>absurd hy (by omega)))
  have hw1:=xY hk1_0
  have hw2:=iK_wk hk2_0
  generalize bA (rG v0 2)=p0_2 at H hw0
  generalize zY (aL v1)=p1 at H hw1
  generalize iA v2=p2 at H hw2
  refine ⟨[.rptr 10 1 0 0 (fun _ y=>getL [.top,.top,.bool p0_2,.top,.top,.top,.top,.top,.top,.top] y),.agg [.int .u8 p1.Kind,.int .i64 p1.Channel,.int .i64 p1.To,.int .i64 p1.At],.int .i64 p2],_,(fun E vs F=>yC hw0.1 F (fun vs F=>yC hw1.1 F (fun vs F=>yC hw2.1 F (fun vs F=>F)))),rfl,rfl,?_⟩
  rw [Tryz.ntmps64]
  simp only [lC,lN,Nat.reduceAdd,Nat.reduceSub,rS,rZ,aC,aN]
  unfold F64_0 at H
  try dsimp only at H
  refine sq zA ?_
  simp only [go_sem]
  refine sq zA ?_
  simp only [go_sem,Nat.reduceLeDiff,Nat.reduceLT,Nat.reduceAdd]
  repeat ((with_reducible refine aI ?_ ?_);exact an4)
  refine rg zA ?_
  simp only [go_sem]
  obtain rfl:=Option.some.inj H
  exact fB
 ·cases hb
end
end Go.Proofs.YtooepgpfaaddbaaGreat
