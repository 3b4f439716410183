/-
  Contracts of functions: each computes its partial function.
-/
import Derived.Test.YtooepgpfaaddbaaGreatY3p1
namespace Go.Proofs.YtooepgpfaaddbaaGreat
open Go.Am
set_option maxHeartbeats 4000000
set_option maxRecDepth 20000
noncomputable section
set_option linter.unusedVariables false
set_option linter.unusedSimpArgs false
theorem ext86:ExtOk Tryz.prog 96 ovC2:=ov_ext2 (t:=27) (tr:=4) (e:=97) (z:=2) Tryz.func96 (by kernel_rfl) (by kernel_rfl) (by kernel_rfl) (by kernel_rfl) (by kernel_rfl) (by kernel_rfl)
def ctI86:Ct:=tab [(96,ovC2)]
theorem ctI86_ok:yP Tryz.prog ctI86:=tab_ext ext86 zO
theorem ctI86_eq (l:List AV) (h:List ABlk):ctI86 96 l h=ovC2 l h:=rfl
theorem tik86_1:tintk Tryz.prog 27=false:=by kernel_rfl
set_option maxHeartbeats 8000000 in
theorem okF86:FnOk Tryz.prog 86 (insF 97 2):=by
 refine edit1_fn (sh:=fun _=>none) (fun _ _ h=>by cases h) ctI86_ok (insF 97 2) (rs:=[.tmp 6]) Tryz.func86 (by kernel_rfl) rfl rfl insF_np ?_
 intro E h l vs ob v h' H F hc hob
 unfold insF at hc
 split at hc
 ·rename_i b es' i n nl p b2 es3 i2 m nl2
  split at hc
  ·rename_i e' es2 NN c hb
   split at hc
   ·rename_i e4 es4 N2 d hb2
    injection hc with q1 q2 q3
    subst q1 q2 q3
    obtain ⟨rfl,rfl,rfl,rfl,rfl,hbb,hN,hN2,hpn,hmm,hbig,hfl,hfl2⟩:=hob
    obtain ⟨vs⟩:=vs
    match vs,F.1 with
    | [u1,u2,u3],_ =>
     have hne:geth h b ≠ .dead:=by rw [hb];exact fun e=>by cases e
     obtain ⟨cap,hcap,hV⟩:=csl_of_sl (only_sl (F.2 0 _ u1 rfl rfl))
     have g2:=F.2 1 _ u2 rfl rfl
     have g3:=only_ro (b:=b) H (F.2 2 _ u3 rfl rfl) hb2 hne hbb hN2 fun x y hx hy=>(hfl2 x y hx hy).1
     obtain rfl:=vX g2
     refine ⟨b,97,2,NN,c,n+m,cK i p m c (wR i2 d),[.csl 0 2 i n cap,.int .i64 p,.ro 2 m nl2 (wR i2 d)],hb,fun x y hx hy=>(hfl x y hx hy).1,fun x y hx hy=>?_,rfl,rfl,?_,?_⟩
     ·unfold cK wR
      split
      ·exact hfl _ _ (by omega) hy
      ·split
       ·exact hfl2 _ _ (by omega) hy
       ·exact hfl _ _ (by omega) hy
     ·refine ⟨rfl,fun j a w ha hw=>?_⟩
      match j with
      | 0=>simp at ha hw;subst ha hw;exact hV
      | 1=>simp at ha hw;subst ha hw;exact .int _ _
      | 2=>simp at ha hw;subst ha hw;exact g3
      | j+3=>simp at ha
     ·rw [Tryz.ntmps86]
      show wpC _ _ _ _ _ (.csl 0 2 i n cap::.int .i64 p::.ro 2 m nl2 (wR i2 d)::.top::.top::.top::.top::.top::.top::.top::.top::.top::.top::.top::.top::.top::.top::.top::.top::.top::.top::.top::.top::.top::.top::.top::.top::.top::.top::.top::.top::.top::.top::.top::.top::.top::.top::.top::.top::.top::.top::.top::.top::.top::.top::.top::.top::.top::.top::.top::.top::.top::.top::.top::.top::.top::.top::.top::.top::.top::.top::.top::.top::.top::.top::.top::.top::.top::.top::.top::.top::.top::.top::.top::.top::.top::.top::.top::.top::.top::.top::.top::.top::.top::.top::.top::.top::.top::.top::.top::.top::.top::.top::.top::.top::[]) _
      have hm0:0 < m:=by omega
      have hm1:((m:Int) == 0)=false:=by simp;omega
      rcases Nat.lt_or_ge p n with hp|hp
      ·have hpq:((p:Int) == (n:Int))=false:=by simp;omega
       have w1:wr .i64 ((n:Int)+(m:Int))=((n+m:Nat):Int):=by unfold wr;rw [IntWalk.i64_in _ (by omega)];omega
       have w2:wr .i64 (((n+m:Nat):Int) - (p:Int))=((n+m - p:Nat):Int):=by unfold wr;rw [IntWalk.i64_in _ (by omega)];omega
       have w3:wr .i64 ((p:Int)+(m:Int))=((p+m:Nat):Int):=by unfold wr;rw [IntWalk.i64_in _ (by omega)];omega
       have hpm:p+(n+m - p)=n+m:=by omega
       have mn1:min m (n+m - p)=m:=by omega
       have mn2:min (n - p) (n+m - (p+m))=n - p:=by omega
       have mn3:min (n+m - p) (n+m - (p+m))=n - p:=by omega
       have fin:∀ x y,x < n+m->cK i p m c (wR i2 d) x y=cK i p m c (wR i2 d) x y:=fun _ _ _=>rfl
       by_cases hroom:n+m <= cap
       ·have hg:decide ((cap:Int) < ((n+m:Nat):Int))=false:=by simp;omega
        simp only [go_sem,Nat.reduceLeDiff,Nat.reduceAdd,reduceCtorEq,qF,tL,lenS,cutS,evCap,gT,tik86_1,bEq,Option.isNone_some,Option.isSome_none,Option.isNone_none,Int.toNat_natCast,hm1,hpq,hg,Nat.sub_zero,bLt,w1,w2,w3,hpm,ctI86_eq,ovC2,slB,Nat.add_zero,Nat.zero_add]
        refine ⟨by omega,by omega,by omega,by omega,?_⟩
        refine xC (sh:=fun _=>none) (fun _ _ h=>by cases h) ctI86_ok 0 (by kernel_rfl) (by kernel_rfl) ?_
        intro an han
        simp only [go_sem,Nat.reduceLeDiff,Nat.reduceAdd,Nat.reduceSub,qF,tL,lenS,cutS,Option.isSome_none,Option.isNone_none,Int.toNat_natCast,w3,mn1,mn3,Nat.add_zero,Nat.zero_add,vH,wI,tC,xF,refs,vN,mask,wN,place,xU,wO,xV,hit,inL,xH,ren,nrH,nrB,rZ,Bool.or_false,Bool.or_true,Bool.true_or,Bool.false_and,Nat.sub_self,Nat.add_zero,Nat.zero_add,Nat.reduceSub,Nat.lt_add_one]
        refine ⟨by omega,by omega,by omega,by omega,by omega,?_⟩
        refine conv_move (b:=0) rfl (by omega) (by omega) fun x y hx hy=>?_
        unfold jM cK wR
        by_cases hxp:x < p
        ·rw [if_neg (by omega),if_neg (by omega),if_pos hxp]
        ·rw [if_neg hxp]
         by_cases hxm:x < p+m
         ·rw [if_pos (by omega),if_pos hxm]
          congr 1
          omega
         ·rw [if_neg (by omega),if_pos (by omega),if_neg hxm]
          congr 1
          omega
       ·have hg:decide ((cap:Int) < ((n+m:Nat):Int))=true:=by simp;omega
        have hd:decide (cap < n+m)=true:=by simp;omega
        simp only [go_sem,Nat.reduceLeDiff,Nat.reduceAdd,reduceCtorEq,qF,tL,lenS,cutS,evCap,gT,tik86_1,bEq,Option.isNone_some,Option.isSome_none,Option.isNone_none,Int.toNat_natCast,hm1,hpq,hg,hd,Nat.sub_zero,bLt,w1,w2,w3,hpm,mn1,ctI86_eq,ovC2,slB,Nat.add_zero,Nat.zero_add]
        refine ⟨by omega,by omega,by omega,by omega,by omega,?_⟩
        refine xC (sh:=fun _=>none) (fun _ _ h=>by cases h) ctI86_ok 0 (by kernel_rfl) (by kernel_rfl) ?_
        intro an han
        simp only [go_sem,Nat.reduceLeDiff,Nat.reduceAdd,Nat.reduceSub,Nat.reduceBEq,qF,tL,lenS,cutS,Option.isSome_none,Option.isNone_none,Int.toNat_natCast,w3,mn2,Nat.add_zero,Nat.zero_add,vH,wI,tC,xF,refs,vN,mask,wN,place,xU,wO,xV,hit,inL,xH,ren,nrH,nrB,rZ,Bool.or_false,Bool.or_true,Bool.true_or,Bool.false_and,Nat.sub_self,Nat.add_zero,Nat.zero_add,Nat.reduceSub,Nat.lt_add_one]
        refine ⟨by omega,by omega,by omega,?_⟩
        refine conv_two (by omega) fun x y hx hy=>?_
        unfold jM uL cK wR
        by_cases hxp:x < p
        ·rw [if_neg (by omega),if_neg (by omega),if_pos hxp,if_pos hxp]
        ·by_cases hxm:x < p+m
         ·rw [if_neg (by omega),if_pos (by omega),if_neg hxp,if_pos hxm]
         ·rw [if_pos (by omega),if_neg hxp,if_neg hxm]
          congr 1
          omega
      ·obtain rfl:p=n:=by omega
       have hpq:((p:Int) == (p:Int))=true:=by simp
       by_cases hroom:p+m <= cap
       ·have hd1:decide (p+m <= cap)=true:=by simpa using hroom
        simp only [go_sem,Nat.reduceLeDiff,Nat.reduceAdd,qF,tL,lenS,cutS,evCap,gT,tik86_1,bEq,Option.isNone_some,Option.isSome_none,Option.isNone_none,Int.toNat_natCast,hm1,hpq,hd1,Nat.sub_zero]
        refine ⟨by omega,by omega,?_⟩
        refine conv_move (b:=0) rfl (by omega) (by omega) fun x y hx hy=>?_
        unfold jM cK
        by_cases hxp:x < p
        ·rw [if_neg (by omega),if_pos hxp]
        ·rw [if_pos (by omega),if_neg hxp,if_pos (by omega)]
         congr 1
         omega
       ·have hd1:decide (p+m <= cap)=false:=by simpa using hroom
        simp only [go_sem,Nat.reduceLeDiff,Nat.reduceAdd,qF,tL,lenS,cutS,evCap,gT,tik86_1,bEq,Option.isNone_some,Option.isSome_none,Option.isNone_none,Int.toNat_natCast,hm1,hpq,hd1,Nat.sub_zero]
        refine ⟨by omega,by omega,?_⟩
        refine conv_two (Nat.le_refl _) fun x y hx hy=>?_
        unfold uL cK wR
        by_cases hxp:x < p
        ·rw [if_pos hxp,if_pos hxp]
        ·rw [if_neg hxp,if_neg hxp,if_pos (by omega)]
   ·cases hc
  ·cases hc
 ·cases hc
theorem ok86:FnOk Tryz.prog 86 (insN 97 2):=insN_ok okF86
def ct49_0t0:Ct:=tab [(84,edC eS)]
theorem ct49_0t0_ok:yP Tryz.prog ct49_0t0:=zE ok84_0 <| zO
theorem ct49_0t0_84 (l:List AV) (h:List ABlk):ct49_0t0 84 l h=edC eS l h:=rfl
def ct49_0t1:Ct:=tab [(51,pureC qX)]
theorem ct49_0t1_ok:yP Tryz.prog ct49_0t1:=zE ok51_0 <| zO
theorem ct49_0t1_51 (l:List AV) (h:List ABlk):ct49_0t1 51 l h=pureC qX l h:=rfl
def ct49_0t2:Ct:=tab [(86,insN 97 2)]
theorem ct49_0t2_ok:yP Tryz.prog ct49_0t2:=zE ok86 <| zO
theorem ct49_0t2_86 (l:List AV) (h:List ABlk):ct49_0t2 86 l h=insN 97 2 l h:=rfl
def F49_0 (p0:TRegulate) (p1:Int):Option (TRegulate) :=
 (F84_0 p0.Clear p0.Channel).bind fun r1=>(F51_0 p0.Blocked p0.Channel).bind fun r3=>bif (!r3.2) then (need (insb r3.1 p0.Blocked.length) <| (some [(TRegulateBlock.mk p0.Channel 0)]).bind fun w7=>(some (insL p0.Blocked r3.1 [(TRegulateBlock.mk p0.Channel 0)])).bind fun w9=>need (inb r3.1 w9.length) <| some (TRegulate.mk p0.Table p0.Channel p0.Lead p0.Heard true p0.Moving p0.To p0.At (w9.set r3.1.toNat (TRegulateBlock.mk ((gd w9 r3.1.toNat).Channel) (jI (wr .i64 (p1+1800000000)) 1099511627776))) r1)) else (need (inb r3.1 p0.Blocked.length) <| some (TRegulate.mk p0.Table p0.Channel p0.Lead p0.Heard true p0.Moving p0.To p0.At (p0.Blocked.set r3.1.toNat (TRegulateBlock.mk ((gd p0.Blocked r3.1.toNat).Channel) (jI (wr .i64 (p1+1800000000)) 1099511627776))) r1))
def qW:List AV->List ABlk->ED
 | [v0,v1],h=>(fun z1=>(fun z0=>.ed [ptB v0,slN (getL (yA h v0) 0),slN (getL (yA h v0) 8),slN (getL (yA h v0) 9)] (pK 30 10 h v0/\xA (getL (kK h (yA h v0)))/\oS 35 3 h (getL (yA h v0) 0)/\nref (getL (yA h v0) 1)/\nref (getL (yA h v0) 2)/\nref (getL (yA h v0) 3)/\nref (getL (yA h v0) 4)/\nref (getL (yA h v0) 5)/\nref (getL (yA h v0) 6)/\nref (getL (yA h v0) 7)/\oS 97 2 h (getL (yA h v0) 8)/\oS 3 1 h (getL (yA h v0) 9)/\iK .i64 (roD z1 v1)/\xJ z1 v1/\z0.isSome=true) (.tup []) [.lit 30 [.sl 4 3 0 (((gt z0).Table).length) false,.int .i64 ((gt z0).Channel),.bool ((gt z0).Lead),.int .i64 ((gt z0).Heard),.bool ((gt z0).Stopped),.bool ((gt z0).Moving),.int .i64 ((gt z0).To),.int .i64 ((gt z0).At),.sl 5 2 0 (((gt z0).Blocked).length) false,.sl 6 1 0 (((gt z0).Clear).length) false],.dead,.dead,.dead,.row 35 3 (((gt z0).Table).length) (enR c_TRegulateChannel ((gt z0).Table)),.row 97 2 (((gt z0).Blocked).length) (enR zB ((gt z0).Blocked)),.row 3 1 (((gt z0).Clear).length) (enR yG ((gt z0).Clear))]) (F49_0 (yJ (getL (kK h (yA h v0)))) (iA (roD z1 v1)))) (zH h [ptB v0,slN (getL (yA h v0) 0),slN (getL (yA h v0) 8),slN (getL (yA h v0) 9)])
 | _,_=>.fail
theorem ok49_0:FnOk Tryz.prog 49 (edC qW):=by
 refine xO qW (rs:=[]) Tryz.func49 (by kernel_rfl) rfl rfl ?_
 intro l h bs ob q0 g0 hb hob
 unfold qW at hb
 dsimp only at hb
 split at hb
 ·rename_i v0 v1
  injection hb with q1 q2 q3 q4;subst q1 q2 q3 q4
  obtain ⟨hk0_0,hk0_1,hk0_2,hk0_3,hk0_4,hk0_5,hk0_6,hk0_7,hk0_8,hk0_9,hk0_10,hk0_11,hk1_0,hk1_1,hob⟩:=hob
  obtain ⟨r,H⟩:=oE.1 hob
  rw [H,zN]
  obtain ⟨p0,hp0⟩:∃ p0,p0=yJ (getL (kK h (yA h v0))):=⟨_,rfl⟩
  rw [← hp0] at H
  have hw0:∀ y,y < 10->WkV (getL (zG p0) y) (roW h (getL (yA h v0) y))/\nref (getL (zG p0) y):=fun y hy=>by rw [hp0,← yQ];exact qO hk0_1 y hy
  have hk0_K:=hk0_1
  unfold xA at hk0_K
  obtain ⟨kk0_0,kk0_1,kk0_2,kk0_3,kk0_4,kk0_5,kk0_6,kk0_7,kk0_8,kk0_9⟩:=hk0_K
  obtain ⟨ev0_0,eb0_0⟩:=wT (f:=c_TRegulateChannel) (g:=g_TRegulateChannel) (bs:=[ptB v0,slN (getL (yA h v0) 0),slN (getL (yA h v0) 8),slN (getL (yA h v0) 9)]) (i:=1) (fun hr=>yH hr) hk0_2 (by rw [← yQ];exact kk0_0) (L:=p0.Table) (by rw [hp0,← yQ];rfl) rfl
  obtain ⟨ev0_8,eb0_8⟩:=wT (f:=zB) (g:=zF) (bs:=[ptB v0,slN (getL (yA h v0) 0),slN (getL (yA h v0) 8),slN (getL (yA h v0) 9)]) (i:=2) (fun hr=>xD hr) hk0_10 (by rw [← yQ];exact kk0_8) (L:=p0.Blocked) (by rw [hp0,← yQ];rfl) rfl
  obtain ⟨ev0_9,eb0_9⟩:=wT (f:=yG) (g:=xQ) (bs:=[ptB v0,slN (getL (yA h v0) 0),slN (getL (yA h v0) 8),slN (getL (yA h v0) 9)]) (i:=3) (fun hr=>jJ hr) hk0_11 (by rw [← yQ];exact kk0_9) (L:=p0.Clear) (by rw [hp0,← yQ];rfl) rfl
  have hw1:=iK_wk hk1_0
  obtain ⟨p1,hp_p1⟩:∃ p1,p1=iA (roD (zH h [ptB v0,slN (getL (yA h v0) 0),slN (getL (yA h v0) 8),slN (getL (yA h v0) 9)]) v1):=⟨_,rfl⟩
  rw [← hp_p1] at H hw1
  refine ⟨[.ptr 0 0 0 0,.int .i64 p1],[.lit 30 [.sl 1 3 0 p0.Table.length false,.int .i64 p0.Channel,.bool p0.Lead,.int .i64 p0.Heard,.bool p0.Stopped,.bool p0.Moving,.int .i64 p0.To,.int .i64 p0.At,.sl 2 2 0 p0.Blocked.length false,.sl 3 1 0 p0.Clear.length false],.row 35 3 p0.Table.length (enR c_TRegulateChannel p0.Table),.row 97 2 p0.Blocked.length (enR zB p0.Blocked),.row 3 1 p0.Clear.length (enR yG p0.Clear)],rfl,⟨(cM (EV_pK hk0_0 rfl) (by simp only [noro])),⟨(yR hk1_1 hw1),trivial⟩⟩,⟨(EB_pK hk0_0 rfl rfl (fun y hy=>by
     match y,hy with
     | 0,_=>exact ev0_0
     | 1,_=>exact uQ hk0_3 (hw0 1 (by decide))
     | 2,_=>exact uQ hk0_4 (hw0 2 (by decide))
     | 3,_=>exact uQ hk0_5 (hw0 3 (by decide))
     | 4,_=>exact uQ hk0_6 (hw0 4 (by decide))
     | 5,_=>exact uQ hk0_7 (hw0 5 (by decide))
     | 6,_=>exact uQ hk0_8 (hw0 6 (by decide))
     | 7,_=>exact uQ hk0_9 (hw0 7 (by decide))
     | 8,_=>exact ev0_8
     | 9,_=>exact ev0_9
     | y+10,hy=>omega)),⟨eb0_0,⟨eb0_8,⟨eb0_9,trivial⟩⟩⟩⟩,⟨(by simp only [kP,yK,noro,and_self]),⟨zW,⟨zW,⟨zW,trivial⟩⟩⟩⟩,⟨trivial,⟨trivial,⟨trivial,⟨trivial,⟨(yY zI),⟨(yY zM),⟨(yY xL),trivial⟩⟩⟩⟩⟩⟩⟩,⟨(by simp only [kP,yK,noro,and_self]),⟨trivial,⟨trivial,⟨trivial,⟨zW,⟨zW,⟨zW,trivial⟩⟩⟩⟩⟩⟩⟩,(by first|(simp only [noro,yK];done)|(simp only [noro,yK];and_intros<;>first|trivial|exact xX (by simp only [noro]) (by simp only [noro])|(simp only [noro,yK,and_self]))),?_⟩
  rw [Tryz.ntmps49]
  simp only [lC,lN,Nat.reduceAdd,Nat.reduceSub,rS,rZ,aC,aN]
  unfold F49_0 at H
  try dsimp only at H
  refine sq zA ?_
  simp only [go_sem,Nat.reduceAdd]
  refine sq zA ?_
  simp only [go_sem,Nat.reduceLeDiff,Nat.reduceLT,Nat.reduceAdd]
  repeat ((with_reducible refine aI ?_ ?_);exact an4)
  refine zC ?_
  obtain ⟨r1,e2,H⟩:=bsi H
  refine gQ [(16,[0,1,2],[4,0,1,2])] zU ct49_0t0_ok 1 (by kernel_rfl) (by kernel_rfl) ?_
  intro an han
  simp only [vH,wI,tC,xrD,xoD,uY,vL,List.append_nil,xF,refs,vN,mask,wN,place,xU,wO,xV,hit,inL,xH,ren,rnN,nrH,nrB,nrL,nr,rZ,rS,Nat.sub_self,Nat.add_zero,Nat.zero_add,Nat.reduceSub,Nat.lt_add_one,go_sem,Nat.reduceLeDiff,Nat.reduceLT,Nat.reduceAdd,Nat.reduceSub,Nat.reduceBEq,ct49_0t0_84,eS,e2]
  repeat ((with_reducible refine aI ?_ ?_);exact an5)
  refine sq zA ?_
  simp only [go_sem]
  repeat ((with_reducible refine aI ?_ ?_);exact an0)
  refine zC ?_
  obtain ⟨r3,e4,H⟩:=bsi H
  refine xZ zU ct49_0t1_ok (by kernel_rfl) (by kernel_rfl) ?_
  simp only [go_sem,Nat.reduceLeDiff,Nat.reduceLT,Nat.reduceAdd,ct49_0t1_51,qX,e4]
  repeat ((with_reducible refine aI ?_ ?_);exact an0)
  refine zC ?_
  refine sq zA ?_
  simp only [go_sem]
  refine condM' rfl trivial (fun hc=>?_) (fun hc=>?_)
  ·have hk5:(r3.2)=true:=by simpa using hc
   replace H:=zK hc H
   refine rg zA ?_
   simp only [go_sem]
   obtain ⟨f12,H⟩:=nI H
   refine rg zA ?_
   simp only [go_sem,Nat.reduceLeDiff,Nat.reduceLT,Nat.reduceAdd,f12]
   repeat ((with_reducible refine aI ?_ ?_);exact an4)
   obtain rfl:=Option.some.inj H
   try refine And.intro trivial ?_
   refine yE [] [some 0,some 1,some 2,some 3,some 1,some 2,some 5] ?_ ?_ ?_ ?_ (by rfl) (by rfl)
   ·simp only [go_sem]
    try exact at0
   ·simp only [go_sem]
    try exact at0
   ·simp only [go_sem]
    simp [Cv,CvL]
   ·simp only [go_sem,Nat.reduceAdd,CvH]
    first|exact ⟨(by simp [CvB,CvL,Cv,uD,geth,yB]),yI,yI,yI,zJ zI cl (fun _ _ _ _=>rfl),zJ zM cl (kH (f:=zB) p0.Blocked r3.1.toNat 1 (TRegulateBlock.mk ((gd p0.Blocked r3.1.toNat).Channel) (jI (wr .i64 (p1+1800000000)) 1099511627776)) (fun _ _ _ _=>rfl) (fun y hy=>match y,hy with|0,_=>rfl|1,_=>rfl|(y+2),h=>absurd h nlt)),zJ xL cl (fun _ _ _ _=>rfl)⟩|trivial
  have hk5:(r3.2)=false:=by simpa using hc
  replace H:=zL hc H
  obtain ⟨f6,H⟩:=zP.1 H
  replace f6:=insb_iff.1 f6
  refine gQ [(48,[],[6])] zU ct49_0t2_ok 2 (by kernel_rfl) (by kernel_rfl) ?_
  intro an han
  simp only [vH,wI,tC,xrD,xoD,uY,vL,List.append_nil,xF,refs,vN,mask,wN,place,xU,wO,xV,hit,inL,xH,ren,rnN,nrH,nrB,nrL,nr,rZ,rS,Nat.sub_self,Nat.add_zero,Nat.zero_add,Nat.reduceSub,Nat.lt_add_one,go_sem,Nat.reduceLeDiff,Nat.reduceLT,Nat.reduceAdd,Nat.reduceSub,Nat.reduceEqDiff,Nat.reduceBEq,ct49_0t2_86,insN,f6]
  repeat ((with_reducible refine aI ?_ ?_);exact an7)
  obtain ⟨w7,hw8,H⟩:=bsj H
  have lhw8:w7.length=1:=by rw [← hw8];exact cl
  obtain ⟨w9,hw10,H⟩:=bsj H
  have lhw10:w9.length=p0.Blocked.length+1:=by rw [← hw10];exact (ins_len f6 cl)
  refine tR (t2:=(.top::.top::.ptr 4 0 0 0::.top::.int .i64 (jI (wr .i64 (p1+1800000000)) 1099511627776)::.int .i64 r3.1::tp 53 [])) (h2:=[.lit 30 [.sl 1 3 0 p0.Table.length false,.int .i64 p0.Channel,.bool p0.Lead,.int .i64 p0.Heard,.bool true,.bool p0.Moving,.int .i64 p0.To,.int .i64 p0.At,.sl 7 2 0 w9.length false,.sl 5 1 0 r1.length false],.row 35 3 p0.Table.length (enR c_TRegulateChannel p0.Table),.dead,.dead,.lit 65 [.ptr 0 0 0 0],.row 3 1 r1.length (enR yG r1),.row 97 2 w7.length (enR zB w7),.row 97 2 w9.length (enR zB w9)]) ?_ ?_
  ·refine Sq [(0,8)] ?_ ?_
   ·simp [CvL,Cv,yB,tp]
   ·exact ⟨(by simp [CvB,CvL,Cv,uD,geth,yB,lhw10]),zJ zI rfl (fun _ _ _ _=>rfl),yI,yI,(by simp [CvB,CvL,Cv,uD,geth,yB]),zJ xL rfl (fun _ _ _ _=>rfl),zJ zM lhw8 (hw8 ▸ (wS (f:=zB) [(TRegulateBlock.mk p0.Channel 0)] (fun _ _=>rfl) rfl)),zJ zM lhw10 (hw10 ▸ (ins_row f6 cl (fun _ _ _ _=>rfl) (wS (f:=zB) [(TRegulateBlock.mk p0.Channel 0)] (fun _ _=>rfl) rfl))),trivial⟩
  simp only [tp]
  obtain ⟨f11,H⟩:=nI H
  refine rg zA ?_
  simp only [go_sem,Nat.reduceLeDiff,Nat.reduceLT,Nat.reduceAdd,f11]
  repeat ((with_reducible refine aI ?_ ?_);exact an4)
  obtain rfl:=Option.some.inj H
  try refine And.intro trivial ?_
  refine yE [] [some 0,some 1,some 2,some 3,some 1,some 7,some 5] ?_ ?_ ?_ ?_ (by rfl) (by rfl)
  ·simp only [go_sem]
   try exact at0
  ·simp only [go_sem]
   try exact at0
  ·simp only [go_sem]
   simp [Cv,CvL]
  ·simp only [go_sem,Nat.reduceAdd,CvH]
   first|exact ⟨(by simp [CvB,CvL,Cv,uD,geth,yB]),yI,yI,yI,zJ zI cl (fun _ _ _ _=>rfl),zJ zM cl (kH (f:=zB) w9 r3.1.toNat 1 (TRegulateBlock.mk ((gd w9 r3.1.toNat).Channel) (jI (wr .i64 (p1+1800000000)) 1099511627776)) (fun _ _ _ _=>rfl) (fun y hy=>match y,hy with|0,_=>rfl|1,_=>rfl|(y+2),h=>absurd h nlt)),zJ xL cl (fun _ _ _ _=>rfl)⟩|trivial
 ·cases hb
def ct25_0t0:Ct:=tab [(51,pureC qX)]
theorem ct25_0t0_ok:yP Tryz.prog ct25_0t0:=zE ok51_0 <| zO
theorem ct25_0t0_51 (l:List AV) (h:List ABlk):ct25_0t0 51 l h=pureC qX l h:=rfl
def ct25_0t1:Ct:=tab [(24,pureC uH),(53,pureC fX)]
theorem ct25_0t1_ok:yP Tryz.prog ct25_0t1:=zE ok24_0 <| zE ok53 <| zO
theorem ct25_0t1_24 (l:List AV) (h:List ABlk):ct25_0t1 24 l h=pureC uH l h:=rfl
theorem ct25_0t1_53 (l:List AV) (h:List ABlk):ct25_0t1 53 l h=pureC fX l h:=rfl
def cN (p0_0:List TRegulateChannel) (p0_8:List TRegulateBlock) (p0_9:List Int) (p1:Int) (p2:Int):Option (Bool) :=
 (F51_0 p0_8 p1).bind fun r1=>need (bif r1.2 then inb r1.1 p0_8.length else true) <| bif (r1.2 && (bLt p2 ((gd p0_8 r1.1.toNat).Until))) then (some false) else ((jB p0_0 p1).bind fun r5=>need (bif r5.Radar then ((F53 p0_9 p1).isSome) else true) <| some ((!r5.Radar) || (gt (F53 p0_9 p1))))
def qS:List AV->AR
 | [v0,v1,v2]=>.pure (rM 10 v0/\lK zZ 3 (rG v0 0)/\lK yN 2 (rG v0 8)/\lK kE 1 (rG v0 9)/\iK .i64 v1/\iK .i64 v2/\(cN (lA g_TRegulateChannel (rG v0 0)) (lA zF (rG v0 8)) (lA xQ (rG v0 9)) (iA v1) (iA v2)).isSome=true) (.bool (gt (cN (lA g_TRegulateChannel (rG v0 0)) (lA zF (rG v0 8)) (lA xQ (rG v0 9)) (iA v1) (iA v2))))
 | _=>.fail
theorem ok25_0:FnOk Tryz.prog 25 (pureC qS):=by
 refine yM qS (rs:=[.tmp 6]) Tryz.func25 (by kernel_rfl) rfl rfl ?_
 intro l ob v hb hob
 unfold qS at hb
 split at hb
 ·rename_i v0 v1 v2
  injection hb with q1 q2;subst q1 q2
  obtain ⟨hk0_0,hk0_1,hk0_2,hk0_3,hk1_0,hk2_0,hob⟩:=hob
  obtain ⟨r,H⟩:=oE.1 hob
  rw [H,zN]
  have hw0:=(fN (cells:=[AV.ro 3 (lA g_TRegulateChannel (rG v0 0)).length false (enR c_TRegulateChannel (lA g_TRegulateChannel (rG v0 0))),AV.top,AV.top,AV.top,AV.top,AV.top,AV.top,AV.top,AV.ro 2 (lA zF (rG v0 8)).length false (enR zB (lA zF (rG v0 8))),AV.ro 1 (lA xQ (rG v0 9)).length false (enR yG (lA xQ (rG v0 9)))]) hk0_0 (fun y hy=>match y,hy with|0,_=>lK_wk (fun r h=>yH h) hk0_1|1,_=>yD|2,_=>yD|3,_=>yD|4,_=>yD|5,_=>yD|6,_=>yD|7,_=>yD|8,_=>lK_wk (fun r h=>xD h) hk0_2|9,_=>lK_wk (fun r h=>jJ h) hk0_3|y+10,hy=>absurd hy (by omega)))
  have hw1:=iK_wk hk1_0
  have hw2:=iK_wk hk2_0
  generalize lA g_TRegulateChannel (rG v0 0)=p0_0 at H hw0
  generalize lA zF (rG v0 8)=p0_8 at H hw0
  generalize lA xQ (rG v0 9)=p0_9 at H hw0
  generalize iA v1=p1 at H hw1
  generalize iA v2=p2 at H hw2
  refine ⟨[.rptr 10 1 0 0 (fun _ y=>getL [.ro 3 p0_0.length false (enR c_TRegulateChannel p0_0),.top,.top,.top,.top,.top,.top,.top,.ro 2 p0_8.length false (enR zB p0_8),.ro 1 p0_9.length false (enR yG p0_9)] y),.int .i64 p1,.int .i64 p2],_,(fun E vs F=>yC hw0.1 F (fun vs F=>yC hw1.1 F (fun vs F=>yC hw2.1 F (fun vs F=>F)))),rfl,rfl,?_⟩
  rw [Tryz.ntmps25]
  simp only [lC,lN,Nat.reduceAdd,Nat.reduceSub,rS,rZ,aC,aN]
  unfold cN at H
  try dsimp only at H
  refine sq zA ?_
  simp only [go_sem]
  refine zC ?_
  refine zC ?_
  obtain ⟨r1,e2,H⟩:=bsi H
  refine rg ct25_0t0_ok ?_
  simp only [go_sem,Nat.reduceLeDiff,Nat.reduceLT,Nat.reduceAdd,ct25_0t0_51,qX,e2]
  repeat ((with_reducible refine aI ?_ ?_);exact an2)
  refine zC ?_
  obtain ⟨f3,H⟩:=zP.1 H
  replace f3:=xR.1 f3
  replace f3:=fun g=>uF.1 (f3 g)
  refine rg zA ?_
  simp only [go_sem,Nat.reduceLeDiff,Nat.reduceLT,Nat.reduceAdd]
  repeat ((with_reducible refine And.intro ?_ ?_);focus exact bn3 f3)
  refine zX rfl trivial (fun hc=>?_) (fun hc=>?_)
  ·have hk4:(r1.2 && (bLt p2 ((gd p0_8 r1.1.toNat).Until)))=true:=by first|simpa using hc|simpa only [Bool.not_eq_true',Bool.not_eq_false'] using hc
   replace H:=zL hc H
   refine sq zA ?_
   simp only [go_sem]
   refine rg zA ?_
   simp only [go_sem]
   obtain rfl:=Option.some.inj H
   exact fB
  have hk4:(r1.2 && (bLt p2 ((gd p0_8 r1.1.toNat).Until)))=false:=by first|simpa using hc|simpa only [Bool.not_eq_true',Bool.not_eq_false'] using hc
  replace H:=zK hc H
  refine rg zA ?_
  simp only [go_sem]
  refine zC ?_
  obtain ⟨r5,e6,H⟩:=bsi H
  obtain ⟨f7,H⟩:=zP.1 H
  replace f7:=xR.1 f7
  refine rg ct25_0t1_ok ?_
  simp only [go_sem,Nat.reduceLT,Nat.reduceAdd,ct25_0t1_24,uH,ct25_0t1_53,fX,e6]
  repeat ((with_reducible refine And.intro ?_ ?_);focus exact bn4 f7)
  refine rg zA ?_
  simp only [go_sem]
  obtain rfl:=Option.some.inj H
  exact fB
 ·cases hb
def ct50_0t0:Ct:=tab [(25,pureC qS)]
theorem ct50_0t0_ok:yP Tryz.prog ct50_0t0:=zE ok25_0 <| zO
theorem ct50_0t0_25 (l:List AV) (h:List ABlk):ct50_0t0 25 l h=pureC qS l h:=rfl
def jC (p0_0:List TRegulateChannel) (p0_1:Int) (p0_8:List TRegulateBlock) (p0_9:List Int) (p1:Int) (v1_1:List Int) (v1_2:Int):Option (Lp ((List Int) × Int) ((List Int) ⊕ (List Int))) :=
 bif (bLt v1_2 (p0_0.length:Nat)) then (need (inb v1_2 p0_0.length) <| need (bif (!bEq ((gd p0_0 v1_2.toNat).Number) p0_1) then ((cN p0_0 p0_8 p0_9 ((gd p0_0 v1_2.toNat).Number) p1).isSome) else true) <| bif ((!bEq ((gd p0_0 v1_2.toNat).Number) p0_1) && (gt (cN p0_0 p0_8 p0_9 ((gd p0_0 v1_2.toNat).Number) p1))) then (need (capb 8 (v1_1.length+1)) <| some (.next ((v1_1 ++ [(gd p0_0 v1_2.toNat).Number]),wr .i64 (v1_2+1)))) else (some (.next (v1_1,wr .i64 (v1_2+1))))) else (some (.done (.inl v1_1)))
def F50_0 (p0_0:List TRegulateChannel) (p0_1:Int) (p0_8:List TRegulateBlock) (p0_9:List Int) (p1:Int):Option (List Int) :=
 lp (yF (fun s=>jC p0_0 p0_1 p0_8 p0_9 p1 s.1 s.2) ([],0)) (fun w1_3=>some w1_3) some
def eI:List AV->List ABlk->ED
 | [v0,v1],h=>(fun z0=>.ed [] (rM 10 (roD (zH h []) v0)/\lK zZ 3 (rG (roD (zH h []) v0) 0)/\iK .i64 (rG (roD (zH h []) v0) 1)/\lK yN 2 (rG (roD (zH h []) v0) 8)/\lK kE 1 (rG (roD (zH h []) v0) 9)/\xJ (zH h []) v0/\iK .i64 (roD (zH h []) v1)/\xJ (zH h []) v1/\z0.isSome=true) (.sl 0 1 0 ((gt z0).length) false) [.row 3 1 ((gt z0).length) (enR yG (gt z0))]) (F50_0 (lA g_TRegulateChannel (rG (roD (zH h []) v0) 0)) (iA (rG (roD (zH h []) v0) 1)) (lA zF (rG (roD (zH h []) v0) 8)) (lA xQ (rG (roD (zH h []) v0) 9)) (iA (roD (zH h []) v1)))
 | _,_=>.fail
theorem ok50_0:FnOk Tryz.prog 50 (edC eI):=by
 refine xO eI (rs:=[.tmp 4]) Tryz.func50 (by kernel_rfl) rfl rfl ?_
 intro l h bs ob q0 g0 hb hob
 unfold eI at hb
 dsimp only at hb
 split at hb
 ·rename_i v0 v1
  injection hb with q1 q2 q3 q4;subst q1 q2 q3 q4
  obtain ⟨hk0_0,hk0_1,hk0_2,hk0_3,hk0_4,hk0_5,hk1_0,hk1_1,hob⟩:=hob
  obtain ⟨r,H⟩:=oE.1 hob
  rw [H,zN]
  have hw0:=(fN (cells:=[AV.ro 3 (lA g_TRegulateChannel (rG (roD (zH h []) v0) 0)).length false (enR c_TRegulateChannel (lA g_TRegulateChannel (rG (roD (zH h []) v0) 0))),AV.int .i64 (iA (rG (roD (zH h []) v0) 1)),AV.top,AV.top,AV.top,AV.top,AV.top,AV.top,AV.ro 2 (lA zF (rG (roD (zH h []) v0) 8)).length false (enR zB (lA zF (rG (roD (zH h []) v0) 8))),AV.ro 1 (lA xQ (rG (roD (zH h []) v0) 9)).length false (enR yG (lA xQ (rG (roD (zH h []) v0) 9)))]) hk0_0 (fun y hy=>match y,hy with|0,_=>lK_wk (fun r h=>yH h) hk0_1|1,_=>iK_wk hk0_2|2,_=>yD|3,_=>yD|4,_=>yD|5,_=>yD|6,_=>yD|7,_=>yD|8,_=>lK_wk (fun r h=>xD h) hk0_3|9,_=>lK_wk (fun r h=>jJ h) hk0_4|y+10,hy=>absurd hy (by omega)))
  obtain ⟨p0_0,hp_p0_0⟩:∃ p0_0,p0_0=lA g_TRegulateChannel (rG (roD (zH h []) v0) 0):=⟨_,rfl⟩
  rw [← hp_p0_0] at H hw0
  obtain ⟨p0_1,hp_p0_1⟩:∃ p0_1,p0_1=iA (rG (roD (zH h []) v0) 1):=⟨_,rfl⟩
  rw [← hp_p0_1] at H hw0
  obtain ⟨p0_8,hp_p0_8⟩:∃ p0_8,p0_8=lA zF (rG (roD (zH h []) v0) 8):=⟨_,rfl⟩
  rw [← hp_p0_8] at H hw0
  obtain ⟨p0_9,hp_p0_9⟩:∃ p0_9,p0_9=lA xQ (rG (roD (zH h []) v0) 9):=⟨_,rfl⟩
  rw [← hp_p0_9] at H hw0
  have hw1:=iK_wk hk1_0
  obtain ⟨p1,hp_p1⟩:∃ p1,p1=iA (roD (zH h []) v1):=⟨_,rfl⟩
  rw [← hp_p1] at H hw1
  refine ⟨[.rptr 10 1 0 0 (fun _ y=>getL [.ro 3 p0_0.length false (enR c_TRegulateChannel p0_0),.int .i64 p0_1,.top,.top,.top,.top,.top,.top,.ro 2 p0_8.length false (enR zB p0_8),.ro 1 p0_9.length false (enR yG p0_9)] y),.int .i64 p1],[],rfl,⟨(yR hk0_5 hw0),⟨(yR hk1_1 hw1),trivial⟩⟩,trivial,trivial,⟨(yY xL),trivial⟩,⟨zW,trivial⟩,(by first|(simp only [noro];done)|(simp only [noro,yK];and_intros<;>first|trivial|exact xX (by simp only [noro]) (by simp only [noro])|(simp only [noro,yK,and_self]))),?_⟩
  rw [Tryz.ntmps50]
  simp only [lC,lN,Nat.reduceAdd,Nat.reduceSub,rS,rZ,aC,aN]
  unfold F50_0 at H
  try dsimp only at H
  refine sq zA ?_
  simp only [go_sem]
  refine sq zA ?_
  simp only [go_sem]
  refine zC ?_
  refine sq zA ?_
  simp only [go_sem,Nat.reduceLeDiff,Nat.reduceLT]
  repeat ((with_reducible refine aI ?_ ?_);exact an2)
  refine xN ?_
  refine xP (fun s:(List Int) × Int=>(.rptr 10 1 0 0 (fun _ y=>getL [.ro 3 p0_0.length false (enR c_TRegulateChannel p0_0),.int .i64 p0_1,.top,.top,.top,.top,.top,.top,.ro 2 p0_8.length false (enR zB p0_8),.ro 1 p0_9.length false (enR yG p0_9)] y)::.int .i64 p1::.top::.top::.top::.sl 0 1 0 s.1.length false::tp 5 (.ro 3 p0_0.length false (enR c_TRegulateChannel p0_0)::.int .i64 (p0_0.length:Nat)::.int .i64 s.2::tp 24 []))) (fun s=>[.row 3 1 s.1.length (enR yG s.1)]) (fun e:List Int=>(tp 5 (.sl 0 1 0 e.length false::tp 32 []))) (fun e=>[.row 3 1 e.length (enR yG e)]) H ?_ (fun s o H hn1_1 hn2_1=>?_) (fun w1_3 H=>?_)
  ·refine xI ⟨[none],?_,?_,by rfl,by rfl⟩
   ·simp [CvL,Cv,tp]
   ·exact dQ
  ·obtain ⟨v1_1,v1_2⟩:=s
   unfold jC at H
   try dsimp only at H ⊢
   try simp only [tp]
   refine sq zA ?_
   simp only [go_sem]
   refine zC ?_
   refine condM' rfl trivial (fun hc=>?_) (fun hc=>?_)
   ·have hk1:(bLt v1_2 (p0_0.length:Nat))=false:=by simpa using hc
    replace H:=zK hc H
    refine rg zA ?_
    simp only [go_sem]
    refine ⟨_,(Option.some.inj H).symm,?_⟩
    refine Sq [(0,1)] ?_ ?_
    ·simp [CvL,Cv,yB]
    ·exact dQ
   have hk1:(bLt v1_2 (p0_0.length:Nat))=true:=by simpa using hc
   replace H:=zL hc H
   refine rg zA ?_
   simp only [go_sem]
   refine zC ?_
   refine xN ?_
   refine zC ?_
   obtain ⟨f2,H⟩:=nI H
   refine rg zA ?_
   simp only [go_sem,Nat.reduceLT,Nat.reduceAdd,f2]
   repeat ((with_reducible refine aI ?_ ?_);exact an4)
   refine zC ?_
   obtain ⟨f3,H⟩:=zP.1 H
   replace f3:=xR.1 f3
   refine xZ zU ct50_0t0_ok (by kernel_rfl) (by kernel_rfl) ?_
   simp only [go_sem,Nat.reduceLeDiff,Nat.reduceLT,Nat.reduceAdd,ct50_0t0_25,qS]
   repeat ((with_reducible refine And.intro ?_ ?_);focus exact bn4 f3)
   refine condM' rfl trivial (fun hc=>?_) (fun hc=>?_)
   ·have hk4:((!bEq ((gd p0_0 v1_2.toNat).Number) p0_1) && (gt (cN p0_0 p0_8 p0_9 ((gd p0_0 v1_2.toNat).Number) p1)))=false:=by first|simpa using hc|simpa only [Bool.not_eq_true',Bool.not_eq_false'] using hc
    replace H:=zK hc H
    refine rg zA ?_
    simp only [go_sem]
    refine rg zA ?_
    simp only [go_sem]
    refine ⟨_,(Option.some.inj H).symm,?_⟩
    refine Sq [(0,1)] ?_ ?_
    ·simp [CvL,Cv,yB]
    ·exact dQ
   have hk4:((!bEq ((gd p0_0 v1_2.toNat).Number) p0_1) && (gt (cN p0_0 p0_8 p0_9 ((gd p0_0 v1_2.toNat).Number) p1)))=true:=by first|simpa using hc|simpa only [Bool.not_eq_true',Bool.not_eq_false'] using hc
   replace H:=zL hc H
   obtain ⟨f5,H⟩:=nC H
   refine rg zA ?_
   simp only [go_sem,Nat.reduceLeDiff,Nat.reduceLT,Nat.reduceAdd,Nat.reduceBEq,f5]
   repeat ((with_reducible refine aI ?_ ?_);exact an1)
   refine rg zA ?_
   simp only [go_sem]
   refine ⟨_,(Option.some.inj H).symm,?_⟩
   refine Sq [(3,1)] ?_ ?_
   ·simp [CvL,Cv,yB]
   ·exact ⟨zJ xL cl (vO (f:=yG) v1_1 [(gd p0_0 v1_2.toNat).Number] (fun _ _ _ _=>rfl) (wS (f:=yG) [(gd p0_0 v1_2.toNat).Number] (fun _ _=>rfl) rfl)),trivial⟩
  ·try dsimp only at H ⊢
   try simp only [tp]
   try simp only [yS]
   refine sq zA ?_
   simp only [go_sem]
   refine rg zA ?_
   simp only [go_sem]
   obtain rfl:=Option.some.inj H
   refine yE [] [some 0] ?_ ?_ ?_ ?_ (by rfl) (by rfl)
   ·simp only [go_sem]
    try exact at0
   ·simp only [go_sem]
    try exact at0
   ·simp only [go_sem]
    exact (by first|(simp [Cv,yB];done)|(simp [Cv,CvL,yB,zN];omega))
   ·simp only [go_sem,CvH]
    exact zJ xL cl (fun _ _ _ _=>rfl)
 ·cases hb
def F33_0 (p0_1:Int) (p0_6:Int) (p0_7:Int):Option (List TRegulateWord) :=
 some [(TRegulateWord.mk 1 p0_1 p0_6 p0_7)]
def qU:List AV->List ABlk->ED
 | [v0],h=>(fun z0=>.ed [] (rM 10 (roD (zH h []) v0)/\iK .i64 (rG (roD (zH h []) v0) 1)/\iK .i64 (rG (roD (zH h []) v0) 6)/\iK .i64 (rG (roD (zH h []) v0) 7)/\xJ (zH h []) v0/\z0.isSome=true) (.sl 0 4 0 ((gt z0).length) false) [.row 43 4 ((gt z0).length) (enR zR (gt z0))]) (F33_0 (iA (rG (roD (zH h []) v0) 1)) (iA (rG (roD (zH h []) v0) 6)) (iA (rG (roD (zH h []) v0) 7)))
 | _,_=>.fail
theorem ok33_0:FnOk Tryz.prog 33 (edC qU):=by
 refine xO qU (rs:=[.tmp 2]) Tryz.func33 (by kernel_rfl) rfl rfl ?_
 intro l h bs ob q0 g0 hb hob
 unfold qU at hb
 dsimp only at hb
 split at hb
 ·rename_i v0
  injection hb with q1 q2 q3 q4;subst q1 q2 q3 q4
  obtain ⟨hk0_0,hk0_1,hk0_2,hk0_3,hk0_4,hob⟩:=hob
  obtain ⟨r,H⟩:=oE.1 hob
  rw [H,zN]
  have hw0:=(fN (cells:=[AV.top,AV.int .i64 (iA (rG (roD (zH h []) v0) 1)),AV.top,AV.top,AV.top,AV.top,AV.int .i64 (iA (rG (roD (zH h []) v0) 6)),AV.int .i64 (iA (rG (roD (zH h []) v0) 7)),AV.top,AV.top]) hk0_0 (fun y hy=>match y,hy with|0,_=>yD|1,_=>iK_wk hk0_1|2,_=>yD|3,_=>yD|4,_=>yD|5,_=>yD|6,_=>iK_wk hk0_2|7,_=>iK_wk hk0_3|8,_=>yD|9,_=>yD|y+10,hy=>absurd hy (by omega)))
  obtain ⟨p0_1,hp_p0_1⟩:∃ p0_1,p0_1=iA (rG (roD (zH h []) v0) 1):=⟨_,rfl⟩
  rw [← hp_p0_1] at H hw0
  obtain ⟨p0_6,hp_p0_6⟩:∃ p0_6,p0_6=iA (rG (roD (zH h []) v0) 6):=⟨_,rfl⟩
  rw [← hp_p0_6] at H hw0
  obtain ⟨p0_7,hp_p0_7⟩:∃ p0_7,p0_7=iA (rG (roD (zH h []) v0) 7):=⟨_,rfl⟩
  rw [← hp_p0_7] at H hw0
  refine ⟨[.rptr 10 1 0 0 (fun _ y=>getL [.top,.int .i64 p0_1,.top,.top,.top,.top,.int .i64 p0_6,.int .i64 p0_7,.top,.top] y)],[],rfl,⟨(yR hk0_4 hw0),trivial⟩,trivial,trivial,⟨(yY yL),trivial⟩,⟨zW,trivial⟩,(by first|(simp only [noro];done)|(simp only [noro,yK];and_intros<;>first|trivial|exact xX (by simp only [noro]) (by simp only [noro])|(simp only [noro,yK,and_self]))),?_⟩
  rw [Tryz.ntmps33]
  simp only [lC,lN,Nat.reduceAdd,Nat.reduceSub,rS,rZ,aC,aN]
  unfold F33_0 at H
  try dsimp only at H
  refine sq zA ?_
  simp only [go_sem]
  refine zC ?_
  refine xC zU zA 1 (by kernel_rfl) (by kernel_rfl) ?_
  intro an han
  simp only [vH,wI,tC,xrD,xoD,uY,vL,List.append_nil,xF,refs,mask,wN,place,xU,wO,xV,hit,inL,xH,ren,rnN,nrH,nrB,rZ,rS,Nat.sub_self,Nat.add_zero,Nat.zero_add,Nat.reduceSub,Nat.zero_le,Nat.lt_add_one,go_sem,Nat.reduceLeDiff,Nat.reduceLT,Nat.reduceAdd,Nat.reduceSub]
  repeat ((with_reducible refine aI ?_ ?_);exact an7)
  refine rg zA ?_
  simp only [go_sem]
  obtain rfl:=Option.some.inj H
  refine yE [] [some 0] ?_ ?_ ?_ ?_ (by rfl) (by rfl)
  ·simp only [go_sem]
   try exact at0
  ·simp only [go_sem]
   try exact at0
  ·simp only [go_sem]
   exact (by first|(simp [Cv,yB];done)|(simp [Cv,CvL,yB,zN];omega))
  ·simp only [go_sem,CvH]
   exact zJ yL cl (wS (f:=zR) [(TRegulateWord.mk 1 p0_1 p0_6 p0_7)] (fun _ _=>rfl) rfl)
 ·cases hb
def ct23_0t0:Ct:=tab [(49,edC qW)]
theorem ct23_0t0_ok:yP Tryz.prog ct23_0t0:=zE ok49_0 <| zO
theorem ct23_0t0_49 (l:List AV) (h:List ABlk):ct23_0t0 49 l h=edC qW l h:=rfl
def ct23_0t1:Ct:=tab [(50,edC eI)]
theorem ct23_0t1_ok:yP Tryz.prog ct23_0t1:=zE ok50_0 <| zO
theorem ct23_0t1_50 (l:List AV) (h:List ABlk):ct23_0t1 50 l h=edC eI l h:=rfl
def ct23_0t2:Ct:=tab [(33,edC qU)]
theorem ct23_0t2_ok:yP Tryz.prog ct23_0t2:=zE ok33_0 <| zO
theorem ct23_0t2_33 (l:List AV) (h:List ABlk):ct23_0t2 33 l h=edC qU l h:=rfl
def F23_0 (p0:TRegulate) (p1:Int) (p2:Int):Option ((List TRegulateWord) × TRegulate) :=
 (F49_0 (TRegulate.mk p0.Table p0.Channel p0.Lead p0.Heard p0.Stopped p0.Moving p0.To p0.At p0.Blocked p0.Clear) p2).bind fun r1=>bif (!r1.Lead) then (some ([(TRegulateWord.mk 2 r1.Channel 0 0)],(TRegulate.mk r1.Table r1.Channel r1.Lead r1.Heard r1.Stopped r1.Moving r1.To r1.At r1.Blocked r1.Clear))) else ((F50_0 r1.Table r1.Channel r1.Blocked r1.Clear p2).bind fun r4=>bif (bEq (r4.length:Nat) 0) then (some ([],(TRegulate.mk r1.Table r1.Channel r1.Lead r1.Heard r1.Stopped r1.Moving r1.To r1.At r1.Blocked r1.Clear))) else (need (!(bEq (r4.length:Nat) 0)) <| need (inb (p1.tmod (r4.length:Nat)) r4.length) <| (F33_0 r1.Channel (gd r4 ((p1.tmod (r4.length:Nat)).toNat)) (jI (wr .i64 (p2+150000)) 1099511627776)).bind fun r9=>some (r9,(TRegulate.mk r1.Table r1.Channel r1.Lead r1.Heard r1.Stopped true (gd r4 ((p1.tmod (r4.length:Nat)).toNat)) (jI (wr .i64 (p2+150000)) 1099511627776) r1.Blocked r1.Clear))))
def qR:List AV->List ABlk->ED
 | [v0,v1,v2],h=>(fun z1=>(fun z0=>.ed [ptB v0,slN (getL (yA h v0) 0),slN (getL (yA h v0) 8),slN (getL (yA h v0) 9)] (pK 30 10 h v0/\xA (getL (kK h (yA h v0)))/\oS 35 3 h (getL (yA h v0) 0)/\nref (getL (yA h v0) 1)/\nref (getL (yA h v0) 2)/\nref (getL (yA h v0) 3)/\nref (getL (yA h v0) 4)/\nref (getL (yA h v0) 5)/\nref (getL (yA h v0) 6)/\nref (getL (yA h v0) 7)/\oS 97 2 h (getL (yA h v0) 8)/\oS 3 1 h (getL (yA h v0) 9)/\iK .i64 (roD z1 v1)/\xJ z1 v1/\iK .i64 (roD z1 v2)/\xJ z1 v2/\z0.isSome=true) (.sl 7 4 0 (((gt z0).1).length) false) [.lit 30 [.sl 4 3 0 ((((gt z0).2).Table).length) false,.int .i64 (((gt z0).2).Channel),.bool (((gt z0).2).Lead),.int .i64 (((gt z0).2).Heard),.bool (((gt z0).2).Stopped),.bool (((gt z0).2).Moving),.int .i64 (((gt z0).2).To),.int .i64 (((gt z0).2).At),.sl 5 2 0 ((((gt z0).2).Blocked).length) false,.sl 6 1 0 ((((gt z0).2).Clear).length) false],.dead,.dead,.dead,.row 35 3 ((((gt z0).2).Table).length) (enR c_TRegulateChannel (((gt z0).2).Table)),.row 97 2 ((((gt z0).2).Blocked).length) (enR zB (((gt z0).2).Blocked)),.row 3 1 ((((gt z0).2).Clear).length) (enR yG (((gt z0).2).Clear)),.row 43 4 (((gt z0).1).length) (enR zR ((gt z0).1))]) (F23_0 (yJ (getL (kK h (yA h v0)))) (iA (roD z1 v1)) (iA (roD z1 v2)))) (zH h [ptB v0,slN (getL (yA h v0) 0),slN (getL (yA h v0) 8),slN (getL (yA h v0) 9)])
 | _,_=>.fail
theorem ok23_0:FnOk Tryz.prog 23 (edC qR):=by
 refine xO qR (rs:=[.tmp 6]) Tryz.func23 (by kernel_rfl) rfl rfl ?_
 intro l h bs ob q0 g0 hb hob
 unfold qR at hb
 dsimp only at hb
 split at hb
 ·rename_i v0 v1 v2
  injection hb with q1 q2 q3 q4;subst q1 q2 q3 q4
  obtain ⟨hk0_0,hk0_1,hk0_2,hk0_3,hk0_4,hk0_5,hk0_6,hk0_7,hk0_8,hk0_9,hk0_10,hk0_11,hk1_0,hk1_1,hk2_0,hk2_1,hob⟩:=hob
  obtain ⟨r,H⟩:=oE.1 hob
  rw [H,zN]
  obtain ⟨p0,hp0⟩:∃ p0,p0=yJ (getL (kK h (yA h v0))):=⟨_,rfl⟩
  rw [← hp0] at H
  have hw0:∀ y,y < 10->WkV (getL (zG p0) y) (roW h (getL (yA h v0) y))/\nref (getL (zG p0) y):=fun y hy=>by rw [hp0,← yQ];exact qO hk0_1 y hy
  have hk0_K:=hk0_1
  unfold xA at hk0_K
  obtain ⟨kk0_0,kk0_1,kk0_2,kk0_3,kk0_4,kk0_5,kk0_6,kk0_7,kk0_8,kk0_9⟩:=hk0_K
  obtain ⟨ev0_0,eb0_0⟩:=wT (f:=c_TRegulateChannel) (g:=g_TRegulateChannel) (bs:=[ptB v0,slN (getL (yA h v0) 0),slN (getL (yA h v0) 8),slN (getL (yA h v0) 9)]) (i:=1) (fun hr=>yH hr) hk0_2 (by rw [← yQ];exact kk0_0) (L:=p0.Table) (by rw [hp0,← yQ];rfl) rfl
  obtain ⟨ev0_8,eb0_8⟩:=wT (f:=zB) (g:=zF) (bs:=[ptB v0,slN (getL (yA h v0) 0),slN (getL (yA h v0) 8),slN (getL (yA h v0) 9)]) (i:=2) (fun hr=>xD hr) hk0_10 (by rw [← yQ];exact kk0_8) (L:=p0.Blocked) (by rw [hp0,← yQ];rfl) rfl
  obtain ⟨ev0_9,eb0_9⟩:=wT (f:=yG) (g:=xQ) (bs:=[ptB v0,slN (getL (yA h v0) 0),slN (getL (yA h v0) 8),slN (getL (yA h v0) 9)]) (i:=3) (fun hr=>jJ hr) hk0_11 (by rw [← yQ];exact kk0_9) (L:=p0.Clear) (by rw [hp0,← yQ];rfl) rfl
  have hw1:=iK_wk hk1_0
  obtain ⟨p1,hp_p1⟩:∃ p1,p1=iA (roD (zH h [ptB v0,slN (getL (yA h v0) 0),slN (getL (yA h v0) 8),slN (getL (yA h v0) 9)]) v1):=⟨_,rfl⟩
  rw [← hp_p1] at H hw1
  have hw2:=iK_wk hk2_0
  obtain ⟨p2,hp_p2⟩:∃ p2,p2=iA (roD (zH h [ptB v0,slN (getL (yA h v0) 0),slN (getL (yA h v0) 8),slN (getL (yA h v0) 9)]) v2):=⟨_,rfl⟩
  rw [← hp_p2] at H hw2
  refine ⟨[.ptr 0 0 0 0,.int .i64 p1,.int .i64 p2],[.lit 30 [.sl 1 3 0 p0.Table.length false,.int .i64 p0.Channel,.bool p0.Lead,.int .i64 p0.Heard,.bool p0.Stopped,.bool p0.Moving,.int .i64 p0.To,.int .i64 p0.At,.sl 2 2 0 p0.Blocked.length false,.sl 3 1 0 p0.Clear.length false],.row 35 3 p0.Table.length (enR c_TRegulateChannel p0.Table),.row 97 2 p0.Blocked.length (enR zB p0.Blocked),.row 3 1 p0.Clear.length (enR yG p0.Clear)],rfl,⟨(cM (EV_pK hk0_0 rfl) (by simp only [noro])),⟨(yR hk1_1 hw1),⟨(yR hk2_1 hw2),trivial⟩⟩⟩,⟨(EB_pK hk0_0 rfl rfl (fun y hy=>by
     match y,hy with
     | 0,_=>exact ev0_0
     | 1,_=>exact uQ hk0_3 (hw0 1 (by decide))
     | 2,_=>exact uQ hk0_4 (hw0 2 (by decide))
     | 3,_=>exact uQ hk0_5 (hw0 3 (by decide))
     | 4,_=>exact uQ hk0_6 (hw0 4 (by decide))
     | 5,_=>exact uQ hk0_7 (hw0 5 (by decide))
     | 6,_=>exact uQ hk0_8 (hw0 6 (by decide))
     | 7,_=>exact uQ hk0_9 (hw0 7 (by decide))
     | 8,_=>exact ev0_8
     | 9,_=>exact ev0_9
     | y+10,hy=>omega)),⟨eb0_0,⟨eb0_8,⟨eb0_9,trivial⟩⟩⟩⟩,⟨(by simp only [kP,yK,noro,and_self]),⟨zW,⟨zW,⟨zW,trivial⟩⟩⟩⟩,⟨trivial,⟨trivial,⟨trivial,⟨trivial,⟨(yY zI),⟨(yY zM),⟨(yY xL),⟨(yY yL),trivial⟩⟩⟩⟩⟩⟩⟩⟩,⟨(by simp only [kP,yK,noro,and_self]),⟨trivial,⟨trivial,⟨trivial,⟨zW,⟨zW,⟨zW,⟨zW,trivial⟩⟩⟩⟩⟩⟩⟩⟩,(by first|(simp only [noro];done)|(simp only [noro,yK];and_intros<;>first|trivial|exact xX (by simp only [noro]) (by simp only [noro])|(simp only [noro,yK,and_self]))),?_⟩
  rw [Tryz.ntmps23]
  simp only [lC,lN,Nat.reduceAdd,Nat.reduceSub,rS,rZ,aC,aN]
  unfold F23_0 at H
  try dsimp only at H
  refine sq zA ?_
  simp only [go_sem]
  refine zC ?_
  obtain ⟨r1,e2,H⟩:=bsi H
  refine rg ct23_0t0_ok ?_
  simp only [go_sem,Nat.reduceAdd,Nat.reduceBEq,ct23_0t0_49,qW,e2]
  repeat ((with_reducible refine aI ?_ ?_);exact an0)
  refine zC ?_
  refine sq zA ?_
  simp only [go_sem,Nat.reduceLeDiff,Nat.reduceLT,Nat.reduceAdd]
  repeat ((with_reducible refine aI ?_ ?_);exact an4)
  refine zX rfl trivial (fun hc=>?_) (fun hc=>?_)
  ·have hk3:(r1.Lead)=false:=by simpa using hc
   replace H:=zL hc H
   refine sq zA ?_
   simp only [go_sem,Nat.reduceLeDiff,Nat.reduceLT,Nat.reduceAdd]
   repeat ((with_reducible refine aI ?_ ?_);exact an4)
   refine rg zA ?_
   simp only [go_sem]
   obtain rfl:=Option.some.inj H
   refine yE [] [some 0,some 1,some 2,some 3,some 4,some 5,some 6,some 7] ?_ ?_ ?_ ?_ (by rfl) (by rfl)
   ·simp only [go_sem]
    try exact at0
   ·simp only [go_sem]
    try exact at0
   ·simp only [go_sem]
    exact (by first|(simp [Cv,yB];done)|(simp [Cv,CvL,yB,zN];omega))
   ·simp only [go_sem,CvH]
    first|exact ⟨(by simp [CvB,CvL,Cv,uD,geth,yB]),yI,yI,yI,zJ zI cl (fun _ _ _ _=>rfl),zJ zM cl (fun _ _ _ _=>rfl),zJ xL cl (fun _ _ _ _=>rfl),zJ yL cl (wS (f:=zR) [(TRegulateWord.mk 2 r1.Channel 0 0)] (fun _ _=>rfl) rfl)⟩|trivial
  have hk3:(r1.Lead)=true:=by simpa using hc
  replace H:=zK hc H
  refine rg zA ?_
  simp only [go_sem]
  refine zC ?_
  obtain ⟨r4,e5,H⟩:=bsi H
  refine rg ct23_0t1_ok ?_
  simp only [go_sem,Nat.reduceLT,Nat.reduceAdd,ct23_0t1_50,eI,e5]
  repeat ((with_reducible refine aI ?_ ?_);exact an0)
  refine zC ?_
  refine sq zA ?_
  simp only [go_sem]
  repeat ((with_reducible refine aI ?_ ?_);exact an0)
  refine zX rfl trivial (fun hc=>?_) (fun hc=>?_)
  ·have hk6:(bEq (r4.length:Nat) 0)=true:=by simpa using hc
   replace H:=zL hc H
   refine sq zA ?_
   simp only [go_sem]
   refine rg zA ?_
   simp only [go_sem]
   obtain rfl:=Option.some.inj H
   refine yE [] [some 0,some 1,some 2,some 3,some 4,some 5,some 6,none] ?_ ?_ ?_ ?_ (by rfl) (by rfl)
   ·simp only [go_sem]
    try exact at0
   ·simp only [go_sem]
    try exact at0
   ·simp only [go_sem]
    exact (by first|(simp [Cv];done)|(simp [Cv,CvL,yB,zN];omega))
   ·simp only [go_sem,CvH]
    first|exact ⟨(by simp [CvB,CvL,Cv,uD,geth,yB]),yI,yI,yI,zJ zI cl (fun _ _ _ _=>rfl),zJ zM cl (fun _ _ _ _=>rfl),zJ xL cl (fun _ _ _ _=>rfl),zQ⟩|trivial
  have hk6:(bEq (r4.length:Nat) 0)=false:=by simpa using hc
  replace H:=zK hc H
  refine rg zA ?_
  simp only [go_sem]
  refine zC ?_
  obtain ⟨f7,H⟩:=zP.1 H
  replace f7:=ne0_iff.1 f7
  obtain ⟨f8,H⟩:=nI H
  refine rg zA ?_
  simp only [go_sem,Nat.reduceLeDiff,Nat.reduceLT,Nat.reduceAdd,f7,f8]
  repeat ((with_reducible refine aI ?_ ?_);exact an0)
  refine zC ?_
  obtain ⟨r9,e10,H⟩:=bsi H
  refine rg ct23_0t2_ok ?_
  simp only [go_sem,Nat.reduceLT,Nat.reduceAdd,ct23_0t2_33,qU,e10]
  repeat ((with_reducible refine aI ?_ ?_);exact an0)
  refine rg zA ?_
  simp only [go_sem]
  obtain rfl:=Option.some.inj H
  refine yE [] [some 0,some 1,some 2,some 3,some 4,some 5,some 6,some 8] ?_ ?_ ?_ ?_ (by rfl) (by rfl)
  ·simp only [go_sem]
   try exact at0
  ·simp only [go_sem]
   try exact at0
  ·simp only [go_sem]
   exact (by first|(simp [Cv,yB];done)|(simp [Cv,CvL,yB,zN];omega))
  ·simp only [go_sem,CvH]
   first|exact ⟨(by simp [CvB,CvL,Cv,uD,geth,yB]),yI,yI,yI,zJ zI cl (fun _ _ _ _=>rfl),zJ zM cl (fun _ _ _ _=>rfl),zJ xL cl (fun _ _ _ _=>rfl),zJ yL cl (fun _ _ _ _=>rfl)⟩|trivial
 ·cases hb
def ct9t0:Ct:=tab [(22,edC qE)]
theorem ct9t0_ok:yP Tryz.prog ct9t0:=zE ok22 <| zO
theorem ct9t0_22 (l:List AV) (h:List ABlk):ct9t0 22 l h=edC qE l h:=rfl
def ct9t1:Ct:=tab [(23,edC qR)]
theorem ct9t1_ok:yP Tryz.prog ct9t1:=zE ok23_0 <| zO
theorem ct9t1_23 (l:List AV) (h:List ABlk):ct9t1 23 l h=edC qR l h:=rfl
def F9 (p0:TRegulate) (p1:Int) (p2:Int):Option (TRegulate × (List TRegulateWord) × Int) :=
 (F22 p0 p2 p1).bind fun r1=>bif r1.1.isSome then (bif (!bEq r1.2 0) then (some ((TRegulate.mk [] 0 false 0 false false 0 0 [] []),[],r1.2)) else (bif (gt r1.1).Stopped then (some ((TRegulate.mk [] 0 false 0 false false 0 0 [] []),[],20)) else ((F23_0 (TRegulate.mk ((gt r1.1).Table) ((gt r1.1).Channel) ((gt r1.1).Lead) ((gt r1.1).Heard) ((gt r1.1).Stopped) ((gt r1.1).Moving) ((gt r1.1).To) ((gt r1.1).At) ((gt r1.1).Blocked) ((gt r1.1).Clear)) p1 p2).bind fun r6=>some ((TRegulate.mk r6.2.Table r6.2.Channel r6.2.Lead r6.2.Heard r6.2.Stopped r6.2.Moving r6.2.To r6.2.At r6.2.Blocked r6.2.Clear),r6.1,0)))) else (bif (!bEq r1.2 0) then (some ((TRegulate.mk [] 0 false 0 false false 0 0 [] []),[],r1.2)) else (none))
def body9:List AV->List ABlk->ED
 | [v0,v1,v2],h=>(fun z0=>.ed [] (aK 10 xA (roD (zH h []) v0)/\xJ (zH h []) v0/\iK .i64 (roD (zH h []) v1)/\xJ (zH h []) v1/\iK .i64 (roD (zH h []) v2)/\xJ (zH h []) v2/\z0.isSome=true) (.tup [.agg [.sl 0 3 0 ((((gt z0).1).Table).length) false,.int .i64 (((gt z0).1).Channel),.bool (((gt z0).1).Lead),.int .i64 (((gt z0).1).Heard),.bool (((gt z0).1).Stopped),.bool (((gt z0).1).Moving),.int .i64 (((gt z0).1).To),.int .i64 (((gt z0).1).At),.sl 1 2 0 ((((gt z0).1).Blocked).length) false,.sl 2 1 0 ((((gt z0).1).Clear).length) false],.sl 3 4 0 (((gt z0).2.1).length) false,.int .i64 ((gt z0).2.2)]) [.row 35 3 ((((gt z0).1).Table).length) (enR c_TRegulateChannel (((gt z0).1).Table)),.row 97 2 ((((gt z0).1).Blocked).length) (enR zB (((gt z0).1).Blocked)),.row 3 1 ((((gt z0).1).Clear).length) (enR yG (((gt z0).1).Clear)),.row 43 4 (((gt z0).2.1).length) (enR zR ((gt z0).2.1))]) (F9 (yJ (aL (roD (zH h []) v0))) (iA (roD (zH h []) v1)) (iA (roD (zH h []) v2)))
 | _,_=>.fail
theorem ok9:FnOk Tryz.prog 9 (edC body9):=by
 refine xO body9 (rs:=[.cell 6 30,.tmp 7,.tmp 8]) Tryz.func9 (by kernel_rfl) rfl rfl ?_
 intro l h bs ob q0 g0 hb hob
 unfold body9 at hb
 dsimp only at hb
 split at hb
 ·rename_i v0 v1 v2
  injection hb with q1 q2 q3 q4;subst q1 q2 q3 q4
  obtain ⟨hk0_0,hk0_1,hk1_0,hk1_1,hk2_0,hk2_1,hob⟩:=hob
  obtain ⟨r,H⟩:=oE.1 hob
  rw [H,zN]
  have hw0:=tT hk0_0
  obtain ⟨p0,hp_p0⟩:∃ p0,p0=yJ (aL (roD (zH h []) v0)):=⟨_,rfl⟩
  rw [← hp_p0] at H hw0
  have hw1:=iK_wk hk1_0
  obtain ⟨p1,hp_p1⟩:∃ p1,p1=iA (roD (zH h []) v1):=⟨_,rfl⟩
  rw [← hp_p1] at H hw1
  have hw2:=iK_wk hk2_0
  obtain ⟨p2,hp_p2⟩:∃ p2,p2=iA (roD (zH h []) v2):=⟨_,rfl⟩
  rw [← hp_p2] at H hw2
  refine ⟨[.agg [.ro 3 p0.Table.length false (enR c_TRegulateChannel p0.Table),.int .i64 p0.Channel,.bool p0.Lead,.int .i64 p0.Heard,.bool p0.Stopped,.bool p0.Moving,.int .i64 p0.To,.int .i64 p0.At,.ro 2 p0.Blocked.length false (enR zB p0.Blocked),.ro 1 p0.Clear.length false (enR yG p0.Clear)],.int .i64 p1,.int .i64 p2],[],rfl,⟨(yR hk0_1 hw0),⟨(yR hk1_1 hw1),⟨(yR hk2_1 hw2),trivial⟩⟩⟩,trivial,trivial,⟨(yY zI),⟨(yY zM),⟨(yY xL),⟨(yY yL),trivial⟩⟩⟩⟩,⟨zW,⟨zW,⟨zW,⟨zW,trivial⟩⟩⟩⟩,(by first|(simp only [noro,yK,and_self];done)|(simp only [noro,yK];and_intros<;>first|trivial|exact xX (by simp only [noro]) (by simp only [noro])|(simp only [noro,yK,and_self]))),?_⟩
  rw [Tryz.ntmps9]
  simp only [lC,lN,Nat.reduceAdd,Nat.reduceSub,rS,rZ,aC,aN]
  unfold F9 at H
  try dsimp only at H
  refine sq zA ?_
  simp only [go_sem]
  refine zC ?_
  obtain ⟨r1,e2,H⟩:=bsi H
  refine rg ct9t0_ok ?_
  simp only [go_sem,Nat.reduceLT,Nat.reduceAdd,ct9t0_22,qE,e2]
  repeat ((with_reducible refine aI ?_ ?_);exact an0)
  refine wG (c:=r1.1.isSome) (fun hq3=>?_) (fun hq3=>?_)
  ·replace H:=zL hq3 H
   simp only [go_sem,Nat.reduceAdd,hq3,cond_true,rnm,dH,rnmC_en,fC]
   refine zC ?_
   refine sq zA ?_
   simp only [go_sem]
   refine zX rfl trivial (fun hc=>?_) (fun hc=>?_)
   ·have hk4:(bEq r1.2 0)=false:=by simpa using hc
    replace H:=zL hc H
    refine sq zA ?_
    simp only [go_sem,Nat.reduceLT,Nat.reduceAdd]
    repeat ((with_reducible refine aI ?_ ?_);exact an4)
    refine rg zA ?_
    simp only [go_sem,Nat.reduceLT,Nat.reduceAdd]
    obtain rfl:=Option.some.inj H
    refine yE [] [none,none,none,none] ?_ ?_ ?_ ?_ (by rfl) (by rfl)
    ·simp only [go_sem]
     try exact at0
    ·simp only [go_sem]
     try exact at0
    ·simp only [go_sem]
     exact cT
    ·simp only [go_sem,CvH]
     first|exact ⟨zQ,zQ,zQ,zQ⟩|trivial
   have hk4:(bEq r1.2 0)=true:=by simpa using hc
   replace H:=zK hc H
   refine rg zA ?_
   simp only [go_sem]
   refine zC ?_
   refine sq zA ?_
   simp only [go_sem,Nat.reduceLeDiff,Nat.reduceLT,Nat.reduceAdd]
   repeat ((with_reducible refine aI ?_ ?_);exact an4)
   refine zX rfl trivial (fun hc=>?_) (fun hc=>?_)
   ·have hk5:((gt r1.1).Stopped)=true:=by simpa using hc
    replace H:=zL hc H
    refine sq zA ?_
    simp only [go_sem,Nat.reduceLT,Nat.reduceAdd]
    repeat ((with_reducible refine aI ?_ ?_);exact an4)
    refine rg zA ?_
    simp only [go_sem,Nat.reduceLT,Nat.reduceAdd]
    obtain rfl:=Option.some.inj H
    refine yE [] [none,none,none,none] ?_ ?_ ?_ ?_ (by rfl) (by rfl)
    ·simp only [go_sem]
     try exact at0
    ·simp only [go_sem]
     try exact at0
    ·simp only [go_sem]
     exact cT
    ·simp only [go_sem,CvH]
     first|exact ⟨zQ,zQ,zQ,zQ⟩|trivial
   have hk5:((gt r1.1).Stopped)=false:=by simpa using hc
   replace H:=zK hc H
   refine rg zA ?_
   simp only [go_sem]
   refine zC ?_
   obtain ⟨r6,e7,H⟩:=bsi H
   refine rg ct9t1_ok ?_
   simp only [go_sem,Nat.reduceAdd,Nat.reduceBEq,ct9t1_23,qR,e7]
   repeat ((with_reducible refine aI ?_ ?_);exact an0)
   refine sq zA ?_
   simp only [go_sem,Nat.reduceLT,Nat.reduceAdd]
   repeat ((with_reducible refine aI ?_ ?_);exact an4)
   refine rg zA ?_
   simp only [go_sem,Nat.reduceLT,Nat.reduceAdd]
   obtain rfl:=Option.some.inj H
   refine yE [] [some 6,some 7,some 8,some 9] ?_ ?_ ?_ ?_ (by rfl) (by rfl)
   ·simp only [go_sem]
    try exact at0
   ·simp only [go_sem]
    try exact at0
   ·simp only [go_sem]
    exact cT
   ·simp only [go_sem,CvH]
    first|exact ⟨zJ zI cl (fun _ _ _ _=>rfl),zJ zM cl (fun _ _ _ _=>rfl),zJ xL cl (fun _ _ _ _=>rfl),zJ yL cl (fun _ _ _ _=>rfl)⟩|trivial
  replace H:=zK hq3 H
  simp only [go_sem,hq3,cond_false]
  refine zC ?_
  refine sq zA ?_
  simp only [go_sem]
  refine condM' rfl trivial (fun hc=>?_) (fun hc=>?_)
  ·have hk8:(bEq r1.2 0)=true:=by simpa using hc
   replace H:=zK hc H
   refine rg zA ?_
   simp only [go_sem]
   refine zC ?_
   refine zC ?_
   cases H
  have hk8:(bEq r1.2 0)=false:=by simpa using hc
  replace H:=zL hc H
  refine sq zA ?_
  simp only [go_sem,Nat.reduceLT,Nat.reduceAdd]
  repeat ((with_reducible refine aI ?_ ?_);exact an4)
  refine rg zA ?_
  simp only [go_sem,Nat.reduceLT,Nat.reduceAdd]
  obtain rfl:=Option.some.inj H
  refine yE [] [none,none,none,none] ?_ ?_ ?_ ?_ (by rfl) (by rfl)
  ·simp only [go_sem]
   try exact at0
  ·simp only [go_sem]
   try exact at0
  ·simp only [go_sem]
   exact cT
  ·simp only [go_sem,CvH]
   first|exact ⟨zQ,zQ,zQ,zQ⟩|trivial
 ·cases hb
def F11:Option (A6u8) :=
 some (A6u8.mk 2 0 0 0 0 1)
def jL:List AV->AR
 | []=>.pure ((F11).isSome=true) (.agg [.int .u8 ((gt F11).x0),.int .u8 ((gt F11).x1),.int .u8 ((gt F11).x2),.int .u8 ((gt F11).x3),.int .u8 ((gt F11).x4),.int .u8 ((gt F11).x5)])
 | _=>.fail
theorem ok11:FnOk Tryz.prog 11 (pureC jL):=by
 refine yM jL (rs:=[.cell 0 45]) Tryz.func11 (by kernel_rfl) rfl rfl ?_
 intro l ob v hb hob
 unfold jL at hb
 split at hb
 ·injection hb with q1 q2;subst q1 q2
  obtain ⟨r,H⟩:=oE.1 hob
  rw [H,zN]
  refine ⟨[],_,(fun E vs F=>F),rfl,rfl,?_⟩
  rw [Tryz.ntmps11]
  simp only [lN,Nat.reduceSub,rS,rZ,aN]
  unfold F11 at H
  try dsimp only at H
  refine sq zA ?_
  simp only [go_sem]
  refine sq zA ?_
  simp only [go_sem,Nat.reduceLeDiff,Nat.reduceAdd]
  repeat ((with_reducible refine aI ?_ ?_);exact an4)
  refine rg zA ?_
  simp only [go_sem,Nat.reduceLT,Nat.reduceAdd]
  obtain rfl:=Option.some.inj H
  exact fB
 ·cases hb
def F63 (p0:Int) (p1:Int) (p2:Int):Option (Bool) :=
 some ((bLe p1 p0) && (bLe p0 p2))
def cQ:List AV->AR
 | [v0,v1,v2]=>.pure (iK .i64 v0/\iK .i64 v1/\iK .i64 v2/\(F63 (iA v0) (iA v1) (iA v2)).isSome=true) (.bool (gt (F63 (iA v0) (iA v1) (iA v2))))
 | _=>.fail
theorem ok63:FnOk Tryz.prog 63 (pureC cQ):=by
 refine yM cQ (rs:=[.tmp 6]) Tryz.func63 (by kernel_rfl) rfl rfl ?_
 intro l ob v hb hob
 unfold cQ at hb
 split at hb
 ·rename_i v0 v1 v2
  injection hb with q1 q2;subst q1 q2
  obtain ⟨hk0_0,hk1_0,hk2_0,hob⟩:=hob
  obtain ⟨r,H⟩:=oE.1 hob
  rw [H,zN]
  have hw0:=iK_wk hk0_0
  have hw1:=iK_wk hk1_0
  have hw2:=iK_wk hk2_0
  generalize iA v0=p0 at H hw0
  generalize iA v1=p1 at H hw1
  generalize iA v2=p2 at H hw2
  refine ⟨[.int .i64 p0,.int .i64 p1,.int .i64 p2],_,(fun E vs F=>yC hw0.1 F (fun vs F=>yC hw1.1 F (fun vs F=>yC hw2.1 F (fun vs F=>F)))),rfl,rfl,?_⟩
  rw [Tryz.ntmps63]
  simp only [lC,lN,Nat.reduceAdd,Nat.reduceSub,rS,rZ,aC,aN]
  unfold F63 at H
  try dsimp only at H
  refine sq zA ?_
  simp only [go_sem]
  refine sq zA ?_
  simp only [go_sem]
  repeat ((with_reducible refine aI ?_ ?_);exact an4)
  refine rg zA ?_
  simp only [go_sem]
  obtain rfl:=Option.some.inj H
  exact fB
 ·cases hb
def ct29t0:Ct:=tab [(63,pureC cQ)]
theorem ct29t0_ok:yP Tryz.prog ct29t0:=zE ok63 <| zO
theorem ct29t0_63 (l:List AV) (h:List ABlk):ct29t0 63 l h=pureC cQ l h:=rfl
def F29 (p0:TRegulateWord):Option (Bool) :=
 bif (bEq p0.Kind 1) then ((F63 p0.Channel 1 255).bind fun r2=>need (bif r2 then ((F63 p0.To 1 255).isSome) else true) <| need (bif (r2 && (gt (F63 p0.To 1 255))) then ((F63 p0.At 0 1099511627776).isSome) else true) <| some ((r2 && (gt (F63 p0.To 1 255))) && (gt (F63 p0.At 0 1099511627776)))) else (bif (bEq p0.Kind 2) then ((F63 p0.Channel 1 255).bind fun r7=>need (bif r7 then ((F63 p0.To 0 0).isSome) else true) <| need (bif (r7 && (gt (F63 p0.To 0 0))) then ((F63 p0.At 0 0).isSome) else true) <| some ((r7 && (gt (F63 p0.To 0 0))) && (gt (F63 p0.At 0 0)))) else (bif (bEq p0.Kind 3) then ((F63 p0.Channel 1 255).bind fun r12=>need (bif r12 then ((F63 p0.To 0 0).isSome) else true) <| need (bif (r12 && (gt (F63 p0.To 0 0))) then ((F63 p0.At 0 1099511627776).isSome) else true) <| some ((r12 && (gt (F63 p0.To 0 0))) && (gt (F63 p0.At 0 1099511627776)))) else (some false)))
def kR:List AV->AR
 | [v0]=>.pure (aK 4 yV v0/\(F29 (zY (aL v0))).isSome=true) (.bool (gt (F29 (zY (aL v0)))))
 | _=>.fail
theorem ok29:FnOk Tryz.prog 29 (pureC kR):=by
 refine yM kR (rs:=[.tmp 2]) Tryz.func29 (by kernel_rfl) rfl rfl ?_
 intro l ob v hb hob
 unfold kR at hb
 split at hb
 ·rename_i v0
  injection hb with q1 q2;subst q1 q2
  obtain ⟨hk0_0,hob⟩:=hob
  obtain ⟨r,H⟩:=oE.1 hob
  rw [H,zN]
  have hw0:=xY hk0_0
  generalize zY (aL v0)=p0 at H hw0
  refine ⟨[.agg [.int .u8 p0.Kind,.int .i64 p0.Channel,.int .i64 p0.To,.int .i64 p0.At]],_,(fun E vs F=>yC hw0.1 F (fun vs F=>F)),rfl,rfl,?_⟩
  rw [Tryz.ntmps29]
  simp only [lC,lN,Nat.reduceAdd,Nat.reduceSub,rS,rZ,aC,aN]
  unfold F29 at H
  try dsimp only at H
  refine sq zA ?_
  simp only [go_sem]
  refine sq zA ?_
  simp only [go_sem]
  refine sq zA ?_
  simp only [go_sem]
  refine zC ?_
  refine sq zA ?_
  simp only [go_sem,Nat.reduceLeDiff,Nat.reduceLT,Nat.reduceAdd]
  repeat ((with_reducible refine aI ?_ ?_);exact an4)
  refine xN ?_
  refine sq zA ?_
  simp only [go_sem]
  refine zX rfl trivial (fun hc=>?_) (fun hc=>?_)
  ·have hk1:(bEq p0.Kind 1)=true:=by simpa using hc
   replace H:=zL hc H
   refine rg zA ?_
   simp only [go_sem]
   refine zC ?_
   obtain ⟨r2,e3,H⟩:=bsi H
   obtain ⟨f4,H⟩:=zP.1 H
   replace f4:=xR.1 f4
   obtain ⟨f5,H⟩:=zP.1 H
   replace f5:=xR.1 f5
   refine rg ct29t0_ok ?_
   simp only [go_sem,Nat.reduceLeDiff,Nat.reduceLT,Nat.reduceAdd,ct29t0_63,cQ,e3]
   repeat ((with_reducible refine And.intro ?_ ?_);focus exact bn0 f4 f5)
   refine rg zA ?_
   simp only [go_sem]
   obtain rfl:=Option.some.inj H
   exact fB
  have hk1:(bEq p0.Kind 1)=false:=by simpa using hc
  replace H:=zK hc H
  refine sq zA ?_
  simp only [go_sem]
  refine zX rfl trivial (fun hc=>?_) (fun hc=>?_)
  ·have hk6:(bEq p0.Kind 2)=true:=by simpa using hc
   replace H:=zL hc H
   refine rg zA ?_
   simp only [go_sem]
   refine zC ?_
   obtain ⟨r7,e8,H⟩:=bsi H
   obtain ⟨f9,H⟩:=zP.1 H
   replace f9:=xR.1 f9
   obtain ⟨f10,H⟩:=zP.1 H
   replace f10:=xR.1 f10
   refine rg ct29t0_ok ?_
   simp only [go_sem,Nat.reduceLeDiff,Nat.reduceLT,Nat.reduceAdd,ct29t0_63,cQ,e8]
   repeat ((with_reducible refine And.intro ?_ ?_);focus exact bn0 f9 f10)
   refine rg zA ?_
   simp only [go_sem]
   obtain rfl:=Option.some.inj H
   exact fB
  have hk6:(bEq p0.Kind 2)=false:=by simpa using hc
  replace H:=zK hc H
  refine sq zA ?_
  simp only [go_sem]
  refine condM' rfl trivial (fun hc=>?_) (fun hc=>?_)
  ·have hk11:(bEq p0.Kind 3)=false:=by simpa using hc
   replace H:=zK hc H
   refine sq zA ?_
   simp only [go_sem]
   refine rg zA ?_
   simp only [go_sem]
   obtain rfl:=Option.some.inj H
   exact fB
  have hk11:(bEq p0.Kind 3)=true:=by simpa using hc
  replace H:=zL hc H
  refine rg zA ?_
  simp only [go_sem]
  refine zC ?_
  obtain ⟨r12,e13,H⟩:=bsi H
  obtain ⟨f14,H⟩:=zP.1 H
  replace f14:=xR.1 f14
  obtain ⟨f15,H⟩:=zP.1 H
  replace f15:=xR.1 f15
  refine rg ct29t0_ok ?_
  simp only [go_sem,Nat.reduceLeDiff,Nat.reduceLT,Nat.reduceAdd,ct29t0_63,cQ,e13]
  repeat ((with_reducible refine And.intro ?_ ?_);focus exact bn0 f14 f15)
  refine rg zA ?_
  simp only [go_sem]
  obtain rfl:=Option.some.inj H
  exact fB
 ·cases hb
def F73_L1 (p1:Int) (p2:Int) (v1_1:List Int) (v1_2:Int):Option (Lp ((List Int) × Int) ((List Int) ⊕ (List Int))) :=
 bif (bLt v1_2 p2) then (need (bLe 0 (wr .i64 (8 * v1_2))) <| need (capb 1 (v1_1.length+1)) <| some (.next ((v1_1 ++ [wr .u8 (wW .u64 p1 (wr .i64 (8 * v1_2)))]),wr .i64 (v1_2+1)))) else (some (.done (.inl v1_1)))
def F73 (p0:List Int) (p1:Int) (p2:Int):Option (List Int) :=
 need (mkb 1 (p0.length:Nat) (wr .i64 ((p0.length:Nat)+p2))) <| (some (List.replicate p0.length (0:Int))).bind fun w2=>need (decide (p0.length <= w2.length)) <| (some (ovwL w2 0 p0)).bind fun w5=>lp (yF (fun s=>F73_L1 p1 p2 s.1 s.2) ((List.take w2.length w5),0)) (fun w1_3=>some w1_3) some
def body73:List AV->List ABlk->ED
 | [v0,v1,v2],h=>(fun z0=>.ed [] (lK k_u8 1 (roD (zH h []) v0)/\xJ (zH h []) v0/\iK .u64 (roD (zH h []) v1)/\xJ (zH h []) v1/\iK .i64 (roD (zH h []) v2)/\xJ (zH h []) v2/\z0.isSome=true) (.sl 0 1 0 ((gt z0).length) false) [.row 5 1 ((gt z0).length) (enR c_u8 (gt z0))]) (F73 (lA g_u8 (roD (zH h []) v0)) (iA (roD (zH h []) v1)) (iA (roD (zH h []) v2)))
 | _,_=>.fail
theorem ok73:FnOk Tryz.prog 73 (edC body73):=by
 refine xO body73 (rs:=[.tmp 6]) Tryz.func73 (by kernel_rfl) rfl rfl ?_
 intro l h bs ob q0 g0 hb hob
 unfold body73 at hb
 dsimp only at hb
 split at hb
 ·rename_i v0 v1 v2
  injection hb with q1 q2 q3 q4;subst q1 q2 q3 q4
  obtain ⟨hk0_0,hk0_1,hk1_0,hk1_1,hk2_0,hk2_1,hob⟩:=hob
  obtain ⟨r,H⟩:=oE.1 hob
  rw [H,zN]
  have hw0:=lK_wk (fun r h=>w_u8 h) hk0_0
  obtain ⟨p0,hp_p0⟩:∃ p0,p0=lA g_u8 (roD (zH h []) v0):=⟨_,rfl⟩
  rw [← hp_p0] at H hw0
  have hw1:=iK_wk hk1_0
  obtain ⟨p1,hp_p1⟩:∃ p1,p1=iA (roD (zH h []) v1):=⟨_,rfl⟩
  rw [← hp_p1] at H hw1
  have hw2:=iK_wk hk2_0
  obtain ⟨p2,hp_p2⟩:∃ p2,p2=iA (roD (zH h []) v2):=⟨_,rfl⟩
  rw [← hp_p2] at H hw2
  refine ⟨[.ro 1 p0.length false (enR c_u8 p0),.int .u64 p1,.int .i64 p2],[],rfl,⟨(yR hk0_1 hw0),⟨(yR hk1_1 hw1),⟨(yR hk2_1 hw2),trivial⟩⟩⟩,trivial,trivial,⟨(yY vC),trivial⟩,⟨zW,trivial⟩,(by first|(simp only [noro];done)|(simp only [noro,yK];and_intros<;>first|trivial|exact xX (by simp only [noro]) (by simp only [noro])|(simp only [noro,yK,and_self]))),?_⟩
  rw [Tryz.ntmps73]
  simp only [lC,lN,Nat.reduceAdd,Nat.reduceSub,rS,rZ,aC,aN]
  unfold F73 at H
  try dsimp only at H
  refine sq zA ?_
  simp only [go_sem]
  refine zC ?_
  obtain ⟨f1,H⟩:=nM H
  refine rg zA ?_
  simp only [go_sem,f1]
  repeat ((with_reducible refine aI ?_ ?_);exact an2)
  refine zC ?_
  obtain ⟨w2,hw3,H⟩:=bsj H
  have lhw3:w2.length=p0.length:=by rw [← hw3];exact (by simp)
  refine tR (t2:=(.ro 1 p0.length false (enR c_u8 p0)::.int .u64 p1::.int .i64 p2::tp 4 (.sl 0 1 0 w2.length false::tp 25 []))) (h2:=[.row 5 1 w2.length (enR c_u8 w2)]) ?_ ?_
  ·refine Sq [(0,1)] ?_ ?_
   ·simp [CvL,Cv,yB,tp,lhw3]
   ·exact ⟨zJ vC lhw3 (hw3 ▸ (rep_row (f:=c_u8) p0.length 0 rfl)),trivial⟩
  simp only [tp]
  obtain ⟨f4,H⟩:=zP.1 H
  replace f4:=decide_eq_true_iff.1 f4
  refine rg zA ?_
  simp only [go_sem]
  repeat ((with_reducible refine aI ?_ ?_);exact an0)
  refine zC ?_
  refine zC ?_
  obtain ⟨w5,hw6,H⟩:=bsj H
  have lhw6:w5.length=max w2.length (min p0.length w2.length):=by rw [← hw6];exact ((ovw_len cl (show p0.length=min p0.length w2.length by rw [show p0.length=p0.length from rfl];omega) (by omega)).trans (by rw [Nat.zero_add]))
  refine tR (t2:=(.top::.int .u64 p1::.int .i64 p2::tp 4 (.sl 0 1 0 w2.length false::tp 25 []))) (h2:=[.row 5 1 w5.length (enR c_u8 w5)]) ?_ ?_
  ·refine Sq [(0,1)] ?_ ?_
   ·simp [CvL,Cv,yB,tp]
   ·exact ⟨zJ vC lhw6 (hw6 ▸ (ovw_row cl (show p0.length=min p0.length w2.length by rw [show p0.length=p0.length from rfl];omega) (by omega) (fun _ _ _ _=>rfl) (fun _ _ _ _=>rfl))),trivial⟩
  simp only [tp]
  refine rg zA ?_
  simp only [go_sem]
  refine xN ?_
  refine xP (fun s:(List Int) × Int=>(.top::.int .u64 p1::tp 5 (.sl 1 1 0 s.1.length false::tp 11 (.int .i64 p2::.int .i64 s.2::tp 12 [])))) (fun s=>[.dead,.row 5 1 s.1.length (enR c_u8 s.1)]) (fun e:List Int=>(tp 7 (.sl 1 1 0 e.length false::tp 25 []))) (fun e=>[.dead,.row 5 1 e.length (enR c_u8 e)]) H ?_ (fun s o H hn1_1 hn2_1=>?_) (fun w1_3 H=>?_)
  ·refine Sq [(0,1),(0,1)] ?_ ?_
   ·simp [CvL,Cv,yB,tp,(show (List.take w2.length w5).length=w2.length from by have:w5.length=w5.length:=cl;rw [List.length_take];omega)]
   ·exact ⟨yI,(CvB_pre vC (by have:w5.length=w5.length:=cl;rw [List.length_take];omega) (preT_row (L:=w5) (n:=w2.length) (fun _ _ _ _=>rfl))),trivial⟩
  ·obtain ⟨v1_1,v1_2⟩:=s
   unfold F73_L1 at H
   try dsimp only at H ⊢
   try simp only [tp]
   refine sq zA ?_
   simp only [go_sem]
   refine zC ?_
   refine condM' rfl trivial (fun hc=>?_) (fun hc=>?_)
   ·have hk7:(bLt v1_2 p2)=false:=by simpa using hc
    replace H:=zK hc H
    refine rg zA ?_
    simp only [go_sem]
    refine ⟨_,(Option.some.inj H).symm,?_⟩
    refine Sq [(0,2)] ?_ ?_
    ·simp [CvL,Cv,yB]
    ·exact dQ
   have hk7:(bLt v1_2 p2)=true:=by simpa using hc
   replace H:=zL hc H
   refine rg zA ?_
   simp only [go_sem]
   refine zC ?_
   refine xN ?_
   refine sq zA ?_
   simp only [go_sem]
   obtain ⟨f8,H⟩:=zP.1 H
   replace f8:=bLe_iff.1 f8
   obtain ⟨f9,H⟩:=nC H
   refine rg zA ?_
   simp only [go_sem,Nat.reduceLeDiff,Nat.reduceAdd,Nat.reduceBEq,f8,f9]
   repeat ((with_reducible refine aI ?_ ?_);exact an1)
   refine rg zA ?_
   simp only [go_sem]
   refine ⟨_,(Option.some.inj H).symm,?_⟩
   refine Sq [(0,1),(3,1)] ?_ ?_
   ·simp [CvL,Cv,yB]
   ·exact ⟨yI,zJ vC cl (vO (f:=c_u8) v1_1 [wr .u8 (wW .u64 p1 (wr .i64 (8 * v1_2)))] (fun _ _ _ _=>rfl) (wS (f:=c_u8) [wr .u8 (wW .u64 p1 (wr .i64 (8 * v1_2)))] (fun _ _=>rfl) rfl)),trivial⟩
  ·try dsimp only at H ⊢
   try simp only [tp]
   try simp only [yS]
   refine sq zA ?_
   simp only [go_sem]
   refine rg zA ?_
   simp only [go_sem]
   obtain rfl:=Option.some.inj H
   refine yE [] [some 1] ?_ ?_ ?_ ?_ (by rfl) (by rfl)
   ·simp only [go_sem]
    try exact at0
   ·simp only [go_sem]
    try exact at0
   ·simp only [go_sem]
    exact (by first|(simp [Cv,yB];done)|(simp [Cv,CvL,yB,zN];omega))
   ·simp only [go_sem,CvH]
    exact zJ vC cl (fun _ _ _ _=>rfl)
 ·cases hb
def ct40t0:Ct:=tab [(73,edC body73)]
theorem ct40t0_ok:yP Tryz.prog ct40t0:=zE ok73 <| zO
theorem ct40t0_73 (l:List AV) (h:List ABlk):ct40t0 73 l h=edC body73 l h:=rfl
def F40 (p0:List Int) (p1:Int):Option (List Int) :=
 (F73 p0 p1 8).bind fun r1=>some r1
def body40:List AV->List ABlk->ED
 | [v0,v1],h=>(fun z0=>.ed [] (lK k_u8 1 (roD (zH h []) v0)/\xJ (zH h []) v0/\iK .u64 (roD (zH h []) v1)/\xJ (zH h []) v1/\z0.isSome=true) (.sl 0 1 0 ((gt z0).length) false) [.row 5 1 ((gt z0).length) (enR c_u8 (gt z0))]) (F40 (lA g_u8 (roD (zH h []) v0)) (iA (roD (zH h []) v1)))
 | _,_=>.fail
theorem ok40:FnOk Tryz.prog 40 (edC body40):=by
 refine xO body40 (rs:=[.tmp 4]) Tryz.func40 (by kernel_rfl) rfl rfl ?_
 intro l h bs ob q0 g0 hb hob
 unfold body40 at hb
 dsimp only at hb
 split at hb
 ·rename_i v0 v1
  injection hb with q1 q2 q3 q4;subst q1 q2 q3 q4
  obtain ⟨hk0_0,hk0_1,hk1_0,hk1_1,hob⟩:=hob
  obtain ⟨r,H⟩:=oE.1 hob
  rw [H,zN]
  have hw0:=lK_wk (fun r h=>w_u8 h) hk0_0
  obtain ⟨p0,hp_p0⟩:∃ p0,p0=lA g_u8 (roD (zH h []) v0):=⟨_,rfl⟩
  rw [← hp_p0] at H hw0
  have hw1:=iK_wk hk1_0
  obtain ⟨p1,hp_p1⟩:∃ p1,p1=iA (roD (zH h []) v1):=⟨_,rfl⟩
  rw [← hp_p1] at H hw1
  refine ⟨[.ro 1 p0.length false (enR c_u8 p0),.int .u64 p1],[],rfl,⟨(yR hk0_1 hw0),⟨(yR hk1_1 hw1),trivial⟩⟩,trivial,trivial,⟨(yY vC),trivial⟩,⟨zW,trivial⟩,(by first|(simp only [noro];done)|(simp only [noro,yK];and_intros<;>first|trivial|exact xX (by simp only [noro]) (by simp only [noro])|(simp only [noro,yK,and_self]))),?_⟩
  rw [Tryz.ntmps40]
  simp only [lC,lN,Nat.reduceAdd,Nat.reduceSub,rS,rZ,aC,aN]
  unfold F40 at H
  try dsimp only at H
  refine sq zA ?_
  simp only [go_sem]
  refine zC ?_
  obtain ⟨r1,e2,H⟩:=bsi H
  refine rg ct40t0_ok ?_
  simp only [go_sem,ct40t0_73,body73,e2]
  repeat ((with_reducible refine aI ?_ ?_);exact an0)
  refine rg zA ?_
  simp only [go_sem]
  obtain rfl:=Option.some.inj H
  refine yE [] [some 0] ?_ ?_ ?_ ?_ (by rfl) (by rfl)
  ·simp only [go_sem]
   try exact at0
  ·simp only [go_sem]
   try exact at0
  ·simp only [go_sem]
   exact (by first|(simp [Cv,yB];done)|(simp [Cv,CvL,yB,zN];omega))
  ·simp only [go_sem,CvH]
   exact zJ vC cl (fun _ _ _ _=>rfl)
 ·cases hb
def ct19t0:Ct:=tab [(29,pureC kR)]
theorem ct19t0_ok:yP Tryz.prog ct19t0:=zE ok29 <| zO
theorem ct19t0_29 (l:List AV) (h:List ABlk):ct19t0 29 l h=pureC kR l h:=rfl
def ct19t1:Ct:=tab [(40,edC body40)]
theorem ct19t1_ok:yP Tryz.prog ct19t1:=zE ok40 <| zO
theorem ct19t1_40 (l:List AV) (h:List ABlk):ct19t1 40 l h=edC body40 l h:=rfl
def F19 (p0:TRegulateWord):Option ((List Int) × Int) :=
 (F29 p0).bind fun r1=>bif (!r1) then none else ((F40 [p0.Kind,wr .u8 p0.Channel,wr .u8 p0.To] (wr .u64 p0.At)).bind fun r3=>some (r3,0))
def body19:List AV->List ABlk->ED
 | [v0],h=>(fun z0=>.ed [] (aK 4 yV (roD (zH h []) v0)/\xJ (zH h []) v0/\z0.isSome=true) (.tup [.sl 0 1 0 (((gt z0).1).length) false,.int .i64 ((gt z0).2)]) [.row 5 1 (((gt z0).1).length) (enR c_u8 ((gt z0).1))]) (F19 (zY (aL (roD (zH h []) v0))))
 | _,_=>.fail
theorem ok19:FnOk Tryz.prog 19 (edC body19):=by
 refine xO body19 (rs:=[.tmp 2,.tmp 3]) Tryz.func19 (by kernel_rfl) rfl rfl ?_
 intro l h bs ob q0 g0 hb hob
 unfold body19 at hb
 dsimp only at hb
 split at hb
 ·rename_i v0
  injection hb with q1 q2 q3 q4;subst q1 q2 q3 q4
  obtain ⟨hk0_0,hk0_1,hob⟩:=hob
  obtain ⟨r,H⟩:=oE.1 hob
  rw [H,zN]
  have hw0:=xY hk0_0
  obtain ⟨p0,hp_p0⟩:∃ p0,p0=zY (aL (roD (zH h []) v0)):=⟨_,rfl⟩
  rw [← hp_p0] at H hw0
  refine ⟨[.agg [.int .u8 p0.Kind,.int .i64 p0.Channel,.int .i64 p0.To,.int .i64 p0.At]],[],rfl,⟨(yR hk0_1 hw0),trivial⟩,trivial,trivial,⟨(yY vC),trivial⟩,⟨zW,trivial⟩,(by first|(simp only [noro,yK,and_self];done)|(simp only [noro,yK];and_intros<;>first|trivial|exact xX (by simp only [noro]) (by simp only [noro])|(simp only [noro,yK,and_self]))),?_⟩
  rw [Tryz.ntmps19]
  simp only [lC,lN,Nat.reduceAdd,Nat.reduceSub,rS,rZ,aC,aN]
  unfold F19 at H
  try dsimp only at H
  refine sq zA ?_
  simp only [go_sem]
  refine zC ?_
  refine zC ?_
  obtain ⟨r1,e2,H⟩:=bsi H
  refine rg ct19t0_ok ?_
  simp only [go_sem,Nat.reduceLT,Nat.reduceAdd,ct19t0_29,kR,e2]
  repeat ((with_reducible refine aI ?_ ?_);exact an0)
  refine zX rfl trivial (fun hc=>?_) (fun hc=>?_)
  ·replace H:=zL hc H
   cases H
  replace H:=zK hc H
  refine rg zA ?_
  simp only [go_sem]
  refine zC ?_
  obtain ⟨r3,e4,H⟩:=bsi H
  refine rg ct19t1_ok ?_
  simp only [go_sem,Nat.reduceLeDiff,Nat.reduceLT,Nat.reduceAdd,reduceCtorEq,ct19t1_40,body40,e4]
  repeat ((with_reducible refine aI ?_ ?_);exact an2)
  refine rg zA ?_
  simp only [go_sem]
  obtain rfl:=Option.some.inj H
  refine yE [] [some 2] ?_ ?_ ?_ ?_ (by rfl) (by rfl)
  ·simp only [go_sem]
   try exact at0
  ·simp only [go_sem]
   try exact at0
  ·simp only [go_sem]
   exact cT
  ·simp only [go_sem,CvH]
   exact zJ vC cl (fun _ _ _ _=>rfl)
 ·cases hb
def F20 (p0:TAction):Option ((List Int) × Int) :=
 bif (bLt 2304 (wr .i64 (3+(p0.Data.length:Nat)))) then none else (need (capb 1 (3+p0.Data.length)) <| some (([p0.Category,p0.Code,p0.Token] ++ p0.Data),0))
def body20:List AV->List ABlk->ED
 | [v0],h=>(fun z0=>.ed [] (aK 4 kU (roD (zH h []) v0)/\xJ (zH h []) v0/\z0.isSome=true) (.tup [.sl 0 1 0 (((gt z0).1).length) false,.int .i64 ((gt z0).2)]) [.row 5 1 (((gt z0).1).length) (enR c_u8 ((gt z0).1))]) (F20 (qI (aL (roD (zH h []) v0))))
 | _,_=>.fail
theorem ok20:FnOk Tryz.prog 20 (edC body20):=by
 refine xO body20 (rs:=[.tmp 2,.tmp 3]) Tryz.func20 (by kernel_rfl) rfl rfl ?_
 intro l h bs ob q0 g0 hb hob
 unfold body20 at hb
 dsimp only at hb
 split at hb
 ·rename_i v0
  injection hb with q1 q2 q3 q4;subst q1 q2 q3 q4
  obtain ⟨hk0_0,hk0_1,hob⟩:=hob
  obtain ⟨r,H⟩:=oE.1 hob
  rw [H,zN]
  have hw0:=wA_TAction hk0_0
  obtain ⟨p0,hp_p0⟩:∃ p0,p0=qI (aL (roD (zH h []) v0)):=⟨_,rfl⟩
  rw [← hp_p0] at H hw0
  refine ⟨[.agg [.int .u8 p0.Category,.int .u8 p0.Code,.int .u8 p0.Token,.ro 1 p0.Data.length false (enR c_u8 p0.Data)]],[],rfl,⟨(yR hk0_1 hw0),trivial⟩,trivial,trivial,⟨(yY vC),trivial⟩,⟨zW,trivial⟩,(by first|(simp only [noro,yK,and_self];done)|(simp only [noro,yK];and_intros<;>first|trivial|exact xX (by simp only [noro]) (by simp only [noro])|(simp only [noro,yK,and_self]))),?_⟩
  rw [Tryz.ntmps20]
  simp only [lC,lN,Nat.reduceAdd,Nat.reduceSub,rS,rZ,aC,aN]
  unfold F20 at H
  try dsimp only at H
  refine sq zA ?_
  simp only [go_sem]
  refine sq zA ?_
  simp only [go_sem,Nat.reduceLeDiff,Nat.reduceLT,Nat.reduceAdd]
  repeat ((with_reducible refine aI ?_ ?_);exact an4)
  refine zC ?_
  refine qP ?_
  refine wL zU zA 3 ?_
  simp only [zV,tS,tZ,dS,dZ,go_sem,Nat.reduceLT,Nat.reduceAdd]
  repeat ((with_reducible refine aI ?_ ?_);exact an2)
  refine inlO (rs:=[.tmp 4,.tmp 5]) Tryz.func41 (by kernel_rfl) rfl rfl Tryz.ntmps41 (caps:=[]) (tc:=[.ptr 2 0 0 0,.ro 1 p0.Data.length false (enR c_u8 p0.Data)]) rfl (by simp only [go_sem]) rfl ?_
  simp only [lC,lN,Nat.reduceAdd,Nat.reduceSub,rS,rZ,aC,aN]
  refine sq zA ?_
  simp only [go_sem]
  refine zC ?_
  refine sq zA ?_
  simp only [go_sem,Nat.reduceLT]
  repeat ((with_reducible refine aI ?_ ?_);exact an2)
  refine zX rfl trivial (fun hc=>?_) (fun hc=>?_)
  ·replace H:=zL hc H
   cases H
  replace H:=zK hc H
  refine rg zA ?_
  simp only [go_sem]
  refine zC ?_
  obtain ⟨f1,H⟩:=nC H
  refine rg zA ?_
  simp only [go_sem,Nat.reduceLT,Nat.reduceAdd,f1]
  repeat ((with_reducible refine aI ?_ ?_);exact an1)
  refine rg zA ?_
  simp only [go_sem]
  refine wL zU zA 4 ?_
  simp only [zV,tS,tZ,dS,dZ,go_sem,Nat.reduceLT,Nat.reduceAdd]
  repeat ((with_reducible refine aI ?_ ?_);exact an1)
  refine tY ?_
  refine rg zA ?_
  simp only [go_sem]
  obtain rfl:=Option.some.inj H
  refine yE [] [some 3] ?_ ?_ ?_ ?_ (by rfl) (by rfl)
  ·simp only [go_sem]
   try exact at0
  ·simp only [go_sem]
   try exact at0
  ·simp only [go_sem]
   exact cT
  ·simp only [go_sem,CvH]
   exact zJ vC cl (vO (f:=c_u8) [p0.Category,p0.Code,p0.Token] p0.Data (wS (f:=c_u8) [p0.Category,p0.Code,p0.Token] (fun _ _=>rfl) rfl) (fun _ _ _ _=>rfl))
 ·cases hb
def F74 (p0:Int) (p1:Int):Option (Bool) :=
 some ((bLe 0 p0) && (bLe p0 p1))
def body74:List AV->AR
 | [v0,v1]=>.pure (iK .i64 v0/\iK .i64 v1/\(F74 (iA v0) (iA v1)).isSome=true) (.bool (gt (F74 (iA v0) (iA v1))))
 | _=>.fail
theorem ok74:FnOk Tryz.prog 74 (pureC body74):=by
 refine yM body74 (rs:=[.tmp 4]) Tryz.func74 (by kernel_rfl) rfl rfl ?_
 intro l ob v hb hob
 unfold body74 at hb
 split at hb
 ·rename_i v0 v1
  injection hb with q1 q2;subst q1 q2
  obtain ⟨hk0_0,hk1_0,hob⟩:=hob
  obtain ⟨r,H⟩:=oE.1 hob
  rw [H,zN]
  have hw0:=iK_wk hk0_0
  have hw1:=iK_wk hk1_0
  generalize iA v0=p0 at H hw0
  generalize iA v1=p1 at H hw1
  refine ⟨[.int .i64 p0,.int .i64 p1],_,(fun E vs F=>yC hw0.1 F (fun vs F=>yC hw1.1 F (fun vs F=>F))),rfl,rfl,?_⟩
  rw [Tryz.ntmps74]
  simp only [lC,lN,Nat.reduceAdd,Nat.reduceSub,rS,rZ,aC,aN]
  unfold F74 at H
  try dsimp only at H
  refine sq zA ?_
  simp only [go_sem]
  refine sq zA ?_
  simp only [go_sem]
  repeat ((with_reducible refine aI ?_ ?_);exact an4)
  refine rg zA ?_
  simp only [go_sem]
  obtain rfl:=Option.some.inj H
  exact fB
 ·cases hb
def F75 (p0:A6u8):Option (Bool) :=
 some (!bEq (uE .u8 p0.x0 1) 0)
def body75:List AV->AR
 | [v0]=>.pure (aK 6 bG v0/\(F75 (gW (aL v0))).isSome=true) (.bool (gt (F75 (gW (aL v0)))))
 | _=>.fail
theorem ok75:FnOk Tryz.prog 75 (pureC body75):=by
 refine yM body75 (rs:=[.tmp 2]) Tryz.func75 (by kernel_rfl) rfl rfl ?_
 intro l ob v hb hob
 unfold body75 at hb
 split at hb
 ·rename_i v0
  injection hb with q1 q2;subst q1 q2
  obtain ⟨hk0_0,hob⟩:=hob
  obtain ⟨r,H⟩:=oE.1 hob
  rw [H,zN]
  have hw0:=wA_A6u8 hk0_0
  generalize gW (aL v0)=p0 at H hw0
  refine ⟨[.agg [.int .u8 p0.x0,.int .u8 p0.x1,.int .u8 p0.x2,.int .u8 p0.x3,.int .u8 p0.x4,.int .u8 p0.x5]],_,(fun E vs F=>yC hw0.1 F (fun vs F=>F)),rfl,rfl,?_⟩
  rw [Tryz.ntmps75]
  simp only [lC,lN,Nat.reduceAdd,Nat.reduceSub,rS,rZ,aC,aN]
  unfold F75 at H
  try dsimp only at H
  refine sq zA ?_
  simp only [go_sem]
  refine sq zA ?_
  simp only [go_sem,Nat.reduceLeDiff,Nat.reduceLT,Nat.reduceAdd,Nat.reduceBEq]
  repeat ((with_reducible refine aI ?_ ?_);exact an4)
  refine rg zA ?_
  simp only [go_sem]
  obtain rfl:=Option.some.inj H
  exact fB
 ·cases hb
def F76 (p0:THeader):Option (Bool) :=
 some ((bEq p0.Kind 2) && (!bEq (uE .u8 p0.Sub 4) 0))
def dU:List AV->AR
 | [v0]=>.pure (aK 40 uW v0/\(F76 (wM (aL v0))).isSome=true) (.bool (gt (F76 (wM (aL v0)))))
 | _=>.fail
theorem ok76:FnOk Tryz.prog 76 (pureC dU):=by
 refine yM dU (rs:=[.tmp 2]) Tryz.func76 (by kernel_rfl) rfl rfl ?_
 intro l ob v hb hob
 unfold dU at hb
 split at hb
 ·rename_i v0
  injection hb with q1 q2;subst q1 q2
  obtain ⟨hk0_0,hob⟩:=hob
  obtain ⟨r,H⟩:=oE.1 hob
  rw [H,zN]
  have hw0:=cF hk0_0
  generalize wM (aL v0)=p0 at H hw0
  refine ⟨[.agg (.int .u8 p0.Kind::.int .u8 p0.Sub::.bool p0.ToDs::.bool p0.FromDs::.bool p0.More::.bool p0.Retry::.bool p0.Sleep::.bool p0.MoreData::.bool p0.Protected::.int .i64 p0.Duration::.int .u8 p0.A1.x0::.int .u8 p0.A1.x1::.int .u8 p0.A1.x2::.int .u8 p0.A1.x3::.int .u8 p0.A1.x4::.int .u8 p0.A1.x5::.int .u8 p0.A2.x0::.int .u8 p0.A2.x1::.int .u8 p0.A2.x2::.int .u8 p0.A2.x3::.int .u8 p0.A2.x4::.int .u8 p0.A2.x5::.int .u8 p0.A3.x0::.int .u8 p0.A3.x1::.int .u8 p0.A3.x2::.int .u8 p0.A3.x3::.int .u8 p0.A3.x4::.int .u8 p0.A3.x5::.int .u8 p0.A4.x0::.int .u8 p0.A4.x1::.int .u8 p0.A4.x2::.int .u8 p0.A4.x3::.int .u8 p0.A4.x4::.int .u8 p0.A4.x5::.int .i64 p0.Seq::.int .i64 p0.Frag::.int .i64 p0.Tid::.int .u8 p0.Ack::.bool p0.Amsdu::.bool p0.Eosp::[])],_,(fun E vs F=>yC hw0.1 F (fun vs F=>F)),rfl,rfl,?_⟩
  rw [Tryz.ntmps76]
  simp only [lC,lN,Nat.reduceAdd,Nat.reduceSub,rS,rZ,aC,aN]
  unfold F76 at H
  try dsimp only at H
  refine sq zA ?_
  simp only [go_sem]
  refine sq zA ?_
  simp only [go_sem,Nat.reduceLeDiff,Nat.reduceLT,Nat.reduceAdd]
  repeat ((with_reducible refine aI ?_ ?_);exact an4)
  refine rg zA ?_
  simp only [go_sem]
  obtain rfl:=Option.some.inj H
  exact fB
 ·cases hb
def ct42t0:Ct:=tab [(74,pureC body74)]
theorem ct42t0_ok:yP Tryz.prog ct42t0:=zE ok74 <| zO
theorem ct42t0_74 (l:List AV) (h:List ABlk):ct42t0 74 l h=pureC body74 l h:=rfl
def ct42t1:Ct:=tab [(75,pureC body75)]
theorem ct42t1_ok:yP Tryz.prog ct42t1:=zE ok75 <| zO
theorem ct42t1_75 (l:List AV) (h:List ABlk):ct42t1 75 l h=pureC body75 l h:=rfl
def ct42t2:Ct:=tab [(76,pureC dU)]
theorem ct42t2_ok:yP Tryz.prog ct42t2:=zE ok76 <| zO
theorem ct42t2_76 (l:List AV) (h:List ABlk):ct42t2 76 l h=pureC dU l h:=rfl
def F42 (p0:THeader):Option (Int) :=
 bif (hdq p0) then ((F74 0 32767).bind fun r3=>need (bif r3 then ((F74 0 4095).isSome) else true) <| need (bif (r3 && (gt (F74 0 4095))) then ((F74 0 15).isSome) else true) <| need (bif ((r3 && (gt (F74 0 4095))) && (gt (F74 0 15))) then ((F74 0 7).isSome) else true) <| (F75 p0.A2).bind fun r8=>need (bif ((!r8) && false) then ((F75 (A6u8.mk 255 255 255 255 255 255)).isSome) else true) <| need (bif (!(((!(bEq 0 0 && (bEq 0 0 && (bB false false && (bB false false && (bB false false && (bB false false && (bB false false && (bB false false && (bB false false && (bEq 0 0 && (bEq 0 0 && (bEq 0 0 && (bEq 0 0 && (bEq 0 0 && (bEq 0 0 && (bEq 0 0 && (bEq 0 0 && (bEq 0 0 && (bEq 0 0 && (bEq 0 0 && (bEq 0 0 && (bEq 0 0 && (bEq 0 0 && (bEq 0 0 && (bEq 0 0 && (bEq 0 0 && (bEq 0 0 && (bEq 0 0 && (bEq 0 0 && (bEq 0 0 && (bEq 0 0 && (bEq 0 0 && (bEq 0 0 && (bEq 0 0 && (bEq 0 0 && (bEq 0 0 && (bEq 0 0 && (bEq 0 0 && (bB false false && (bB false false))))))))))))))))))))))))))))))))))))))))) || (!(((r3 && (gt (F74 0 4095))) && (gt (F74 0 15))) && (gt (F74 0 7))))) || r8)) then ((F76 (THeader.mk 0 13 false false false false false false false 0 (A6u8.mk 255 255 255 255 255 255) (A6u8.mk p0.A2.x0 p0.A2.x1 p0.A2.x2 p0.A2.x3 p0.A2.x4 p0.A2.x5) (A6u8.mk 2 0 0 0 0 1) (A6u8.mk 0 0 0 0 0 0) 0 0 0 0 false false)).isSome) else true) <| bif (((!(bEq 0 0 && (bEq 0 0 && (bB false false && (bB false false && (bB false false && (bB false false && (bB false false && (bB false false && (bB false false && (bEq 0 0 && (bEq 0 0 && (bEq 0 0 && (bEq 0 0 && (bEq 0 0 && (bEq 0 0 && (bEq 0 0 && (bEq 0 0 && (bEq 0 0 && (bEq 0 0 && (bEq 0 0 && (bEq 0 0 && (bEq 0 0 && (bEq 0 0 && (bEq 0 0 && (bEq 0 0 && (bEq 0 0 && (bEq 0 0 && (bEq 0 0 && (bEq 0 0 && (bEq 0 0 && (bEq 0 0 && (bEq 0 0 && (bEq 0 0 && (bEq 0 0 && (bEq 0 0 && (bEq 0 0 && (bEq 0 0 && (bEq 0 0 && (bB false false && (bB false false))))))))))))))))))))))))))))))))))))))))) || (!(((r3 && (gt (F74 0 4095))) && (gt (F74 0 15))) && (gt (F74 0 7))))) || r8) then none else (some 0)) else none
def dP:List AV->AR
 | [v0]=>.pure (aK 40 uW v0/\(F42 (wM (aL v0))).isSome=true) (.int .i64 (gt (F42 (wM (aL v0)))))
 | _=>.fail
theorem ok42:FnOk Tryz.prog 42 (pureC dP):=by
 refine yM dP (rs:=[.tmp 2]) Tryz.func42 (by kernel_rfl) rfl rfl ?_
 intro l ob v hb hob
 unfold dP at hb
 split at hb
 ·rename_i v0
  injection hb with q1 q2;subst q1 q2
  obtain ⟨hk0_0,hob⟩:=hob
  obtain ⟨r,H⟩:=oE.1 hob
  rw [H,zN]
  have hw0:=cF hk0_0
  generalize wM (aL v0)=p0 at H hw0
  refine ⟨[.agg (.int .u8 p0.Kind::.int .u8 p0.Sub::.bool p0.ToDs::.bool p0.FromDs::.bool p0.More::.bool p0.Retry::.bool p0.Sleep::.bool p0.MoreData::.bool p0.Protected::.int .i64 p0.Duration::.int .u8 p0.A1.x0::.int .u8 p0.A1.x1::.int .u8 p0.A1.x2::.int .u8 p0.A1.x3::.int .u8 p0.A1.x4::.int .u8 p0.A1.x5::.int .u8 p0.A2.x0::.int .u8 p0.A2.x1::.int .u8 p0.A2.x2::.int .u8 p0.A2.x3::.int .u8 p0.A2.x4::.int .u8 p0.A2.x5::.int .u8 p0.A3.x0::.int .u8 p0.A3.x1::.int .u8 p0.A3.x2::.int .u8 p0.A3.x3::.int .u8 p0.A3.x4::.int .u8 p0.A3.x5::.int .u8 p0.A4.x0::.int .u8 p0.A4.x1::.int .u8 p0.A4.x2::.int .u8 p0.A4.x3::.int .u8 p0.A4.x4::.int .u8 p0.A4.x5::.int .i64 p0.Seq::.int .i64 p0.Frag::.int .i64 p0.Tid::.int .u8 p0.Ack::.bool p0.Amsdu::.bool p0.Eosp::[])],_,(fun E vs F=>yC hw0.1 F (fun vs F=>F)),rfl,rfl,?_⟩
  rw [Tryz.ntmps42]
  simp only [lC,lN,Nat.reduceAdd,Nat.reduceSub,rS,rZ,aC,aN]
  unfold F42 at H
  try dsimp only at H
  refine zC ?_
  refine wG (c:=(hdq p0)) (fun hv1=>?_) (fun hv1=>?_)
  ·replace H:=zL hv1 H
   rw [hdq_is hv1]
   dsimp only [hd]
   refine rg zA ?_
   simp only [go_sem]
   refine zC ?_
   refine qP ?_
   refine wL zU zA 4 ?_
   simp only [zV,tS,tZ,dS,dZ,go_sem,Nat.reduceLeDiff,Nat.reduceLT,Nat.reduceAdd]
   repeat ((with_reducible refine aI ?_ ?_);exact an0)
   refine inlO (rs:=[.cell 4 129,.tmp 5]) Tryz.func56 (by kernel_rfl) rfl rfl Tryz.ntmps56 (caps:=[]) (tc:=[.int .u8 0,.int .u8 13]) rfl (by simp only [go_sem]) rfl ?_
   simp only [lC,lN,Nat.reduceAdd,Nat.reduceSub,rS,rZ,aC,aN]
   refine sq zA ?_
   simp only [go_sem]
   refine zC ?_
   refine sq zA ?_
   simp only [go_sem]
   refine xN ?_
   refine sq zA ?_
   simp only [go_sem,(by decide:bEq (0) (0)=true)]
   refine zX rfl trivial (fun hc=>?_) (fun hc=>?_)
   rotate_left
   ·cases hc
   refine sq zA ?_
   simp only [go_sem,Nat.reduceLeDiff,Nat.reduceAdd,(by decide:bLe (13) (5)=false),(by decide:bEq (13) (8)=false),(by decide:bLe (10) (13)=true),(by decide:bLe (13) (13)=true)]
   repeat ((with_reducible refine aI ?_ ?_);exact an4)
   refine rg zA ?_
   simp only [go_sem,Nat.reduceLT,Nat.reduceAdd]
   refine wL zU zA 6 ?_
   simp only [zV,tS,tZ,dS,dZ,go_sem,Nat.reduceLT,Nat.reduceAdd]
   repeat ((with_reducible refine aI ?_ ?_);exact an0)
   refine tY ?_
   refine zC ?_
   refine sq zA ?_
   simp only [go_sem]
   refine zX rfl trivial (fun hc=>?_) (fun hc=>?_)
   ·cases hc
   refine rg zA ?_
   simp only [go_sem]
   refine sq zA ?_
   simp only [go_sem,Nat.reduceLT,Nat.reduceAdd]
   repeat ((with_reducible refine aI ?_ ?_);exact an4)
   refine zC ?_
   refine qP ?_
   refine wL zU zA 0 ?_
   simp only [zV,tZ,dZ,go_sem]
   repeat ((with_reducible refine aI ?_ ?_);exact an0)
   refine inlO (rs:=[.tmp 2,.tmp 3]) Tryz.func58 (by kernel_rfl) rfl rfl Tryz.ntmps58 (caps:=[]) (tc:=[.ptr 3 0 0 0]) rfl (by simp only [go_sem]) rfl ?_
   simp only [lC,lN,Nat.reduceAdd,Nat.reduceSub,rS,rZ,aC,aN]
   refine sq zA ?_
   simp only [go_sem]
   refine zC ?_
   refine xC zU zA 1 (by kernel_rfl) (by kernel_rfl) ?_
   intro an han
   simp only [vH,wI,tC,xrD,xoD,uY,vL,List.append_nil,xF,refs,mask,wN,place,xU,wO,xV,hit,inL,xH,ren,rnN,nrH,nrB,nrL,nr,rZ,rS,Nat.sub_self,Nat.add_zero,Nat.zero_add,Nat.reduceSub,Nat.lt_add_one,go_sem,Nat.reduceLeDiff,Nat.reduceLT,Nat.reduceAdd,Nat.reduceSub,Nat.reduceBEq,reduceCtorEq]
   repeat ((with_reducible refine aI ?_ ?_);exact an5)
   refine zC ?_
   refine xN ?_
   refine sq zA ?_
   simp only [go_sem,Nat.reduceLeDiff,Nat.reduceLT,Nat.reduceAdd,(by decide:bEq (0) (1)=false)]
   repeat ((with_reducible refine aI ?_ ?_);exact an4)
   refine zX rfl trivial (fun hc=>?_) (fun hc=>?_)
   ·cases hc
   refine sq zA ?_
   simp only [go_sem,Nat.reduceLeDiff,Nat.reduceLT,Nat.reduceAdd,(by decide:bEq (0) (1)=false)]
   repeat ((with_reducible refine aI ?_ ?_);exact an4)
   refine zX rfl trivial (fun hc=>?_) (fun hc=>?_)
   ·cases hc
   refine sq zA ?_
   simp only [go_sem,Nat.reduceLeDiff,Nat.reduceLT,Nat.reduceAdd,(by decide:bEq (0) (2)=false)]
   repeat ((with_reducible refine aI ?_ ?_);exact an4)
   refine zX rfl trivial (fun hc=>?_) (fun hc=>?_)
   ·cases hc
   refine rg zA ?_
   simp only [go_sem]
   refine sq zA ?_
   simp only [go_sem,Nat.reduceLeDiff,Int.reduceToNat]
   repeat ((with_reducible refine aI ?_ ?_);exact an4)
   refine rg zA ?_
   simp only [go_sem]
   refine wL zU zA 5 ?_
   simp only [zV,tS,tZ,dS,dZ,go_sem,Nat.reduceLT,Nat.reduceAdd]
   repeat ((with_reducible refine aI ?_ ?_);exact an2)
   refine tY ?_
   refine zC ?_
   refine zC ?_
   refine qP ?_
   refine wL zU zA 2 ?_
   simp only [zV,tS,tZ,dS,dZ,go_sem]
   repeat ((with_reducible refine aI ?_ ?_);exact an2)
   refine appIslO (e:=137) (z:=1) (zn:=1) (by_:=8) rfl rfl rfl (by kernel_rfl) (by kernel_rfl) (by kernel_rfl) (by kernel_rfl) (by kernel_rfl) (by first|exact trivial|(simp only [go_sem,Nat.reduceLeDiff,Nat.reduceLT,Nat.reduceAdd,Nat.reduceMul,Nat.reduceSub,Nat.reduceEqDiff,Nat.reduceBEq,Int.reduceToNat,reduceCtorEq];done)|simp [og]) (by first|exact trivial|(simp only [go_sem,Nat.reduceLeDiff,Nat.reduceLT,Nat.reduceAdd,Nat.reduceMul,Nat.reduceSub,Nat.reduceEqDiff,Nat.reduceBEq,Int.reduceToNat,reduceCtorEq];done)|simp [og]) rfl rfl ?_
   simp only [go_sem]
   refine wL zU zA 2 ?_
   simp only [zV,tS,tZ,dS,dZ,go_sem]
   repeat ((with_reducible refine aI ?_ ?_);exact an2)
   refine tY ?_
   refine xN ?_
   refine tP 4 ?_
   refine cD ?_
   refine sq zA ?_
   simp only [go_sem,(by decide:bLt (0) (3)=true)]
   refine zC ?_
   refine zX rfl trivial (fun hc=>?_) (fun hc=>?_)
   rotate_left
   ·cases hc
   refine rg zA ?_
   simp only [go_sem]
   refine zC ?_
   refine xN ?_
   refine sq zA ?_
   simp only [go_sem,Nat.reduceLeDiff,Nat.reduceLT,Nat.reduceAdd]
   repeat ((with_reducible refine aI ?_ ?_);exact an4)
   refine rg zA ?_
   simp only [go_sem,Nat.reduceLeDiff,Nat.reduceAdd]
   repeat ((with_reducible refine aI ?_ ?_);exact an4)
   refine rg zA ?_
   simp only [go_sem,(by decide:wr IntKind.i64 ((0:Int)+1)=1)]
   refine cD ?_
   refine sq zA ?_
   simp only [go_sem,(by decide:bLt (1) (3)=true)]
   refine zC ?_
   refine zX rfl trivial (fun hc=>?_) (fun hc=>?_)
   rotate_left
   ·cases hc
   refine rg zA ?_
   simp only [go_sem]
   refine zC ?_
   refine xN ?_
   refine sq zA ?_
   simp only [go_sem,Nat.reduceLeDiff,Nat.reduceLT,Nat.reduceAdd,Int.reduceToNat]
   repeat ((with_reducible refine aI ?_ ?_);exact an4)
   refine rg zA ?_
   simp only [go_sem,Nat.reduceLeDiff,Nat.reduceAdd]
   repeat ((with_reducible refine aI ?_ ?_);exact an4)
   refine rg zA ?_
   simp only [go_sem,(by decide:wr IntKind.i64 ((1:Int)+1)=2)]
   refine cD ?_
   refine sq zA ?_
   simp only [go_sem,(by decide:bLt (2) (3)=true)]
   refine zC ?_
   refine zX rfl trivial (fun hc=>?_) (fun hc=>?_)
   rotate_left
   ·cases hc
   refine rg zA ?_
   simp only [go_sem]
   refine zC ?_
   refine xN ?_
   refine sq zA ?_
   simp only [go_sem,Nat.reduceLeDiff,Nat.reduceLT,Nat.reduceAdd,Int.reduceToNat]
   repeat ((with_reducible refine aI ?_ ?_);exact an4)
   refine rg zA ?_
   simp only [go_sem,Nat.reduceLeDiff,Nat.reduceAdd]
   repeat ((with_reducible refine aI ?_ ?_);exact an4)
   refine rg zA ?_
   simp only [go_sem,(by decide:wr IntKind.i64 ((2:Int)+1)=3)]
   refine cD ?_
   refine sq zA ?_
   simp only [go_sem,(by decide:bLt (3) (3)=false)]
   refine zC ?_
   refine zX rfl trivial (fun hc=>?_) (fun hc=>?_)
   ·cases hc
   refine rg zA ?_
   simp only [go_sem]
   refine sq zA ?_
   simp only [go_sem,Nat.reduceLeDiff,Nat.reduceAdd]
   repeat ((with_reducible refine aI ?_ ?_);exact an4)
   refine zC ?_
   refine sq zA ?_
   simp only [go_sem,Nat.reduceLeDiff,Nat.reduceLT,Nat.reduceAdd,(by decide:bEq (0) (2)=false)]
   repeat ((with_reducible refine aI ?_ ?_);exact an4)
   refine zX rfl trivial (fun hc=>?_) (fun hc=>?_)
   ·cases hc
   refine rg zA ?_
   simp only [go_sem]
   refine zC ?_
   refine sq zA ?_
   simp only [go_sem,Nat.reduceLeDiff,Nat.reduceLT,Nat.reduceAdd]
   repeat ((with_reducible refine aI ?_ ?_);exact an4)
   refine zX rfl trivial (fun hc=>?_) (fun hc=>?_)
   rotate_left
   ·cases hc
   refine rg zA ?_
   simp only [go_sem,Nat.reduceLeDiff,Nat.reduceAdd]
   repeat ((with_reducible refine aI ?_ ?_);exact an4)
   refine zC ?_
   refine sq zA ?_
   simp only [go_sem,Nat.reduceLT,Nat.reduceAdd]
   repeat ((with_reducible refine aI ?_ ?_);exact an4)
   refine zX rfl trivial (fun hc=>?_) (fun hc=>?_)
   ·cases hc
   refine rg zA ?_
   simp only [go_sem]
   refine sq zA ?_
   simp only [go_sem]
   refine zC ?_
   obtain ⟨r3,e4,H⟩:=bsi H
   obtain ⟨f5,H⟩:=zP.1 H
   replace f5:=xR.1 f5
   obtain ⟨f6,H⟩:=zP.1 H
   replace f6:=xR.1 f6
   obtain ⟨f7,H⟩:=zP.1 H
   replace f7:=xR.1 f7
   refine rg ct42t0_ok ?_
   simp only [go_sem,Nat.reduceLeDiff,Nat.reduceLT,Nat.reduceAdd,ct42t0_74,body74,(by decide:bLe (0) (2)=true),e4]
   repeat ((with_reducible refine And.intro ?_ ?_);focus exact bn5 f5 f6 f7)
   refine sq zA ?_
   simp only [go_sem,Nat.reduceLeDiff,Nat.reduceLT,Nat.reduceAdd,(by decide:bEq (0) (0)=true)]
   repeat ((with_reducible refine aI ?_ ?_);exact an4)
   refine zC ?_
   obtain ⟨r8,e9,H⟩:=bsi H
   obtain ⟨f10,H⟩:=zP.1 H
   replace f10:=xR.1 f10
   refine rg ct42t1_ok ?_
   simp only [go_sem,Nat.reduceLeDiff,Nat.reduceLT,Nat.reduceAdd,reduceCtorEq,ct42t1_75,body75,e9]
   repeat ((with_reducible refine And.intro ?_ ?_);focus exact bn4 f10)
   refine zC ?_
   refine zC ?_
   obtain ⟨f11,H⟩:=zP.1 H
   replace f11:=xR.1 f11
   refine rg ct42t2_ok ?_
   simp only [go_sem,Nat.reduceLeDiff,Nat.reduceLT,Nat.reduceAdd,ct42t2_76,dU]
   repeat ((with_reducible refine And.intro ?_ ?_);focus exact bn4 f11)
   refine zX rfl trivial (fun hc=>?_) (fun hc=>?_)
   ·replace H:=zL hc H
    cases H
   replace H:=zK hc H
   refine rg zA ?_
   simp only [go_sem]
   refine sq zA ?_
   simp only [go_sem]
   refine rg zA ?_
   simp only [go_sem]
   obtain rfl:=Option.some.inj H
   exact fB
  replace H:=zK hv1 H
  cases H
 ·cases hb
def ct43t0:Ct:=tab [(76,pureC dU)]
theorem ct43t0_ok:yP Tryz.prog ct43t0:=zE ok76 <| zO
theorem ct43t0_76 (l:List AV) (h:List ABlk):ct43t0 76 l h=pureC dU l h:=rfl
def F43 (p0:THeader):Option (Bool) :=
 (F76 p0).bind fun r1=>some (r1 || ((bEq p0.Kind 1) && (bLe 10 p0.Sub)))
def dR:List AV->AR
 | [v0]=>.pure (aK 40 uW v0/\(F43 (wM (aL v0))).isSome=true) (.bool (gt (F43 (wM (aL v0)))))
 | _=>.fail
theorem ok43:FnOk Tryz.prog 43 (pureC dR):=by
 refine yM dR (rs:=[.tmp 2]) Tryz.func43 (by kernel_rfl) rfl rfl ?_
 intro l ob v hb hob
 unfold dR at hb
 split at hb
 ·rename_i v0
  injection hb with q1 q2;subst q1 q2
  obtain ⟨hk0_0,hob⟩:=hob
  obtain ⟨r,H⟩:=oE.1 hob
  rw [H,zN]
  have hw0:=cF hk0_0
  generalize wM (aL v0)=p0 at H hw0
  refine ⟨[.agg (.int .u8 p0.Kind::.int .u8 p0.Sub::.bool p0.ToDs::.bool p0.FromDs::.bool p0.More::.bool p0.Retry::.bool p0.Sleep::.bool p0.MoreData::.bool p0.Protected::.int .i64 p0.Duration::.int .u8 p0.A1.x0::.int .u8 p0.A1.x1::.int .u8 p0.A1.x2::.int .u8 p0.A1.x3::.int .u8 p0.A1.x4::.int .u8 p0.A1.x5::.int .u8 p0.A2.x0::.int .u8 p0.A2.x1::.int .u8 p0.A2.x2::.int .u8 p0.A2.x3::.int .u8 p0.A2.x4::.int .u8 p0.A2.x5::.int .u8 p0.A3.x0::.int .u8 p0.A3.x1::.int .u8 p0.A3.x2::.int .u8 p0.A3.x3::.int .u8 p0.A3.x4::.int .u8 p0.A3.x5::.int .u8 p0.A4.x0::.int .u8 p0.A4.x1::.int .u8 p0.A4.x2::.int .u8 p0.A4.x3::.int .u8 p0.A4.x4::.int .u8 p0.A4.x5::.int .i64 p0.Seq::.int .i64 p0.Frag::.int .i64 p0.Tid::.int .u8 p0.Ack::.bool p0.Amsdu::.bool p0.Eosp::[])],_,(fun E vs F=>yC hw0.1 F (fun vs F=>F)),rfl,rfl,?_⟩
  rw [Tryz.ntmps43]
  simp only [lC,lN,Nat.reduceAdd,Nat.reduceSub,rS,rZ,aC,aN]
  unfold F43 at H
  try dsimp only at H
  refine sq zA ?_
  simp only [go_sem]
  refine zC ?_
  obtain ⟨r1,e2,H⟩:=bsi H
  refine rg ct43t0_ok ?_
  simp only [go_sem,Nat.reduceLeDiff,Nat.reduceLT,Nat.reduceAdd,ct43t0_76,dU,e2]
  repeat ((with_reducible refine aI ?_ ?_);exact an3)
  refine rg zA ?_
  simp only [go_sem]
  obtain rfl:=Option.some.inj H
  exact fB
 ·cases hb
def F79_0 (p0:List Int) (p1:Int):Option (List Int) :=
 need (capb 1 (p0.length+2)) <| some (p0 ++ [wr .u8 p1,wr .u8 (wW .i64 p1 8)])
def gL:List AV->List ABlk->ED
 | [v0,v1],h=>(fun z0=>.ed [slN v0] (oS 5 1 h v0/\lK k_u8 1 (roW h v0)/\iK .i64 (roD (zH h [slN v0]) v1)/\xJ (zH h [slN v0]) v1/\z0.isSome=true) (.sl 1 1 0 ((gt z0).length) false) [.dead,.row 5 1 ((gt z0).length) (enR c_u8 (gt z0))]) (F79_0 (lA g_u8 (roW h v0)) (iA (roD (zH h [slN v0]) v1)))
 | _,_=>.fail
theorem ok79_0:FnOk Tryz.prog 79 (edC gL):=by
 refine xO gL (rs:=[.tmp 4]) Tryz.func79 (by kernel_rfl) rfl rfl ?_
 intro l h bs ob q0 g0 hb hob
 unfold gL at hb
 dsimp only at hb
 split at hb
 ·rename_i v0 v1
  injection hb with q1 q2 q3 q4;subst q1 q2 q3 q4
  obtain ⟨hk0_0,hk0_1,hk1_0,hk1_1,hob⟩:=hob
  obtain ⟨r,H⟩:=oE.1 hob
  rw [H,zN]
  obtain ⟨p0,hp0⟩:∃ p0,p0=lA g_u8 (roW h v0):=⟨_,rfl⟩
  rw [← hp0] at H
  obtain ⟨ev0,eb0⟩:=wT (f:=c_u8) (g:=g_u8) (bs:=[slN v0]) (i:=0) (fun hr=>w_u8 hr) hk0_0 hk0_1 (L:=p0) (by rw [hp0]) rfl
  have hw1:=iK_wk hk1_0
  obtain ⟨p1,hp_p1⟩:∃ p1,p1=iA (roD (zH h [slN v0]) v1):=⟨_,rfl⟩
  rw [← hp_p1] at H hw1
  refine ⟨[.sl 0 1 0 p0.length false,.int .i64 p1],[.row 5 1 p0.length (enR c_u8 p0)],rfl,⟨(cM ev0 (by simp only [noro])),⟨(yR hk1_1 hw1),trivial⟩⟩,⟨eb0,trivial⟩,⟨zW,trivial⟩,⟨trivial,⟨(yY vC),trivial⟩⟩,⟨trivial,⟨zW,trivial⟩⟩,(by first|(simp only [noro];done)|(simp only [noro,yK];and_intros<;>first|trivial|exact xX (by simp only [noro]) (by simp only [noro])|(simp only [noro,yK,and_self]))),?_⟩
  rw [Tryz.ntmps79]
  simp only [lC,lN,Nat.reduceAdd,Nat.reduceSub,rS,rZ,aC,aN]
  unfold F79_0 at H
  try dsimp only at H
  refine sq zA ?_
  simp only [go_sem]
  refine zC ?_
  obtain ⟨f1,H⟩:=nC H
  refine rg zA ?_
  simp only [go_sem,Nat.reduceLeDiff,Nat.reduceAdd,Nat.reduceBEq,f1]
  repeat ((with_reducible refine aI ?_ ?_);exact an1)
  refine rg zA ?_
  simp only [go_sem]
  obtain rfl:=Option.some.inj H
  refine yE [] [some 0,some 2] ?_ ?_ ?_ ?_ (by rfl) (by rfl)
  ·simp only [go_sem]
   try exact at0
  ·simp only [go_sem]
   try exact at0
  ·simp only [go_sem]
   exact (by first|(simp [Cv,yB];done)|(simp [Cv,CvL,yB,zN];omega))
  ·simp only [go_sem,CvH]
   first|exact ⟨yI,zJ vC cl (vO (f:=c_u8) p0 [wr .u8 p1,wr .u8 (wW .i64 p1 8)] (fun _ _ _ _=>rfl) (wS (f:=c_u8) [wr .u8 p1,wr .u8 (wW .i64 p1 8)] (fun _ _=>rfl) rfl))⟩|trivial
 ·cases hb
end
end Go.Proofs.YtooepgpfaaddbaaGreat
