/-
  What BufferOnce reaches.
-/
import Derived.Test.YtefiemaoacmdkaaY8p1
namespace Go.Proofs.Ytefiemaoacmdkaa
open Go.Am
set_option maxHeartbeats 4000000
set_option maxRecDepth 20000
set_option linter.unusedVariables false
set_option linter.unusedSimpArgs false
theorem tik60_0:tintk Try.prog 2=true:=by kernel_rfl
theorem tik60_1:tintk Try.prog 23=false:=by kernel_rfl
theorem okF60:wM Try.prog 60 (delF 61 43):=by
 refine edit1_fn (sh:=fun _=>none) (fun _ _ h=>by cases h) zA (delF 61 43) (rs:=[.tmp 6]) Try.func60 (by kernel_rfl) rfl rfl delF_np ?_
 intro E h l vs ob v h' H F hc hob
 unfold delF at hc
 split at hc
 ·rename_i b es' i n nl p q
  split at hc
  ·rename_i e' es2 NN c hb
   injection hc with q1 q2 q3
   subst q1 q2 q3
   obtain ⟨rfl,rfl,rfl,hN,hpq,hqn,hfl⟩:=hob
   have hx:=F
   obtain ⟨vs⟩:=vs
   match vs,F.1 with
   | [u1,u2,u3],_ =>
    obtain ⟨cap,hcap,hV⟩:=csl_of_sl (only_sl (F.2 0 _ u1 rfl rfl))
    have g2:=F.2 1 _ u2 rfl rfl
    have g3:=F.2 2 _ u3 rfl rfl
    obtain rfl:=vP g2
    obtain rfl:=vP g3
    refine ⟨b,61,43,NN,c,n - (q - p),delA i p (q - p) c,[.csl 0 43 i n cap,.int .i64 p,.int .i64 q],hb,fun x y hx hy=>(hfl x y hx hy).1,fun x y hx hy=>?_,rfl,rfl,?_,?_⟩
    ·unfold delA
     split<;>exact hfl _ _ (by omega) hy
    ·refine ⟨rfl,fun j a w ha hw=>?_⟩
     match j with
     | 0=>simp at ha hw;subst ha hw;exact hV
     | 1=>simp at ha hw;subst ha hw;exact .int _ _
     | 2=>simp at ha hw;subst ha hw;exact .int _ _
     | j+3=>simp at ha
    ·rw [Try.ntmps60]
     show wpC _ _ _ _ _ (.csl 0 43 i n cap::.int .i64 p::.int .i64 q::.top::.top::.top::.top::.top::.top::.top::.top::.top::.top::.top::.top::.top::.top::.top::.top::.top::.top::.top::.top::.top::.top::.top::.top::.top::.top::.top::.top::.top::.top::[]) _
     have hpq':((p:Int) == (q:Int))=false:=by simp;omega
     simp only [go_sem,bEq,Option.isSome_some,Option.isNone_some,Int.toNat_natCast,hpq']
     refine ⟨by omega,?_⟩
     refine yL (sh:=fun _=>none) (fun _ _ h=>by cases h) zA 0 (by kernel_rfl) (by kernel_rfl) ?_
     intro an han
     have hdc:decide (p+(n - q) <= cap)=true:=by simp;omega
     simp only [go_sem,Nat.reduceLeDiff,Nat.reduceAdd,Nat.reduceSub,kU,gM,jJ,tik60_1,Option.isNone_some,Option.isSome_none,Option.isNone_none,Int.toNat_natCast,hdc,Nat.sub_zero,wK,xR,vL,xA,refs,vF,mask,xZ,place,xI,wA,xK,hit,inL,xD,ren,rnN,nrH,nrB,rZ,Bool.or_false,Bool.or_true,Bool.true_or,Bool.and_false,Bool.false_and,Nat.sub_self,Nat.add_zero,Nat.zero_add,Nat.reduceSub,Nat.lt_add_one]
     have hm:p+(n - q)=n - (q - p):=by omega
     refine ⟨by omega,by omega,by omega,by omega,by omega,?_⟩
     rw [hm]
     refine conv_move (b:=0) rfl (by omega) (by omega) fun x y hx hy=>?_
     unfold jR delA vC
     rw [if_neg (by omega)]
     by_cases hxp:x < p
     ·rw [if_neg (by omega),if_pos hxp]
     ·rw [if_pos (by omega),if_neg hxp]
      congr 1
      omega
  ·cases hc
 ·cases hc
theorem ok60:wM Try.prog 60 (delN 61 43):=delN_ok okF60
noncomputable def F52_0_L1 (p0:List TFrame) (v1_1:List TFrame) (v1_2:Int):Option (Lp ((List TFrame) × Int) ((List TFrame) ⊕ (List TFrame))) :=
 bif (bLt v1_2 (p0.length:Nat)) then (need (inb v1_2 v1_1.length) <| some (.next ((v1_1.set v1_2.toNat (TFrame.mk (THeader.mk (((gd v1_1 v1_2.toNat).Head).Kind) (((gd v1_1 v1_2.toNat).Head).Sub) (((gd v1_1 v1_2.toNat).Head).ToDs) (((gd v1_1 v1_2.toNat).Head).FromDs) (((gd v1_1 v1_2.toNat).Head).More) (((gd v1_1 v1_2.toNat).Head).Retry) (((gd v1_1 v1_2.toNat).Head).Sleep) (bLt (wr .i64 (v1_2+1)) (v1_1.length:Nat)) (((gd v1_1 v1_2.toNat).Head).Protected) (((gd v1_1 v1_2.toNat).Head).Duration) (A6u8.mk ((((gd v1_1 v1_2.toNat).Head).A1).x0) ((((gd v1_1 v1_2.toNat).Head).A1).x1) ((((gd v1_1 v1_2.toNat).Head).A1).x2) ((((gd v1_1 v1_2.toNat).Head).A1).x3) ((((gd v1_1 v1_2.toNat).Head).A1).x4) ((((gd v1_1 v1_2.toNat).Head).A1).x5)) (A6u8.mk ((((gd v1_1 v1_2.toNat).Head).A2).x0) ((((gd v1_1 v1_2.toNat).Head).A2).x1) ((((gd v1_1 v1_2.toNat).Head).A2).x2) ((((gd v1_1 v1_2.toNat).Head).A2).x3) ((((gd v1_1 v1_2.toNat).Head).A2).x4) ((((gd v1_1 v1_2.toNat).Head).A2).x5)) (A6u8.mk ((((gd v1_1 v1_2.toNat).Head).A3).x0) ((((gd v1_1 v1_2.toNat).Head).A3).x1) ((((gd v1_1 v1_2.toNat).Head).A3).x2) ((((gd v1_1 v1_2.toNat).Head).A3).x3) ((((gd v1_1 v1_2.toNat).Head).A3).x4) ((((gd v1_1 v1_2.toNat).Head).A3).x5)) (A6u8.mk ((((gd v1_1 v1_2.toNat).Head).A4).x0) ((((gd v1_1 v1_2.toNat).Head).A4).x1) ((((gd v1_1 v1_2.toNat).Head).A4).x2) ((((gd v1_1 v1_2.toNat).Head).A4).x3) ((((gd v1_1 v1_2.toNat).Head).A4).x4) ((((gd v1_1 v1_2.toNat).Head).A4).x5)) (((gd v1_1 v1_2.toNat).Head).Seq) (((gd v1_1 v1_2.toNat).Head).Frag) (((gd v1_1 v1_2.toNat).Head).Tid) (((gd v1_1 v1_2.toNat).Head).Ack) (((gd v1_1 v1_2.toNat).Head).Amsdu) (((gd v1_1 v1_2.toNat).Head).Eosp)) ((gd v1_1 v1_2.toNat).Body))),wr .i64 (v1_2+1)))) else (some (.done (.inl v1_1)))
noncomputable def gY (p0:List TFrame):Option (List TFrame) :=
 lp (xC (fun s=>F52_0_L1 p0 s.1 s.2) (p0,0)) (fun w1_3=>some w1_3) some
noncomputable def vA:List AV->List ABlk->ED
 | [v0],h=>.ed [slN v0] (oS 33 41 h v0/\lK vT 41 (roW h v0)/\(gY (lA zU (roW h v0))).isSome=true) (.sl 1 41 0 ((gt (gY (lA zU (roW h v0)))).length) false) [.dead,.row 33 41 ((gt (gY (lA zU (roW h v0)))).length) (enR zI (gt (gY (lA zU (roW h v0)))))]
 | _,_=>.fail
theorem ok52_0:wM Try.prog 52 (edC vA):=by
 refine edit_fnM vA (rs:=[.tmp 2]) Try.func52 (by kernel_rfl) rfl rfl ?_
 intro l h bs ob q0 g0 hb hob
 unfold vA at hb
 split at hb
 ·rename_i v0
  injection hb with q1 q2 q3 q4;subst q1 q2 q3 q4
  obtain ⟨hk0_0,hk0_1,hob⟩:=hob
  obtain ⟨r,H⟩:=oE.1 hob
  rw [H,yQ]
  obtain ⟨p0,hp0⟩:∃ p0,p0=lA zU (roW h v0):=⟨_,rfl⟩
  rw [← hp0] at H
  obtain ⟨ev0,eb0⟩:=own_row2 (f:=zI) (g:=zU) (bs:=[slN v0]) (i:=0) (fun hr=>w_TFrame hr) hk0_0 hk0_1 (L:=p0) (by rw [hp0]) rfl
  refine ⟨[.sl 0 41 0 p0.length false],[.row 33 41 p0.length (enR zI p0)],rfl,⟨ev0,trivial⟩,⟨eb0,trivial⟩,⟨trivial,⟨(nfB_en xE),trivial⟩⟩,?_⟩
  rw [Try.ntmps52]
  simp only [lC,lN,Nat.reduceAdd,Nat.reduceSub,rS,rZ,aC,aN]
  unfold gY at H
  try dsimp only at H
  refine sq zA ?_
  simp only [go_sem]
  refine zK ?_
  refine sq zA ?_
  simp only [go_sem]
  repeat ((with_reducible refine aI ?_ ?_);exact an0)
  refine wN ?_
  refine xX (fun s:(List TFrame) × Int=>(.sl 1 41 0 s.1.length false::tp 4 (.int .i64 (p0.length:Nat)::.int .i64 s.2::tp 14 []))) (fun s=>[.dead,.row 33 41 s.1.length (enR zI s.1)]) (fun e:List TFrame=>(.sl 1 41 0 e.length false::tp 20 [])) (fun e=>[.dead,.row 33 41 e.length (enR zI e)]) H ?_ (fun s o H hn1_1 hn2_1=>?_) (fun w1_3 H=>?_)
  ·refine zT ⟨[some 0,some 0],?_,?_,by rfl,by rfl⟩
   ·simp [CvL,Cv,zX,tp]
   ·exact ⟨zD,zS xE cl (fun _ _ _ _=>rfl),trivial⟩
  ·obtain ⟨v1_1,v1_2⟩:=s
   unfold F52_0_L1 at H
   try dsimp only at H ⊢
   try simp only [tp]
   refine sq zA ?_
   simp only [go_sem]
   refine zK ?_
   refine condM' rfl trivial (fun hc=>?_) (fun hc=>?_)
   ·have hk1:(bLt v1_2 (p0.length:Nat))=false:=by simpa using hc
    replace H:=zZ hc H
    refine rg zA ?_
    simp only [go_sem]
    refine ⟨_,(Option.some.inj H).symm,?_⟩
    refine zT ⟨[some 0,some 1],?_,?_,by rfl,by rfl⟩
    ·simp [CvL,Cv,zX]
    ·exact ⟨zD,zS xE cl (fun _ _ _ _=>rfl),trivial⟩
   have hk1:(bLt v1_2 (p0.length:Nat))=true:=by simpa using hc
   replace H:=yA hc H
   refine rg zA ?_
   simp only [go_sem]
   refine zK ?_
   refine wN ?_
   refine sq zA ?_
   simp only [go_sem]
   obtain ⟨f2,H⟩:=nI H
   refine rg zA ?_
   simp only [go_sem,Nat.reduceLeDiff,Nat.reduceAdd,reduceCtorEq,f2]
   repeat ((with_reducible refine aI ?_ ?_);exact an0)
   refine rg zA ?_
   simp only [go_sem]
   refine ⟨_,(Option.some.inj H).symm,?_⟩
   refine zT ⟨[some 0,some 1],?_,?_,by rfl,by rfl⟩
   ·simp [CvL,Cv,zX]
   ·exact ⟨zD,zS xE cl (tD (f:=zI) v1_1 v1_2.toNat 7 (TFrame.mk (THeader.mk (((gd v1_1 v1_2.toNat).Head).Kind) (((gd v1_1 v1_2.toNat).Head).Sub) (((gd v1_1 v1_2.toNat).Head).ToDs) (((gd v1_1 v1_2.toNat).Head).FromDs) (((gd v1_1 v1_2.toNat).Head).More) (((gd v1_1 v1_2.toNat).Head).Retry) (((gd v1_1 v1_2.toNat).Head).Sleep) (bLt (wr .i64 (v1_2+1)) (v1_1.length:Nat)) (((gd v1_1 v1_2.toNat).Head).Protected) (((gd v1_1 v1_2.toNat).Head).Duration) (A6u8.mk ((((gd v1_1 v1_2.toNat).Head).A1).x0) ((((gd v1_1 v1_2.toNat).Head).A1).x1) ((((gd v1_1 v1_2.toNat).Head).A1).x2) ((((gd v1_1 v1_2.toNat).Head).A1).x3) ((((gd v1_1 v1_2.toNat).Head).A1).x4) ((((gd v1_1 v1_2.toNat).Head).A1).x5)) (A6u8.mk ((((gd v1_1 v1_2.toNat).Head).A2).x0) ((((gd v1_1 v1_2.toNat).Head).A2).x1) ((((gd v1_1 v1_2.toNat).Head).A2).x2) ((((gd v1_1 v1_2.toNat).Head).A2).x3) ((((gd v1_1 v1_2.toNat).Head).A2).x4) ((((gd v1_1 v1_2.toNat).Head).A2).x5)) (A6u8.mk ((((gd v1_1 v1_2.toNat).Head).A3).x0) ((((gd v1_1 v1_2.toNat).Head).A3).x1) ((((gd v1_1 v1_2.toNat).Head).A3).x2) ((((gd v1_1 v1_2.toNat).Head).A3).x3) ((((gd v1_1 v1_2.toNat).Head).A3).x4) ((((gd v1_1 v1_2.toNat).Head).A3).x5)) (A6u8.mk ((((gd v1_1 v1_2.toNat).Head).A4).x0) ((((gd v1_1 v1_2.toNat).Head).A4).x1) ((((gd v1_1 v1_2.toNat).Head).A4).x2) ((((gd v1_1 v1_2.toNat).Head).A4).x3) ((((gd v1_1 v1_2.toNat).Head).A4).x4) ((((gd v1_1 v1_2.toNat).Head).A4).x5)) (((gd v1_1 v1_2.toNat).Head).Seq) (((gd v1_1 v1_2.toNat).Head).Frag) (((gd v1_1 v1_2.toNat).Head).Tid) (((gd v1_1 v1_2.toNat).Head).Ack) (((gd v1_1 v1_2.toNat).Head).Amsdu) (((gd v1_1 v1_2.toNat).Head).Eosp)) ((gd v1_1 v1_2.toNat).Body)) (fun _ _ _ _=>rfl) (fun y hy=>match y,hy with|0,_=>rfl|1,_=>rfl|2,_=>rfl|3,_=>rfl|4,_=>rfl|5,_=>rfl|6,_=>rfl|7,_=>rfl|8,_=>rfl|9,_=>rfl|10,_=>rfl|11,_=>rfl|12,_=>rfl|13,_=>rfl|14,_=>rfl|15,_=>rfl|16,_=>rfl|17,_=>rfl|18,_=>rfl|19,_=>rfl|20,_=>rfl|21,_=>rfl|22,_=>rfl|23,_=>rfl|24,_=>rfl|25,_=>rfl|26,_=>rfl|27,_=>rfl|28,_=>rfl|29,_=>rfl|30,_=>rfl|31,_=>rfl|32,_=>rfl|33,_=>rfl|34,_=>rfl|35,_=>rfl|36,_=>rfl|37,_=>rfl|38,_=>rfl|39,_=>rfl|40,_=>rfl|(y+41),h=>absurd h nlt)),trivial⟩
  ·try dsimp only at H ⊢
   try simp only [tp]
   try simp only [xS]
   refine sq zA ?_
   simp only [go_sem]
   refine rg zA ?_
   simp only [go_sem]
   obtain rfl:=Option.some.inj H
   refine RetE_mk [] [some 0,some 1] ?_ ?_ ?_ ?_ (by rfl) (by rfl)
   ·simp only [go_sem]
    try exact at0
   ·simp only [go_sem]
    try exact at0
   ·simp only [go_sem]
    exact (by first|(simp [Cv,zX];done)|(simp [Cv,CvL,zX,yQ];omega))
   ·simp only [go_sem,CvH]
    first|exact ⟨zD,zS xE cl (fun _ _ _ _=>rfl)⟩|trivial
 ·cases hb
noncomputable def ct24t0:Ct:=tab [(18,yF wP)]
theorem ct24t0_ok:yZ Try.prog ct24t0:=zR ok18 <| zY
theorem ct24t0_18 (l:List AV) (h:List ABlk):ct24t0 18 l h=yF wP l h:=rfl
noncomputable def ct24t1:Ct:=tab [(81,yF uF)]
theorem ct24t1_ok:yZ Try.prog ct24t1:=zR ok81 <| zY
theorem ct24t1_81 (l:List AV) (h:List ABlk):ct24t1 81 l h=yF uF l h:=rfl
noncomputable def ct24t2 (gi:Nat):Ct:=tab [(65,xU (kT gi))]
theorem ct24t2_ok (gi:Nat):yZ Try.prog (ct24t2 gi):=zR (ok65f gi) <| zY
theorem ct24t2_65 (gi:Nat) (l:List AV) (h:List ABlk):(ct24t2 gi) 65 l h=xU (kT gi) l h:=rfl
noncomputable def ct24t3:Ct:=tab [(61,yF qF)]
theorem ct24t3_ok:yZ Try.prog ct24t3:=zR ok61 <| zY
theorem ct24t3_61 (l:List AV) (h:List ABlk):ct24t3 61 l h=yF qF l h:=rfl
noncomputable def ct24t4:Ct:=tab [(62,yF dD)]
theorem ct24t4_ok:yZ Try.prog ct24t4:=zR ok62 <| zY
theorem ct24t4_62 (l:List AV) (h:List ABlk):ct24t4 62 l h=yF dD l h:=rfl
noncomputable def ct24t5:Ct:=tab [(63,edC qG)]
theorem ct24t5_ok:yZ Try.prog ct24t5:=zR ok63 <| zY
theorem ct24t5_63 (l:List AV) (h:List ABlk):ct24t5 63 l h=edC qG l h:=rfl
noncomputable def ct24t6:Ct:=tab [(90,yF dE)]
theorem ct24t6_ok:yZ Try.prog ct24t6:=zR ok90 <| zY
theorem ct24t6_90 (l:List AV) (h:List ABlk):ct24t6 90 l h=yF dE l h:=rfl
noncomputable def ct24t7:Ct:=tab [(58,yF qQ)]
theorem ct24t7_ok:yZ Try.prog ct24t7:=zR ok58_0 <| zY
theorem ct24t7_58 (l:List AV) (h:List ABlk):ct24t7 58 l h=yF qQ l h:=rfl
noncomputable def ct24t8:Ct:=tab [(60,delN 61 43)]
theorem ct24t8_ok:yZ Try.prog ct24t8:=zR ok60 <| zY
theorem ct24t8_60 (l:List AV) (h:List ABlk):ct24t8 60 l h=delN 61 43 l h:=rfl
noncomputable def ct24t9:Ct:=tab [(52,edC vA)]
theorem ct24t9_ok:yZ Try.prog ct24t9:=zR ok52_0 <| zY
theorem ct24t9_52 (l:List AV) (h:List ABlk):ct24t9 52 l h=edC vA l h:=rfl
noncomputable def F24_L1 (r5:Int × Bool) (r8:TBuffer) (v1_1:Int) (v1_2:TStored):Option (Lp (Int × TStored) ((TStored) ⊕ ((List TFrame) × (List TFrame) × TBuffer × Int))) :=
 bif (bLt v1_1 (((gd r8.List r5.1.toNat).Held).length:Nat)) then (need (inb v1_1 (((gd r8.List r5.1.toNat).Held).length)) <| (F90 (TStored.mk ((gd ((gd r8.List r5.1.toNat).Held) v1_1.toNat).Cat) ((gd ((gd r8.List r5.1.toNat).Held) v1_1.toNat).At) (eF ((gd ((gd r8.List r5.1.toNat).Held) v1_1.toNat).Frame))) v1_2).bind fun r24=>bif (bLt r24 0) then (need (inb v1_1 (((gd r8.List r5.1.toNat).Held).length)) <| some (.next (wr .i64 (v1_1+1),(TStored.mk ((gd ((gd r8.List r5.1.toNat).Held) v1_1.toNat).Cat) ((gd ((gd r8.List r5.1.toNat).Held) v1_1.toNat).At) (eF ((gd ((gd r8.List r5.1.toNat).Held) v1_1.toNat).Frame)))))) else (some (.next (wr .i64 (v1_1+1),v1_2)))) else (some (.done (.inl v1_2)))
noncomputable def F24 (p0:TBuffer) (p1:Int) (p2:Int) (p3:TFrame) (p4:Int):Option ((List TFrame) × (List TFrame) × TBuffer × Int) :=
 (F18 p0).bind fun r1=>bif (!bEq r1 0) then (some ([],[],(TBuffer.mk 0 0 [] []),r1)) else (bif ((bLt p1 1) || (bLt 255 p1)) then (some ([],[],(TBuffer.mk 0 0 [] []),2)) else ((F81 p0 p1).bind fun r5=>bif (!r5.2) then (some ([],[],(TBuffer.mk 0 0 [] []),6)) else ((cH r5.1.toNat p0).bind fun r8=>need (inb r5.1 r8.List.length) <| need (bif (!(bLt 3 p2)) then ((F61 p4).isSome) else true) <| bif ((bLt 3 p2) || (!(gt (F61 p4)))) then (some ([],[],(TBuffer.mk 0 0 [] []),2)) else ((F62 ((gd r8.List r5.1.toNat).Held) p4).bind fun r13=>bif r13 then (some ([],[],(TBuffer.mk 0 0 [] []),20)) else ((F63 p3).bind fun r16=>bif (gd r8.List r5.1.toNat).Asleep then (bif (bEq (((gd r8.List r5.1.toNat).Held).length:Nat) r8.Limit) then (bif (bLt (((gd r8.List r5.1.toNat).Held).length:Nat) 1) then (none) else (need (inb 0 (((gd r8.List r5.1.toNat).Held).length)) <| lp (xC (fun s=>F24_L1 r5 r8 s.1 s.2) (1,(TStored.mk ((gd ((gd r8.List r5.1.toNat).Held) 0).Cat) ((gd ((gd r8.List r5.1.toNat).Held) 0).At) (eF ((gd ((gd r8.List r5.1.toNat).Held) 0).Frame))))) (fun w1_6=>bif (bLt p2 w1_6.Cat) then ((some (r8.List.set r5.1.toNat (TSleeper.mk ((gd r8.List r5.1.toNat).Aid) ((gd r8.List r5.1.toNat).Asleep) ((gd r8.List r5.1.toNat).Held)))).bind fun w29=>(some [r16]).bind fun w31=>some ([],w31,(TBuffer.mk r8.Limit r8.Stay w29 r8.Group),0)) else ((F58_0 ((gd r8.List r5.1.toNat).Held) w1_6.Cat).bind fun r33=>need (inb r33 (((gd r8.List r5.1.toNat).Held).length)) <| need (delb r33 (wr .i64 (r33+1)) (((gd r8.List r5.1.toNat).Held).length)) <| (some [(eF ((gd ((gd r8.List r5.1.toNat).Held) r33.toNat).Frame))]).bind fun w37=>(some (kH ((gd r8.List r5.1.toNat).Held) r33 (wr .i64 (r33+1)))).bind fun w39=>need (capb 120 (w39.length+1)) <| (some [(TStored.mk p2 p4 (eF r16))]).bind fun w42=>(some (w39 ++ [(TStored.mk p2 p4 (eF r16))])).bind fun w44=>(some (r8.List.set r5.1.toNat (TSleeper.mk ((gd r8.List r5.1.toNat).Aid) ((gd r8.List r5.1.toNat).Asleep) w44))).bind fun w46=>some ([],w37,(TBuffer.mk r8.Limit r8.Stay w46 r8.Group),0))) some)) else (need (capb 120 (((gd r8.List r5.1.toNat).Held).length+1)) <| (some [(TStored.mk p2 p4 (eF r16))]).bind fun w49=>(some ((gd r8.List r5.1.toNat).Held ++ [(TStored.mk p2 p4 (eF r16))])).bind fun w51=>(some (r8.List.set r5.1.toNat (TSleeper.mk ((gd r8.List r5.1.toNat).Aid) ((gd r8.List r5.1.toNat).Asleep) w51))).bind fun w53=>some ([],[],(TBuffer.mk r8.Limit r8.Stay w53 r8.Group),0))) else ((gY [r16]).bind fun r55=>(some (r8.List.set r5.1.toNat (TSleeper.mk ((gd r8.List r5.1.toNat).Aid) ((gd r8.List r5.1.toNat).Asleep) ((gd r8.List r5.1.toNat).Held)))).bind fun w57=>some (r55,[],(TBuffer.mk r8.Limit r8.Stay w57 r8.Group),0)))))))
noncomputable def jI:List AV->Nat->AR
 | [v0,v1,v2,v3,v4],_=>.pure (aK 4 wC v0/\iK .i64 v1/\iK .u8 v2/\aK 41 vT v3/\iK .i64 v4/\(F24 (zG (aL v0)) (iA v1) (iA v2) (zU (aL v3)) (iA v4)).isSome=true) (.tup [.ro 41 (((gt (F24 (zG (aL v0)) (iA v1) (iA v2) (zU (aL v3)) (iA v4))).1).length) false (enR zI ((gt (F24 (zG (aL v0)) (iA v1) (iA v2) (zU (aL v3)) (iA v4))).1)),.ro 41 (((gt (F24 (zG (aL v0)) (iA v1) (iA v2) (zU (aL v3)) (iA v4))).2.1).length) false (enR zI ((gt (F24 (zG (aL v0)) (iA v1) (iA v2) (zU (aL v3)) (iA v4))).2.1)),.agg [.int .i64 (((gt (F24 (zG (aL v0)) (iA v1) (iA v2) (zU (aL v3)) (iA v4))).2.2.1).Limit),.int .i64 (((gt (F24 (zG (aL v0)) (iA v1) (iA v2) (zU (aL v3)) (iA v4))).2.2.1).Stay),.ro 3 ((((gt (F24 (zG (aL v0)) (iA v1) (iA v2) (zU (aL v3)) (iA v4))).2.2.1).List).length) false (enR zC (((gt (F24 (zG (aL v0)) (iA v1) (iA v2) (zU (aL v3)) (iA v4))).2.2.1).List)),.ro 43 ((((gt (F24 (zG (aL v0)) (iA v1) (iA v2) (zU (aL v3)) (iA v4))).2.2.1).Group).length) false (enR zE (((gt (F24 (zG (aL v0)) (iA v1) (iA v2) (zU (aL v3)) (iA v4))).2.2.1).Group))],.int .i64 ((gt (F24 (zG (aL v0)) (iA v1) (iA v2) (zU (aL v3)) (iA v4))).2.2.2)])
 | _,_=>.fail
theorem ok24:wM Try.prog 24 (xU jI):=by
 refine uZ jI (rs:=[.tmp 10,.tmp 11,.cell 12 25,.tmp 13]) Try.func24 (by kernel_rfl) rfl rfl ?_
 intro l s ob v ns hb hob
 rcases hb with ⟨hb,rfl⟩|hb
 ·unfold jI at hb
  split at hb
  ·rename_i v0 v1 v2 v3 v4
   injection hb with q1 q2;subst q1 q2
   obtain ⟨hk0_0,hk1_0,hk2_0,hk3_0,hk4_0,hob⟩:=hob
   obtain ⟨r,H⟩:=oE.1 hob
   rw [H,yQ]
   have hw0:=wU hk0_0
   have hw1:=yI hk1_0
   have hw2:=yI hk2_0
   have hw3:=gC hk3_0
   have hw4:=yI hk4_0
   generalize zG (aL v0)=p0 at H hw0
   generalize iA v1=p1 at H hw1
   generalize iA v2=p2 at H hw2
   generalize zU (aL v3)=p3 at H hw3
   generalize iA v4=p4 at H hw4
   refine ⟨[.agg [.int .i64 p0.Limit,.int .i64 p0.Stay,.ro 3 p0.List.length false (enR zC p0.List),.ro 43 p0.Group.length false (enR zE p0.Group)],.int .i64 p1,.int .u8 p2,.agg (.int .u8 p3.Head.Kind::.int .u8 p3.Head.Sub::.bool p3.Head.ToDs::.bool p3.Head.FromDs::.bool p3.Head.More::.bool p3.Head.Retry::.bool p3.Head.Sleep::.bool p3.Head.MoreData::.bool p3.Head.Protected::.int .i64 p3.Head.Duration::.int .u8 p3.Head.A1.x0::.int .u8 p3.Head.A1.x1::.int .u8 p3.Head.A1.x2::.int .u8 p3.Head.A1.x3::.int .u8 p3.Head.A1.x4::.int .u8 p3.Head.A1.x5::.int .u8 p3.Head.A2.x0::.int .u8 p3.Head.A2.x1::.int .u8 p3.Head.A2.x2::.int .u8 p3.Head.A2.x3::.int .u8 p3.Head.A2.x4::.int .u8 p3.Head.A2.x5::.int .u8 p3.Head.A3.x0::.int .u8 p3.Head.A3.x1::.int .u8 p3.Head.A3.x2::.int .u8 p3.Head.A3.x3::.int .u8 p3.Head.A3.x4::.int .u8 p3.Head.A3.x5::.int .u8 p3.Head.A4.x0::.int .u8 p3.Head.A4.x1::.int .u8 p3.Head.A4.x2::.int .u8 p3.Head.A4.x3::.int .u8 p3.Head.A4.x4::.int .u8 p3.Head.A4.x5::.int .i64 p3.Head.Seq::.int .i64 p3.Head.Frag::.int .i64 p3.Head.Tid::.int .u8 p3.Head.Ack::.bool p3.Head.Amsdu::.bool p3.Head.Eosp::.ro 1 p3.Body.length false (enR xM p3.Body)::[]),.int .i64 p4],.tup [.ro 41 r.1.length false (enR zI r.1),.ro 41 r.2.1.length false (enR zI r.2.1),.agg [.int .i64 r.2.2.1.Limit,.int .i64 r.2.2.1.Stay,.ro 3 r.2.2.1.List.length false (enR zC r.2.2.1.List),.ro 43 r.2.2.1.Group.length false (enR zE r.2.2.1.Group)],.int .i64 r.2.2.2],[],(fun E vs F=>yO hw0.1 F (fun vs F=>yO hw1.1 F (fun vs F=>yO hw2.1 F (fun vs F=>yO hw3.1 F (fun vs F=>yO hw4.1 F (fun vs F=>F)))))),by simp only [ren,uS],trivial,?_⟩
   rw [Try.ntmps24]
   simp only [lC,lN,Nat.reduceAdd,Nat.reduceSub,rS,rZ,aC,aN]
   unfold F24 at H
   delta eF at H
   try dsimp only at H
   refine sq zA ?_
   simp only [go_sem,Nat.reduceAdd]
   refine zK ?_
   refine qZ ?_
   refine xQ zQ zA 2 ?_
   simp only [zM,tS,tZ,dS,dZ,go_sem,Nat.reduceLT,Nat.reduceAdd]
   repeat ((with_reducible refine aI ?_ ?_);exact an0)
   refine gX (rs:=[.tmp 4,.tmp 5,.tmp 6]) Try.func51 (by kernel_rfl) rfl rfl Try.ntmps51 (caps:=[]) (tc:=[.agg [.int .i64 p0.Limit,.int .i64 p0.Stay,.ro 3 p0.List.length false (enR zC p0.List),.ro 43 p0.Group.length false (enR zE p0.Group)],.int .i64 p1]) rfl (by simp only [go_sem]) rfl ?_
   simp only [lC,lN,Nat.reduceAdd,Nat.reduceSub,rS,rZ,aC,aN]
   refine sq zA ?_
   simp only [go_sem,Nat.reduceAdd]
   refine zK ?_
   refine zK ?_
   obtain ⟨r1,e2,H⟩:=bsi H
   refine rg ct24t0_ok ?_
   simp only [go_sem,Nat.reduceLT,Nat.reduceAdd,ct24t0_18,wP,e2]
   repeat ((with_reducible refine aI ?_ ?_);exact an0)
   refine sq zA ?_
   simp only [go_sem]
   refine yM rfl trivial (fun hc=>?_) (fun hc=>?_)
   ·have hk3:(bEq r1 0)=false:=by simpa using hc
    replace H:=yA hc H
    refine sq zA ?_
    simp only [go_sem]
    refine rg zA ?_
    simp only [go_sem]
    refine xQ zQ zA 7 ?_
    simp only [zM,tS,tZ,dS,dZ,go_sem,Nat.reduceLT,Nat.reduceAdd]
    repeat ((with_reducible refine aI ?_ ?_);exact an0)
    refine wS ?_
    refine zK ?_
    refine wN ?_
    refine sq zA ?_
    simp only [go_sem]
    refine yM rfl trivial (fun hc=>?_) (fun hc=>?_)
    rotate_left
    ·simp [hk3] at hc
    refine sq zA ?_
    simp only [go_sem,Nat.reduceAdd]
    repeat ((with_reducible refine aI ?_ ?_);exact an5)
    refine rg zA ?_
    simp only [go_sem,Nat.reduceLT,Nat.reduceAdd]
    obtain rfl:=Option.some.inj H
    refine ⟨[0,1,2,3],?_,?_,[],?_,?_,rfl⟩
    ·simp only [go_sem]
     try exact at0
    ·simp only [go_sem]
     try exact at0
    ·simp only [go_sem]
     exact yY (zB (zJ (α:=TFrame)) (zB (zJ (α:=TFrame)) (zB (yV (zB zF (zB zF (zB (zJ (α:=TSleeper)) (zB (zJ (α:=TStored)) zO))))) (zB zF zO))))
    ·simp only [go_sem,CvH]
   have hk3:(bEq r1 0)=true:=by simpa using hc
   replace H:=zZ hc H
   refine rg zA ?_
   simp only [go_sem]
   refine zK ?_
   refine sq zA ?_
   simp only [go_sem]
   repeat ((with_reducible refine aI ?_ ?_);exact an5)
   refine yM rfl trivial (fun hc=>?_) (fun hc=>?_)
   ·have hk4:((bLt p1 1) || (bLt 255 p1))=true:=by simpa using hc
    replace H:=yA hc H
    refine sq zA ?_
    simp only [go_sem]
    refine rg zA ?_
    simp only [go_sem]
    refine xQ zQ zA 7 ?_
    simp only [zM,tS,tZ,dS,dZ,go_sem,Nat.reduceLT,Nat.reduceAdd]
    repeat ((with_reducible refine aI ?_ ?_);exact an0)
    refine wS ?_
    refine zK ?_
    refine wN ?_
    refine sq zA ?_
    simp only [go_sem,(by decide:bEq (2) (0)=false)]
    refine yM rfl trivial (fun hc=>?_) (fun hc=>?_)
    rotate_left
    ·cases hc
    refine sq zA ?_
    simp only [go_sem,Nat.reduceAdd]
    repeat ((with_reducible refine aI ?_ ?_);exact an5)
    refine rg zA ?_
    simp only [go_sem,Nat.reduceLT,Nat.reduceAdd]
    obtain rfl:=Option.some.inj H
    refine ⟨[0,1,2,3],?_,?_,[],?_,?_,rfl⟩
    ·simp only [go_sem]
     try exact at0
    ·simp only [go_sem]
     try exact at0
    ·simp only [go_sem]
     exact yY (zB (zJ (α:=TFrame)) (zB (zJ (α:=TFrame)) (zB (yV (zB zF (zB zF (zB (zJ (α:=TSleeper)) (zB (zJ (α:=TStored)) zO))))) (zB zF zO))))
    ·simp only [go_sem,CvH]
   have hk4:((bLt p1 1) || (bLt 255 p1))=false:=by simpa using hc
   replace H:=zZ hc H
   refine rg zA ?_
   simp only [go_sem]
   refine zK ?_
   obtain ⟨r5,e6,H⟩:=bsi H
   refine rg ct24t1_ok ?_
   simp only [go_sem,Nat.reduceLT,Nat.reduceAdd,ct24t1_81,uF,e6]
   repeat ((with_reducible refine aI ?_ ?_);exact an0)
   refine zK ?_
   refine sq zA ?_
   simp only [go_sem]
   refine yM rfl trivial (fun hc=>?_) (fun hc=>?_)
   ·have hk7:(r5.2)=false:=by simpa using hc
    replace H:=yA hc H
    refine sq zA ?_
    simp only [go_sem]
    refine rg zA ?_
    simp only [go_sem]
    refine xQ zQ zA 7 ?_
    simp only [zM,tS,tZ,dS,dZ,go_sem,Nat.reduceLT,Nat.reduceAdd]
    repeat ((with_reducible refine aI ?_ ?_);exact an0)
    refine wS ?_
    refine zK ?_
    refine wN ?_
    refine sq zA ?_
    simp only [go_sem,(by decide:bEq (6) (0)=false)]
    refine yM rfl trivial (fun hc=>?_) (fun hc=>?_)
    rotate_left
    ·cases hc
    refine sq zA ?_
    simp only [go_sem,Nat.reduceAdd]
    repeat ((with_reducible refine aI ?_ ?_);exact an5)
    refine rg zA ?_
    simp only [go_sem,Nat.reduceLT,Nat.reduceAdd]
    obtain rfl:=Option.some.inj H
    refine ⟨[0,1,2,3],?_,?_,[],?_,?_,rfl⟩
    ·simp only [go_sem]
     try exact at0
    ·simp only [go_sem]
     try exact at0
    ·simp only [go_sem]
     exact yY (zB (zJ (α:=TFrame)) (zB (zJ (α:=TFrame)) (zB (yV (zB zF (zB zF (zB (zJ (α:=TSleeper)) (zB (zJ (α:=TStored)) zO))))) (zB zF zO))))
    ·simp only [go_sem,CvH]
   have hk7:(r5.2)=true:=by simpa using hc
   replace H:=zZ hc H
   refine rg zA ?_
   simp only [go_sem]
   refine zK ?_
   obtain ⟨r8,e9,H⟩:=bsi H
   refine rg (ct24t2_ok r5.1.toNat) ?_
   simp only [go_sem,Nat.reduceLT,Nat.reduceAdd,ct24t2_65,kT,e9]
   repeat ((with_reducible refine aI ?_ ?_);exact an0)
   refine zK ?_
   obtain ⟨f10,H⟩:=nI H
   refine vS zQ zA (by kernel_rfl) (by kernel_rfl) ?_
   simp only [go_sem,Nat.reduceLeDiff,Nat.reduceLT,Nat.reduceAdd,f10]
   repeat ((with_reducible refine aI ?_ ?_);exact an5)
   refine rg zA ?_
   simp only [go_sem]
   refine xQ zQ zA 7 ?_
   simp only [zM,tS,tZ,dS,dZ,go_sem,Nat.reduceLT,Nat.reduceAdd]
   repeat ((with_reducible refine aI ?_ ?_);exact an0)
   refine wS ?_
   refine zK ?_
   refine wN ?_
   refine sq zA ?_
   simp only [go_sem,(by decide:bEq (0) (0)=true)]
   refine yM rfl trivial (fun hc=>?_) (fun hc=>?_)
   ·cases hc
   refine zK ?_
   obtain ⟨f11,H⟩:=yT.1 H
   replace f11:=tU.1 f11
   refine rg ct24t3_ok ?_
   simp only [go_sem,ct24t3_61,qF]
   repeat ((with_reducible refine And.intro ?_ ?_);focus (first|(with_reducible trivial)|omega|exact f11|(intro g;have q:=f11 (by first|exact g|(rw [g];rfl)|simpa using g);first|exact q|exact ⟨q.1,q.2.1⟩|exact q.2.2|omega|exact ⟨g,q⟩|exact ⟨trivial,q⟩|exact ⟨g,q.1,q.2.1⟩|exact ⟨g,q.2.2⟩)|(intro g;(try have q0:=f11 (by first|exact g|(rw [g];rfl)|simpa using g));and_intros<;>first|(with_reducible trivial)|assumption|exact nfc|(intro g2;rw [g,g2];rfl)|(intro g2;assumption)|(simp only [g,Bool.true_and,Bool.and_true,Bool.not_false,Bool.not_true];assumption)|grind)|(and_intros<;>first|(with_reducible trivial)|omega|assumption|exact nfc|first|exact rfl|exact trivial|exact qV|exact .inr rfl|exact .inl rfl|exact fun x hx=>absurd hx (by omega))|grind))
   refine yM rfl trivial (fun hc=>?_) (fun hc=>?_)
   ·have hk12:((bLt 3 p2) || (!(gt (F61 p4))))=true:=by simpa using hc
    replace H:=yA hc H
    refine sq zA ?_
    simp only [go_sem,Nat.reduceAdd]
    repeat ((with_reducible refine aI ?_ ?_);exact an5)
    refine rg zA ?_
    simp only [go_sem,Nat.reduceLT,Nat.reduceAdd]
    obtain rfl:=Option.some.inj H
    refine ⟨[0,1,2,3],?_,?_,[],?_,?_,rfl⟩
    ·simp only [go_sem]
     try exact at0
    ·simp only [go_sem,Nat.reduceBEq]
     try exact at0
    ·simp only [go_sem]
     exact yY (zB (zJ (α:=TFrame)) (zB (zJ (α:=TFrame)) (zB (yV (zB zF (zB zF (zB (zJ (α:=TSleeper)) (zB (zJ (α:=TStored)) zO))))) (zB zF zO))))
    ·simp only [go_sem,CvH]
   have hk12:((bLt 3 p2) || (!(gt (F61 p4))))=false:=by simpa using hc
   replace H:=zZ hc H
   refine zK ?_
   obtain ⟨r13,e14,H⟩:=bsi H
   refine rg ct24t4_ok ?_
   simp only [go_sem,Nat.reduceLT,Nat.reduceAdd,Nat.reduceSub,yH,ct24t4_62,dD,e14]
   repeat ((with_reducible refine aI ?_ ?_);exact an0)
   refine yM rfl trivial (fun hc=>?_) (fun hc=>?_)
   ·have hk15:(r13)=true:=by simpa using hc
    replace H:=yA hc H
    refine sq zA ?_
    simp only [go_sem,Nat.reduceAdd]
    repeat ((with_reducible refine aI ?_ ?_);exact an5)
    refine rg zA ?_
    simp only [go_sem,Nat.reduceLT,Nat.reduceAdd]
    obtain rfl:=Option.some.inj H
    refine ⟨[0,1,2,3],?_,?_,[],?_,?_,rfl⟩
    ·simp only [go_sem]
     try exact at0
    ·simp only [go_sem,Nat.reduceBEq]
     try exact at0
    ·simp only [go_sem]
     exact yY (zB (zJ (α:=TFrame)) (zB (zJ (α:=TFrame)) (zB (yV (zB zF (zB zF (zB (zJ (α:=TSleeper)) (zB (zJ (α:=TStored)) zO))))) (zB zF zO))))
    ·simp only [go_sem,CvH]
   have hk15:(r13)=false:=by simpa using hc
   replace H:=zZ hc H
   refine rg zA ?_
   simp only [go_sem]
   refine zK ?_
   obtain ⟨r16,e17,H⟩:=bsi H
   refine rg ct24t5_ok ?_
   simp only [go_sem,Nat.reduceLT,Nat.reduceAdd,ct24t5_63,qG,e17]
   repeat ((with_reducible refine aI ?_ ?_);exact an0)
   refine zK ?_
   refine sq zA ?_
   simp only [go_sem,Nat.reduceLeDiff,Nat.reduceLT,Nat.reduceAdd,Nat.reduceSub,yH]
   repeat ((with_reducible refine aI ?_ ?_);exact an5)
   refine condM' rfl trivial (fun hc=>?_) (fun hc=>?_)
   ·have hk18:((gd r8.List r5.1.toNat).Asleep)=false:=by simpa using hc
    replace H:=zZ hc H
    refine qZ ?_
    refine xQ zQ zA 1 ?_
    simp only [zM,tS,tZ,dS,dZ,go_sem,Nat.reduceLT,Nat.reduceAdd]
    repeat ((with_reducible refine aI ?_ ?_);exact an3)
    refine fzO [7] ?_ ?_
    ·simp only [go_sem,Nat.reduceBEq]
     try exact at0
    simp only [go_sem,Nat.reduceBEq,Nat.reduceAdd]
    obtain ⟨r55,e56,H⟩:=bsi H
    refine xQ zQ ct24t9_ok 3 ?_
    simp only [zM,tS,tZ,dS,dZ,go_sem,Nat.reduceLeDiff,Nat.reduceAdd,ct24t9_52,vA,e56]
    repeat ((with_reducible refine aI ?_ ?_);exact an3)
    refine wS ?_
    refine zK ?_
    refine yL zQ zA 0 (by kernel_rfl) (by kernel_rfl) ?_
    intro an han
    simp only [wK,xR,vL,xrD,xoD,vM,wY,List.append_nil,xA,refs,mask,xZ,place,xI,wA,xK,hit,inL,xD,nrH,nrB,nrL,nr,rZ,Nat.sub_self,Nat.add_zero,Nat.zero_add,Nat.reduceSub,Nat.lt_add_one,go_sem,Nat.reduceLeDiff,Nat.reduceLT,Nat.reduceAdd,Nat.reduceSub,Nat.reduceBEq]
    repeat ((with_reducible refine aI ?_ ?_);exact an4)
    refine cN [5] [4] ?_ ?_
    ·simp only [go_sem,Nat.reduceBEq,Nat.reduceAdd,kV,fzObB2]
     first|exact (fT (L:=r8.List) (i:=r5.1.toNat) (fun a y=>yB (zH a) y) (fun x y hx=>by simp only [xG hx]) (fun y hy=>match y,hy with|0,_=>(by (simp [yH,zL,xP,inL,geth,vW,enR,zC];all_goals (first|(with_reducible trivial)|(intros;exact yB (NRf.h _) _)|(intros;exact nfc))))|1,_=>(by (simp [yH,zL,xP,inL,geth,vW,enR,zC];all_goals (first|(with_reducible trivial)|(intros;exact yB (NRf.h _) _)|(intros;exact nfc))))|2,_=>(by (simp [yH,zL,xP,inL,geth,vW,enR,zC];all_goals (first|(with_reducible trivial)|(intros;exact yB (NRf.h _) _)|(intros;exact nfc))))|(y+3),h=>absurd h nlt))|(and_intros<;>first|exact (fT (L:=r8.List) (i:=r5.1.toNat) (fun a y=>yB (zH a) y) (fun x y hx=>by simp only [xG hx]) (fun y hy=>match y,hy with|0,_=>(by (simp [yH,zL,xP,enR,zC];all_goals (first|(with_reducible trivial)|(intros;exact yB (NRf.h _) _)|(intros;exact nfc))))|1,_=>(by (simp [yH,zL,xP,enR,zC];all_goals (first|(with_reducible trivial)|(intros;exact yB (NRf.h _) _)|(intros;exact nfc))))|2,_=>(by (simp [yH,zL,xP,inL,geth,vW,enR,zC];all_goals (first|(with_reducible trivial)|(intros;exact yB (NRf.h _) _)|(intros;exact nfc))))|(y+3),h=>absurd h nlt))|(with_reducible trivial)|omega|exact nfc|trivial)
    simp only [go_sem,Nat.reduceBEq,Nat.reduceAdd,fzH2,eN,fzB2]
    obtain ⟨w57,hw58,H⟩:=bsj H
    have lhw58:w57.length=r8.List.length:=by rw [← hw58];exact (by simp only [List.length_set])
    refine vO (t2:=(tp 10 (.sl 9 41 0 r55.length false::.ro 0 0 true (fun _ _=>.top)::.ptr 2 0 0 0::.int .i64 0::tp 57 []))) (h2:=[.lit 25 [.int .i64 p0.Limit,.int .i64 p0.Stay,.ro 3 p0.List.length false (enR zC p0.List),.ro 43 p0.Group.length false (enR zE p0.Group)],.lit 33 (.int .u8 r16.Head.Kind::.int .u8 r16.Head.Sub::.bool r16.Head.ToDs::.bool r16.Head.FromDs::.bool r16.Head.More::.bool r16.Head.Retry::.bool r16.Head.Sleep::.bool r16.Head.MoreData::.bool r16.Head.Protected::.int .i64 r16.Head.Duration::.int .u8 r16.Head.A1.x0::.int .u8 r16.Head.A1.x1::.int .u8 r16.Head.A1.x2::.int .u8 r16.Head.A1.x3::.int .u8 r16.Head.A1.x4::.int .u8 r16.Head.A1.x5::.int .u8 r16.Head.A2.x0::.int .u8 r16.Head.A2.x1::.int .u8 r16.Head.A2.x2::.int .u8 r16.Head.A2.x3::.int .u8 r16.Head.A2.x4::.int .u8 r16.Head.A2.x5::.int .u8 r16.Head.A3.x0::.int .u8 r16.Head.A3.x1::.int .u8 r16.Head.A3.x2::.int .u8 r16.Head.A3.x3::.int .u8 r16.Head.A3.x4::.int .u8 r16.Head.A3.x5::.int .u8 r16.Head.A4.x0::.int .u8 r16.Head.A4.x1::.int .u8 r16.Head.A4.x2::.int .u8 r16.Head.A4.x3::.int .u8 r16.Head.A4.x4::.int .u8 r16.Head.A4.x5::.int .i64 r16.Head.Seq::.int .i64 r16.Head.Frag::.int .i64 r16.Head.Tid::.int .u8 r16.Head.Ack::.bool r16.Head.Amsdu::.bool r16.Head.Eosp::.ro 1 r16.Body.length false (enR xM r16.Body)::[]),.lit 25 [.int .i64 r8.Limit,.int .i64 r8.Stay,.sl 4 3 0 w57.length false,.sl 6 43 0 r8.Group.length false],.lit 25 [.int .i64 r8.Limit,.int .i64 r8.Stay,.sl 4 3 0 w57.length false,.sl 6 43 0 r8.Group.length false],.row 57 3 w57.length (enR zC w57),.dead,.row 61 43 r8.Group.length (enR zE r8.Group),.dead,.dead,.row 33 41 r55.length (enR zI r55)]) ?_ ?_
    ·refine zT ⟨[some 0,some 1,some 2,some 3,some 4,some 5,some 6,some 7,some 8,some 9],?_,?_,by rfl,by rfl⟩
     ·simp [CvL,Cv,zX,tp]
     ·exact ⟨(by simp [CvB,CvL,Cv,xH,geth]),(by simp [CvB,CvL,Cv,xH,geth]),(by simp [CvB,CvL,Cv,xH,geth,zX,lhw58]),(by simp [CvB,CvL,Cv,xH,geth,zX,lhw58]),zS zH lhw58 (hw58 ▸ (foc_row (L:=r8.List) (i:=r5.1.toNat) (fun a y=>yB (zH a) y) (fun x y hx=>by simp only [xG hx]) (fun y hy=>match y,hy with|0,_=>by simp [yH,zL,fzV,enR,zC]|1,_=>by simp [yH,zL,fzV,enR,zC]|2,_=>by simp [yH,zL,fzV,inL,geth,enR,zC,eV]|(y+3),h=>absurd h nlt))),zD,zS zV rfl (fun _ _ _ _=>rfl),zD,zD,zS xE rfl (fun _ _ _ _=>rfl),trivial⟩
    simp only [tp]
    refine rg zA ?_
    simp only [go_sem,Nat.reduceLT,Nat.reduceAdd]
    obtain rfl:=Option.some.inj H
    refine ⟨[9,4,6,0,1,2,3],?_,?_,[],?_,?_,rfl⟩
    ·simp only [go_sem,Nat.reduceBEq]
     try exact at0
    ·simp only [go_sem,Nat.reduceBEq]
     try exact at0
    ·simp only [go_sem,Nat.reduceBEq]
     exact yY (zB (xN (by first|rfl|simp) (fun _ _ _ _=>rfl)) (zB (zJ (α:=TFrame)) (zB (yV (zB zF (zB zF (zB (xN (by first|rfl|simp) (fun _ _ _ _=>rfl)) (zB (xN (by first|rfl|simp) (fun _ _ _ _=>rfl)) zO))))) (zB zF zO))))
    ·simp only [go_sem,CvH]
   have hk18:((gd r8.List r5.1.toNat).Asleep)=true:=by simpa using hc
   replace H:=yA hc H
   refine draw_tail zQ zA 11 (by kernel_rfl) (by kernel_rfl) (by kernel_rfl) ?_
   simp only [zM,tS,tZ,dS,dZ,go_sem,Nat.reduceLeDiff,Nat.reduceLT,Nat.reduceAdd]
   repeat ((with_reducible refine aI ?_ ?_);exact an0)
   refine gX (rs:=[.tmp 6]) Try.func64 (by kernel_rfl) rfl rfl Try.ntmps64 (caps:=[]) (tc:=[.ptr 4 3 r5.1.toNat 2,.int .i64 r8.Limit,.agg (.int .u8 p2::.int .i64 p4::.int .u8 r16.Head.Kind::.int .u8 r16.Head.Sub::.bool r16.Head.ToDs::.bool r16.Head.FromDs::.bool r16.Head.More::.bool r16.Head.Retry::.bool r16.Head.Sleep::.bool r16.Head.MoreData::.bool r16.Head.Protected::.int .i64 r16.Head.Duration::.int .u8 r16.Head.A1.x0::.int .u8 r16.Head.A1.x1::.int .u8 r16.Head.A1.x2::.int .u8 r16.Head.A1.x3::.int .u8 r16.Head.A1.x4::.int .u8 r16.Head.A1.x5::.int .u8 r16.Head.A2.x0::.int .u8 r16.Head.A2.x1::.int .u8 r16.Head.A2.x2::.int .u8 r16.Head.A2.x3::.int .u8 r16.Head.A2.x4::.int .u8 r16.Head.A2.x5::.int .u8 r16.Head.A3.x0::.int .u8 r16.Head.A3.x1::.int .u8 r16.Head.A3.x2::.int .u8 r16.Head.A3.x3::.int .u8 r16.Head.A3.x4::.int .u8 r16.Head.A3.x5::.int .u8 r16.Head.A4.x0::.int .u8 r16.Head.A4.x1::.int .u8 r16.Head.A4.x2::.int .u8 r16.Head.A4.x3::.int .u8 r16.Head.A4.x4::.int .u8 r16.Head.A4.x5::.int .i64 r16.Head.Seq::.int .i64 r16.Head.Frag::.int .i64 r16.Head.Tid::.int .u8 r16.Head.Ack::.bool r16.Head.Amsdu::.bool r16.Head.Eosp::.sl 7 1 0 r16.Body.length false::[])]) rfl (by simp only [go_sem]) rfl ?_
   simp only [lC,lN,Nat.reduceAdd,Nat.reduceSub,rS,rZ,aC,aN]
   refine sq zA ?_
   simp only [go_sem,Nat.reduceAdd]
   refine zK ?_
   refine sq zA ?_
   simp only [go_sem,Nat.reduceLT,Nat.reduceAdd,Nat.reduceSub,yH]
   repeat ((with_reducible refine aI ?_ ?_);exact an0)
   refine condM' rfl trivial (fun hc=>?_) (fun hc=>?_)
   ·have hk19:(bEq (((gd r8.List r5.1.toNat).Held).length:Nat) r8.Limit)=false:=by simpa using hc
    replace H:=zZ hc H
    refine rg zA ?_
    simp only [go_sem]
    refine zK ?_
    refine kW [7] ?_ ?_
    ·simp only [go_sem,Nat.reduceBEq]
     try exact at0
    simp only [go_sem,Nat.reduceBEq,Nat.reduceAdd]
    obtain ⟨f48,H⟩:=nC H
    refine yL zQ zA 2 (by kernel_rfl) (by kernel_rfl) ?_
    intro an han
    simp only [wK,xR,vL,xrD,xoD,vM,wY,List.append_nil,xA,refs,vF,mask,xZ,place,xI,wA,xK,hit,inL,xD,ren,rnN,nrH,nrB,rZ,rS,Nat.sub_self,Nat.add_zero,Nat.zero_add,Nat.reduceSub,Nat.lt_add_one,go_sem,Nat.reduceLeDiff,Nat.reduceLT,Nat.reduceAdd,Nat.reduceSub,Nat.reduceBEq,yH,f48]
    repeat ((with_reducible refine aI ?_ ?_);exact an2)
    refine sq zA ?_
    simp only [go_sem]
    refine rg zA ?_
    simp only [go_sem]
    refine xQ zQ zA 1 ?_
    simp only [zM,tS,tZ,dS,dZ,go_sem]
    repeat ((with_reducible refine aI ?_ ?_);exact an1)
    refine wS ?_
    refine zK ?_
    refine yL zQ zA 0 (by kernel_rfl) (by kernel_rfl) ?_
    intro an han
    simp only [wK,xR,vL,xrD,xoD,vM,wY,List.append_nil,xA,refs,mask,xZ,place,xI,wA,xK,hit,inL,xD,nrH,nrB,nrL,nr,rZ,Nat.sub_self,Nat.add_zero,Nat.zero_add,Nat.reduceSub,Nat.lt_add_one,go_sem,Nat.reduceLeDiff,Nat.reduceLT,Nat.reduceAdd,Nat.reduceSub,Nat.reduceBEq]
    repeat ((with_reducible refine aI ?_ ?_);exact an2)
    obtain ⟨w49,hw50,H⟩:=bsj H
    have lhw50:w49.length=1:=by rw [← hw50];exact cl
    obtain ⟨w51,hw52,H⟩:=bsj H
    have lhw52:w51.length=((gd r8.List r5.1.toNat).Held).length+1:=by rw [← hw52];exact cl
    refine vO (t2:=(tp 10 (.ro 0 0 true (fun _ _=>.top)::.ro 0 0 true (fun _ _=>.top)::.ptr 2 0 0 0::.int .i64 0::tp 57 []))) (h2:=[.lit 25 [.int .i64 p0.Limit,.int .i64 p0.Stay,.ro 3 p0.List.length false (enR zC p0.List),.ro 43 p0.Group.length false (enR zE p0.Group)],.lit 33 (.int .u8 r16.Head.Kind::.int .u8 r16.Head.Sub::.bool r16.Head.ToDs::.bool r16.Head.FromDs::.bool r16.Head.More::.bool r16.Head.Retry::.bool r16.Head.Sleep::.bool r16.Head.MoreData::.bool r16.Head.Protected::.int .i64 r16.Head.Duration::.int .u8 r16.Head.A1.x0::.int .u8 r16.Head.A1.x1::.int .u8 r16.Head.A1.x2::.int .u8 r16.Head.A1.x3::.int .u8 r16.Head.A1.x4::.int .u8 r16.Head.A1.x5::.int .u8 r16.Head.A2.x0::.int .u8 r16.Head.A2.x1::.int .u8 r16.Head.A2.x2::.int .u8 r16.Head.A2.x3::.int .u8 r16.Head.A2.x4::.int .u8 r16.Head.A2.x5::.int .u8 r16.Head.A3.x0::.int .u8 r16.Head.A3.x1::.int .u8 r16.Head.A3.x2::.int .u8 r16.Head.A3.x3::.int .u8 r16.Head.A3.x4::.int .u8 r16.Head.A3.x5::.int .u8 r16.Head.A4.x0::.int .u8 r16.Head.A4.x1::.int .u8 r16.Head.A4.x2::.int .u8 r16.Head.A4.x3::.int .u8 r16.Head.A4.x4::.int .u8 r16.Head.A4.x5::.int .i64 r16.Head.Seq::.int .i64 r16.Head.Frag::.int .i64 r16.Head.Tid::.int .u8 r16.Head.Ack::.bool r16.Head.Amsdu::.bool r16.Head.Eosp::.ro 1 r16.Body.length false (enR xM r16.Body)::[]),.lit 25 [.int .i64 r8.Limit,.int .i64 r8.Stay,.sl 4 3 0 r8.List.length false,.sl 6 43 0 r8.Group.length false],.lit 25 [.int .i64 r8.Limit,.int .i64 r8.Stay,.sl 4 3 0 r8.List.length false,.sl 6 43 0 r8.Group.length false],.row 57 3 r8.List.length (upc (enR zC r8.List) r5.1.toNat 0 [.int .i64 ((gd r8.List r5.1.toNat).Aid),.bool ((gd r8.List r5.1.toNat).Asleep),.sl 10 43 0 w51.length false]),.dead,.row 61 43 r8.Group.length (enR zE r8.Group),.dead,.lit 61 (.int .u8 p2::.int .i64 p4::.int .u8 r16.Head.Kind::.int .u8 r16.Head.Sub::.bool r16.Head.ToDs::.bool r16.Head.FromDs::.bool r16.Head.More::.bool r16.Head.Retry::.bool r16.Head.Sleep::.bool r16.Head.MoreData::.bool r16.Head.Protected::.int .i64 r16.Head.Duration::.int .u8 r16.Head.A1.x0::.int .u8 r16.Head.A1.x1::.int .u8 r16.Head.A1.x2::.int .u8 r16.Head.A1.x3::.int .u8 r16.Head.A1.x4::.int .u8 r16.Head.A1.x5::.int .u8 r16.Head.A2.x0::.int .u8 r16.Head.A2.x1::.int .u8 r16.Head.A2.x2::.int .u8 r16.Head.A2.x3::.int .u8 r16.Head.A2.x4::.int .u8 r16.Head.A2.x5::.int .u8 r16.Head.A3.x0::.int .u8 r16.Head.A3.x1::.int .u8 r16.Head.A3.x2::.int .u8 r16.Head.A3.x3::.int .u8 r16.Head.A3.x4::.int .u8 r16.Head.A3.x5::.int .u8 r16.Head.A4.x0::.int .u8 r16.Head.A4.x1::.int .u8 r16.Head.A4.x2::.int .u8 r16.Head.A4.x3::.int .u8 r16.Head.A4.x4::.int .u8 r16.Head.A4.x5::.int .i64 r16.Head.Seq::.int .i64 r16.Head.Frag::.int .i64 r16.Head.Tid::.int .u8 r16.Head.Ack::.bool r16.Head.Amsdu::.bool r16.Head.Eosp::.ro 1 r16.Body.length false (enR xM r16.Body)::[]),.row 61 43 w49.length (enR zE w49),.row 61 43 w51.length (enR zE w51)]) ?_ ?_
    ·refine zT ⟨[some 0,some 1,some 2,some 3,some 4,some 5,some 6,some 7,some 8,some 9,some 10],?_,?_,by rfl,by rfl⟩
     ·simp [CvL,Cv,zX,tp]
     ·exact ⟨(by simp [CvB,CvL,Cv,xH,geth]),(by simp [CvB,CvL,Cv,xH,geth]),(by simp [CvB,CvL,Cv,xH,geth,zX]),(by simp [CvB,CvL,Cv,xH,geth,zX]),(bR (i:=r5.1.toNat) (L:=r8.List) zH (fun x y hx=>by simp only [xG hx]) (fun x y hx=>by simp only [xG hx]) (fun y hy=>match y,hy with|0,_=>by simp [yH,zL,Cv,enR,zC,lhw52]|1,_=>by simp [yH,zL,Cv,enR,zC,lhw52]|2,_=>by simp [yH,zL,Cv,zX,enR,zC,lhw52]|(y+3),h=>absurd h nlt)),zD,zS zV rfl (fun _ _ _ _=>rfl),zD,(by simp [CvB,CvL,Cv,xH,geth]),zS zV lhw50 (hw50 ▸ (wF (f:=zE) [(TStored.mk p2 p4 (eF r16))] (fun _ _=>rfl) rfl)),zS zV lhw52 (hw52 ▸ (wW (f:=zE) ((gd r8.List r5.1.toNat).Held) [(TStored.mk p2 p4 (eF r16))] (fun _ _ _ _=>rfl) (wF (f:=zE) [(TStored.mk p2 p4 (eF r16))] (fun _ _=>rfl) rfl))),trivial⟩
    simp only [tp]
    refine cN [10] [4] ?_ ?_
    ·simp only [go_sem,Nat.reduceBEq,Nat.reduceAdd,kV,fzObB2]
     first|exact (fT (L:=r8.List) (i:=r5.1.toNat) (fun a y=>yB (zH a) y) (fun x y hx=>by simp only [xG hx]) (fun y hy=>match y,hy with|0,_=>(by (simp [yH,zL,xP,enR,zC];all_goals (first|(with_reducible trivial)|(intros;exact yB (NRf.h _) _)|(intros;exact nfc))))|1,_=>(by (simp [yH,zL,xP,enR,zC];all_goals (first|(with_reducible trivial)|(intros;exact yB (NRf.h _) _)|(intros;exact nfc))))|2,_=>(by (simp [yH,zL,xP,inL,geth,vW,enR,zC];all_goals (first|(with_reducible trivial)|(intros;exact yB (NRf.h _) _)|(intros;exact nfc))))|(y+3),h=>absurd h nlt))|(and_intros<;>first|exact (fT (L:=r8.List) (i:=r5.1.toNat) (fun a y=>yB (zH a) y) (fun x y hx=>by simp only [xG hx]) (fun y hy=>match y,hy with|0,_=>(by (simp [yH,zL,xP,inL,geth,vW,enR,zC];all_goals (first|(with_reducible trivial)|(intros;exact yB (NRf.h _) _)|(intros;exact nfc))))|1,_=>(by (simp [yH,zL,xP,inL,geth,vW,enR,zC];all_goals (first|(with_reducible trivial)|(intros;exact yB (NRf.h _) _)|(intros;exact nfc))))|2,_=>(by (simp [yH,zL,xP,inL,geth,vW,enR,zC];all_goals (first|(with_reducible trivial)|(intros;exact yB (NRf.h _) _)|(intros;exact nfc))))|(y+3),h=>absurd h nlt))|(with_reducible trivial)|omega|exact nfc|trivial)
    simp only [go_sem,Nat.reduceBEq,Nat.reduceAdd,fzH2,eN,fzB2]
    obtain ⟨w53,hw54,H⟩:=bsj H
    have lhw54:w53.length=r8.List.length:=by rw [← hw54];exact (by simp only [List.length_set])
    refine vO (t2:=(tp 10 (.ro 0 0 true (fun _ _=>.top)::.ro 0 0 true (fun _ _=>.top)::.ptr 2 0 0 0::.int .i64 0::tp 57 []))) (h2:=[.lit 25 [.int .i64 p0.Limit,.int .i64 p0.Stay,.ro 3 p0.List.length false (enR zC p0.List),.ro 43 p0.Group.length false (enR zE p0.Group)],.lit 33 (.int .u8 r16.Head.Kind::.int .u8 r16.Head.Sub::.bool r16.Head.ToDs::.bool r16.Head.FromDs::.bool r16.Head.More::.bool r16.Head.Retry::.bool r16.Head.Sleep::.bool r16.Head.MoreData::.bool r16.Head.Protected::.int .i64 r16.Head.Duration::.int .u8 r16.Head.A1.x0::.int .u8 r16.Head.A1.x1::.int .u8 r16.Head.A1.x2::.int .u8 r16.Head.A1.x3::.int .u8 r16.Head.A1.x4::.int .u8 r16.Head.A1.x5::.int .u8 r16.Head.A2.x0::.int .u8 r16.Head.A2.x1::.int .u8 r16.Head.A2.x2::.int .u8 r16.Head.A2.x3::.int .u8 r16.Head.A2.x4::.int .u8 r16.Head.A2.x5::.int .u8 r16.Head.A3.x0::.int .u8 r16.Head.A3.x1::.int .u8 r16.Head.A3.x2::.int .u8 r16.Head.A3.x3::.int .u8 r16.Head.A3.x4::.int .u8 r16.Head.A3.x5::.int .u8 r16.Head.A4.x0::.int .u8 r16.Head.A4.x1::.int .u8 r16.Head.A4.x2::.int .u8 r16.Head.A4.x3::.int .u8 r16.Head.A4.x4::.int .u8 r16.Head.A4.x5::.int .i64 r16.Head.Seq::.int .i64 r16.Head.Frag::.int .i64 r16.Head.Tid::.int .u8 r16.Head.Ack::.bool r16.Head.Amsdu::.bool r16.Head.Eosp::.ro 1 r16.Body.length false (enR xM r16.Body)::[]),.lit 25 [.int .i64 r8.Limit,.int .i64 r8.Stay,.sl 4 3 0 w53.length false,.sl 6 43 0 r8.Group.length false],.lit 25 [.int .i64 r8.Limit,.int .i64 r8.Stay,.sl 4 3 0 w53.length false,.sl 6 43 0 r8.Group.length false],.row 57 3 w53.length (enR zC w53),.dead,.row 61 43 r8.Group.length (enR zE r8.Group),.dead,.lit 61 (.int .u8 p2::.int .i64 p4::.int .u8 r16.Head.Kind::.int .u8 r16.Head.Sub::.bool r16.Head.ToDs::.bool r16.Head.FromDs::.bool r16.Head.More::.bool r16.Head.Retry::.bool r16.Head.Sleep::.bool r16.Head.MoreData::.bool r16.Head.Protected::.int .i64 r16.Head.Duration::.int .u8 r16.Head.A1.x0::.int .u8 r16.Head.A1.x1::.int .u8 r16.Head.A1.x2::.int .u8 r16.Head.A1.x3::.int .u8 r16.Head.A1.x4::.int .u8 r16.Head.A1.x5::.int .u8 r16.Head.A2.x0::.int .u8 r16.Head.A2.x1::.int .u8 r16.Head.A2.x2::.int .u8 r16.Head.A2.x3::.int .u8 r16.Head.A2.x4::.int .u8 r16.Head.A2.x5::.int .u8 r16.Head.A3.x0::.int .u8 r16.Head.A3.x1::.int .u8 r16.Head.A3.x2::.int .u8 r16.Head.A3.x3::.int .u8 r16.Head.A3.x4::.int .u8 r16.Head.A3.x5::.int .u8 r16.Head.A4.x0::.int .u8 r16.Head.A4.x1::.int .u8 r16.Head.A4.x2::.int .u8 r16.Head.A4.x3::.int .u8 r16.Head.A4.x4::.int .u8 r16.Head.A4.x5::.int .i64 r16.Head.Seq::.int .i64 r16.Head.Frag::.int .i64 r16.Head.Tid::.int .u8 r16.Head.Ack::.bool r16.Head.Amsdu::.bool r16.Head.Eosp::.ro 1 r16.Body.length false (enR xM r16.Body)::[]),.row 61 43 w49.length (enR zE w49),.dead]) ?_ ?_
    ·refine zT ⟨[some 0,some 1,some 2,some 3,some 4,some 5,some 6,some 7,some 8,some 9,some 10],?_,?_,by rfl,by rfl⟩
     ·simp [CvL,Cv,zX,tp]
     ·exact ⟨(by simp [CvB,CvL,Cv,xH,geth]),(by simp [CvB,CvL,Cv,xH,geth]),(by simp [CvB,CvL,Cv,xH,geth,zX,lhw54]),(by simp [CvB,CvL,Cv,xH,geth,zX,lhw54]),zS zH lhw54 (hw54 ▸ (foc_row (L:=r8.List) (i:=r5.1.toNat) (fun a y=>yB (zH a) y) (fun x y hx=>by simp only [xG hx]) (fun y hy=>match y,hy with|0,_=>by simp [yH,zL,fzV,enR,zC]|1,_=>by simp [yH,zL,fzV,enR,zC]|2,_=>by simp [yH,zL,fzV,inL,geth,enR,zC,eV]|(y+3),h=>absurd h nlt))),zD,zS zV rfl (fun _ _ _ _=>rfl),zD,(by simp [CvB,CvL,Cv,xH,geth]),zS zV rfl (fun _ _ _ _=>rfl),zD,trivial⟩
    simp only [tp]
    refine rg zA ?_
    simp only [go_sem,Nat.reduceLT,Nat.reduceAdd]
    obtain rfl:=Option.some.inj H
    refine ⟨[4,6,0,1,2,3,8],?_,?_,[],?_,?_,rfl⟩
    ·simp only [go_sem,Nat.reduceBEq]
     try exact at0
    ·simp only [go_sem,Nat.reduceBEq]
     try exact at0
    ·simp only [go_sem,Nat.reduceBEq]
     exact yY (zB (zJ (α:=TFrame)) (zB (zJ (α:=TFrame)) (zB (yV (zB zF (zB zF (zB (xN (by first|rfl|simp) (fun _ _ _ _=>rfl)) (zB (xN (by first|rfl|simp) (fun _ _ _ _=>rfl)) zO))))) (zB zF zO))))
    ·simp only [go_sem,CvH]
   have hk19:(bEq (((gd r8.List r5.1.toNat).Held).length:Nat) r8.Limit)=true:=by simpa using hc
   replace H:=yA hc H
   refine zK ?_
   refine qZ ?_
   refine xQ zQ zA 3 ?_
   simp only [zM,tS,tZ,dS,dZ,go_sem,Nat.reduceLT,Nat.reduceAdd,Nat.reduceSub,yH]
   repeat ((with_reducible refine aI ?_ ?_);exact an0)
   refine gX (rs:=[.cell 4 61]) Try.func89 (by kernel_rfl) rfl rfl Try.ntmps89 (caps:=[]) (tc:=[.sl 5 43 0 (((gd r8.List r5.1.toNat).Held).length) false,.fn 90 []]) rfl (by simp only [go_sem]) rfl ?_
   simp only [lC,lN,Nat.reduceAdd,Nat.reduceSub,rS,rZ,aC,aN]
   refine sq zA ?_
   simp only [go_sem,Nat.reduceAdd]
   refine zK ?_
   refine sq zA ?_
   simp only [go_sem]
   repeat ((with_reducible refine aI ?_ ?_);exact an0)
   refine yM rfl trivial (fun hc=>?_) (fun hc=>?_)
   ·have hk20:(bLt (((gd r8.List r5.1.toNat).Held).length:Nat) 1)=true:=by simpa using hc
    replace H:=yA hc H
    cases H
   have hk20:(bLt (((gd r8.List r5.1.toNat).Held).length:Nat) 1)=false:=by simpa using hc
   replace H:=zZ hc H
   refine rg zA ?_
   simp only [go_sem]
   refine zK ?_
   obtain ⟨f21,H⟩:=nI H
   refine rg zA ?_
   simp only [go_sem,Nat.reduceLT,Nat.reduceAdd,f21]
   repeat ((with_reducible refine aI ?_ ?_);exact an5)
   refine zK ?_
   refine sq zA ?_
   simp only [go_sem]
   refine wN ?_
   refine xX (fun s:Int × TStored=>(.sl 5 43 0 (((gd r8.List r5.1.toNat).Held).length) false::.fn 90 []::.top::.top::.ptr 9 0 0 0::.ptr 10 0 0 0::.int .i64 s.1::tp 26 [])) (fun s=>[.dead,.dead,.lit 25 [.int .i64 0,.int .i64 0,.ro 0 0 true (fun _ _=>.top),.ro 0 0 true (fun _ _=>.top)],.lit 25 [.int .i64 r8.Limit,.int .i64 r8.Stay,.sl 4 3 0 r8.List.length false,.sl 6 43 0 r8.Group.length false],.row 57 3 r8.List.length (upc (enR zC r8.List) r5.1.toNat 2 [.sl 5 43 0 (((gd r8.List r5.1.toNat).Held).length) false]),.row 61 43 (((gd r8.List r5.1.toNat).Held).length) (enR zE ((gd r8.List r5.1.toNat).Held)),.row 61 43 r8.Group.length (enR zE r8.Group),.row 5 1 r16.Body.length (enR xM r16.Body),.lit 61 (.int .u8 p2::.int .i64 p4::.int .u8 r16.Head.Kind::.int .u8 r16.Head.Sub::.bool r16.Head.ToDs::.bool r16.Head.FromDs::.bool r16.Head.More::.bool r16.Head.Retry::.bool r16.Head.Sleep::.bool r16.Head.MoreData::.bool r16.Head.Protected::.int .i64 r16.Head.Duration::.int .u8 r16.Head.A1.x0::.int .u8 r16.Head.A1.x1::.int .u8 r16.Head.A1.x2::.int .u8 r16.Head.A1.x3::.int .u8 r16.Head.A1.x4::.int .u8 r16.Head.A1.x5::.int .u8 r16.Head.A2.x0::.int .u8 r16.Head.A2.x1::.int .u8 r16.Head.A2.x2::.int .u8 r16.Head.A2.x3::.int .u8 r16.Head.A2.x4::.int .u8 r16.Head.A2.x5::.int .u8 r16.Head.A3.x0::.int .u8 r16.Head.A3.x1::.int .u8 r16.Head.A3.x2::.int .u8 r16.Head.A3.x3::.int .u8 r16.Head.A3.x4::.int .u8 r16.Head.A3.x5::.int .u8 r16.Head.A4.x0::.int .u8 r16.Head.A4.x1::.int .u8 r16.Head.A4.x2::.int .u8 r16.Head.A4.x3::.int .u8 r16.Head.A4.x4::.int .u8 r16.Head.A4.x5::.int .i64 r16.Head.Seq::.int .i64 r16.Head.Frag::.int .i64 r16.Head.Tid::.int .u8 r16.Head.Ack::.bool r16.Head.Amsdu::.bool r16.Head.Eosp::.sl 7 1 0 r16.Body.length false::[]),.lit 61 (.int .u8 0::.int .i64 0::.int .u8 0::.int .u8 0::.bool false::.bool false::.bool false::.bool false::.bool false::.bool false::.bool false::.int .i64 0::.int .u8 0::.int .u8 0::.int .u8 0::.int .u8 0::.int .u8 0::.int .u8 0::.int .u8 0::.int .u8 0::.int .u8 0::.int .u8 0::.int .u8 0::.int .u8 0::.int .u8 0::.int .u8 0::.int .u8 0::.int .u8 0::.int .u8 0::.int .u8 0::.int .u8 0::.int .u8 0::.int .u8 0::.int .u8 0::.int .u8 0::.int .u8 0::.int .i64 0::.int .i64 0::.int .i64 0::.int .u8 0::.bool false::.bool false::.ro 0 0 true (fun _ _=>.top)::[]),.lit 61 (.int .u8 s.2.Cat::.int .i64 s.2.At::.int .u8 s.2.Frame.Head.Kind::.int .u8 s.2.Frame.Head.Sub::.bool s.2.Frame.Head.ToDs::.bool s.2.Frame.Head.FromDs::.bool s.2.Frame.Head.More::.bool s.2.Frame.Head.Retry::.bool s.2.Frame.Head.Sleep::.bool s.2.Frame.Head.MoreData::.bool s.2.Frame.Head.Protected::.int .i64 s.2.Frame.Head.Duration::.int .u8 s.2.Frame.Head.A1.x0::.int .u8 s.2.Frame.Head.A1.x1::.int .u8 s.2.Frame.Head.A1.x2::.int .u8 s.2.Frame.Head.A1.x3::.int .u8 s.2.Frame.Head.A1.x4::.int .u8 s.2.Frame.Head.A1.x5::.int .u8 s.2.Frame.Head.A2.x0::.int .u8 s.2.Frame.Head.A2.x1::.int .u8 s.2.Frame.Head.A2.x2::.int .u8 s.2.Frame.Head.A2.x3::.int .u8 s.2.Frame.Head.A2.x4::.int .u8 s.2.Frame.Head.A2.x5::.int .u8 s.2.Frame.Head.A3.x0::.int .u8 s.2.Frame.Head.A3.x1::.int .u8 s.2.Frame.Head.A3.x2::.int .u8 s.2.Frame.Head.A3.x3::.int .u8 s.2.Frame.Head.A3.x4::.int .u8 s.2.Frame.Head.A3.x5::.int .u8 s.2.Frame.Head.A4.x0::.int .u8 s.2.Frame.Head.A4.x1::.int .u8 s.2.Frame.Head.A4.x2::.int .u8 s.2.Frame.Head.A4.x3::.int .u8 s.2.Frame.Head.A4.x4::.int .u8 s.2.Frame.Head.A4.x5::.int .i64 s.2.Frame.Head.Seq::.int .i64 s.2.Frame.Head.Frag::.int .i64 s.2.Frame.Head.Tid::.int .u8 s.2.Frame.Head.Ack::.bool s.2.Frame.Head.Amsdu::.bool s.2.Frame.Head.Eosp::.ro 1 s.2.Frame.Body.length false (enR xM s.2.Frame.Body)::[])]) (fun e:TStored=>(tp 4 (.ptr 9 0 0 0::.ptr 10 0 0 0::tp 27 []))) (fun e=>[.dead,.dead,.lit 25 [.int .i64 0,.int .i64 0,.ro 0 0 true (fun _ _=>.top),.ro 0 0 true (fun _ _=>.top)],.lit 25 [.int .i64 r8.Limit,.int .i64 r8.Stay,.sl 4 3 0 r8.List.length false,.sl 6 43 0 r8.Group.length false],.row 57 3 r8.List.length (upc (enR zC r8.List) r5.1.toNat 2 [.sl 5 43 0 (((gd r8.List r5.1.toNat).Held).length) false]),.row 61 43 (((gd r8.List r5.1.toNat).Held).length) (enR zE ((gd r8.List r5.1.toNat).Held)),.row 61 43 r8.Group.length (enR zE r8.Group),.row 5 1 r16.Body.length (enR xM r16.Body),.lit 61 (.int .u8 p2::.int .i64 p4::.int .u8 r16.Head.Kind::.int .u8 r16.Head.Sub::.bool r16.Head.ToDs::.bool r16.Head.FromDs::.bool r16.Head.More::.bool r16.Head.Retry::.bool r16.Head.Sleep::.bool r16.Head.MoreData::.bool r16.Head.Protected::.int .i64 r16.Head.Duration::.int .u8 r16.Head.A1.x0::.int .u8 r16.Head.A1.x1::.int .u8 r16.Head.A1.x2::.int .u8 r16.Head.A1.x3::.int .u8 r16.Head.A1.x4::.int .u8 r16.Head.A1.x5::.int .u8 r16.Head.A2.x0::.int .u8 r16.Head.A2.x1::.int .u8 r16.Head.A2.x2::.int .u8 r16.Head.A2.x3::.int .u8 r16.Head.A2.x4::.int .u8 r16.Head.A2.x5::.int .u8 r16.Head.A3.x0::.int .u8 r16.Head.A3.x1::.int .u8 r16.Head.A3.x2::.int .u8 r16.Head.A3.x3::.int .u8 r16.Head.A3.x4::.int .u8 r16.Head.A3.x5::.int .u8 r16.Head.A4.x0::.int .u8 r16.Head.A4.x1::.int .u8 r16.Head.A4.x2::.int .u8 r16.Head.A4.x3::.int .u8 r16.Head.A4.x4::.int .u8 r16.Head.A4.x5::.int .i64 r16.Head.Seq::.int .i64 r16.Head.Frag::.int .i64 r16.Head.Tid::.int .u8 r16.Head.Ack::.bool r16.Head.Amsdu::.bool r16.Head.Eosp::.sl 7 1 0 r16.Body.length false::[]),.lit 61 (.int .u8 0::.int .i64 0::.int .u8 0::.int .u8 0::.bool false::.bool false::.bool false::.bool false::.bool false::.bool false::.bool false::.int .i64 0::.int .u8 0::.int .u8 0::.int .u8 0::.int .u8 0::.int .u8 0::.int .u8 0::.int .u8 0::.int .u8 0::.int .u8 0::.int .u8 0::.int .u8 0::.int .u8 0::.int .u8 0::.int .u8 0::.int .u8 0::.int .u8 0::.int .u8 0::.int .u8 0::.int .u8 0::.int .u8 0::.int .u8 0::.int .u8 0::.int .u8 0::.int .u8 0::.int .i64 0::.int .i64 0::.int .i64 0::.int .u8 0::.bool false::.bool false::.ro 0 0 true (fun _ _=>.top)::[]),.lit 61 (.int .u8 e.Cat::.int .i64 e.At::.int .u8 e.Frame.Head.Kind::.int .u8 e.Frame.Head.Sub::.bool e.Frame.Head.ToDs::.bool e.Frame.Head.FromDs::.bool e.Frame.Head.More::.bool e.Frame.Head.Retry::.bool e.Frame.Head.Sleep::.bool e.Frame.Head.MoreData::.bool e.Frame.Head.Protected::.int .i64 e.Frame.Head.Duration::.int .u8 e.Frame.Head.A1.x0::.int .u8 e.Frame.Head.A1.x1::.int .u8 e.Frame.Head.A1.x2::.int .u8 e.Frame.Head.A1.x3::.int .u8 e.Frame.Head.A1.x4::.int .u8 e.Frame.Head.A1.x5::.int .u8 e.Frame.Head.A2.x0::.int .u8 e.Frame.Head.A2.x1::.int .u8 e.Frame.Head.A2.x2::.int .u8 e.Frame.Head.A2.x3::.int .u8 e.Frame.Head.A2.x4::.int .u8 e.Frame.Head.A2.x5::.int .u8 e.Frame.Head.A3.x0::.int .u8 e.Frame.Head.A3.x1::.int .u8 e.Frame.Head.A3.x2::.int .u8 e.Frame.Head.A3.x3::.int .u8 e.Frame.Head.A3.x4::.int .u8 e.Frame.Head.A3.x5::.int .u8 e.Frame.Head.A4.x0::.int .u8 e.Frame.Head.A4.x1::.int .u8 e.Frame.Head.A4.x2::.int .u8 e.Frame.Head.A4.x3::.int .u8 e.Frame.Head.A4.x4::.int .u8 e.Frame.Head.A4.x5::.int .i64 e.Frame.Head.Seq::.int .i64 e.Frame.Head.Frag::.int .i64 e.Frame.Head.Tid::.int .u8 e.Frame.Head.Ack::.bool e.Frame.Head.Amsdu::.bool e.Frame.Head.Eosp::.ro 1 e.Frame.Body.length false (enR xM e.Frame.Body)::[])]) H ?_ (fun s o H hn1_1 hn2_1=>?_) (fun w1_6 H=>?_)
   ·refine zT ⟨[some 0,some 1,some 2,some 3,some 4,some 5,some 6,some 7,some 8,some 9,some 10],?_,?_,by rfl,by rfl⟩
    ·simp [CvL,Cv,zX,tp]
    ·exact ⟨zD,zD,cv,cv,(jA (i:=r5.1.toNat) (L:=r8.List) zH (fun x y hx=>by simp only [xG hx]) (fun y hy=>match y,hy with|0,_=>by simp [yH,zL,Cv,enR,zC]|1,_=>by simp [yH,zL,Cv,enR,zC]|2,_=>by simp [yH,zL,Cv,zX,enR,zC]|(y+3),h=>absurd h nlt)),(zW nfA),(zW nfA),(zW nfA),cv,cv,cv,trivial⟩
   ·obtain ⟨v1_1,v1_2⟩:=s
    unfold F24_L1 at H
    delta eF at H
    try dsimp only at H ⊢
    try simp only [tp]
    refine zK ?_
    refine sq zA ?_
    simp only [go_sem,Nat.reduceAdd]
    repeat ((with_reducible refine aI ?_ ?_);exact an0)
    refine condM' rfl trivial (fun hc=>?_) (fun hc=>?_)
    ·have hk22:(bLt v1_1 (((gd r8.List r5.1.toNat).Held).length:Nat))=false:=by simpa using hc
     replace H:=zZ hc H
     refine rg zA ?_
     simp only [go_sem]
     refine ⟨_,(Option.some.inj H).symm,?_⟩
     refine zT ⟨[some 0,some 1,some 2,some 3,some 4,some 5,some 6,some 7,some 8,some 9,some 10],?_,?_,by rfl,by rfl⟩
     ·simp [CvL,Cv,zX]
     ·exact ⟨zD,zD,cv,cv,(jA (i:=r5.1.toNat) (L:=r8.List) zH (fun x y hx=>by simp only [xG hx]) (fun y hy=>match y,hy with|0,_=>by simp [yH,zL,Cv,enR,zC]|1,_=>by simp [yH,zL,Cv,enR,zC]|2,_=>by simp [yH,zL,Cv,zX,enR,zC]|(y+3),h=>absurd h nlt)),(zW nfA),(zW nfA),(zW nfA),cv,cv,cv,trivial⟩
    have hk22:(bLt v1_1 (((gd r8.List r5.1.toNat).Held).length:Nat))=true:=by simpa using hc
    replace H:=yA hc H
    refine rg zA ?_
    simp only [go_sem]
    refine zK ?_
    refine wN ?_
    refine zK ?_
    obtain ⟨f23,H⟩:=nI H
    obtain ⟨r24,e25,H⟩:=bsi H
    refine vS zQ ct24t6_ok (by kernel_rfl) (by kernel_rfl) ?_
    simp only [go_sem,Nat.reduceLT,Nat.reduceAdd,ct24t6_90,dE,f23,e25]
    repeat ((with_reducible refine aI ?_ ?_);exact an0)
    refine condM' rfl trivial (fun hc=>?_) (fun hc=>?_)
    ·have hk26:(bLt r24 0)=false:=by simpa using hc
     replace H:=zZ hc H
     refine rg zA ?_
     simp only [go_sem]
     refine rg zA ?_
     simp only [go_sem]
     refine ⟨_,(Option.some.inj H).symm,?_⟩
     refine zT ⟨[some 0,some 1,some 2,some 3,some 4,some 5,some 6,some 7,some 8,some 9,some 10],?_,?_,by rfl,by rfl⟩
     ·simp [CvL,Cv,zX]
     ·exact ⟨zD,zD,cv,cv,(jA (i:=r5.1.toNat) (L:=r8.List) zH (fun x y hx=>by simp only [xG hx]) (fun y hy=>match y,hy with|0,_=>by simp [yH,zL,Cv,enR,zC]|1,_=>by simp [yH,zL,Cv,enR,zC]|2,_=>by simp [yH,zL,Cv,zX,enR,zC]|(y+3),h=>absurd h nlt)),(zW nfA),(zW nfA),(zW nfA),cv,cv,cv,trivial⟩
    have hk26:(bLt r24 0)=true:=by simpa using hc
    replace H:=yA hc H
    obtain ⟨f27,H⟩:=nI H
    refine rg zA ?_
    simp only [go_sem,Nat.reduceLT,Nat.reduceAdd,f27]
    repeat ((with_reducible refine aI ?_ ?_);exact an5)
    refine rg zA ?_
    simp only [go_sem]
    refine ⟨_,(Option.some.inj H).symm,?_⟩
    refine zT ⟨[some 0,some 1,some 2,some 3,some 4,some 5,some 6,some 7,some 8,some 9,some 10],?_,?_,by rfl,by rfl⟩
    ·simp [CvL,Cv,zX]
    ·exact ⟨zD,zD,cv,cv,(jA (i:=r5.1.toNat) (L:=r8.List) zH (fun x y hx=>by simp only [xG hx]) (fun y hy=>match y,hy with|0,_=>by simp [yH,zL,Cv,enR,zC]|1,_=>by simp [yH,zL,Cv,enR,zC]|2,_=>by simp [yH,zL,Cv,zX,enR,zC]|(y+3),h=>absurd h nlt)),(zW nfA),(zW nfA),(zW nfA),cv,cv,cv,trivial⟩
   ·try dsimp only at H ⊢
    try simp only [tp]
    try simp only [xS]
    refine sq zA ?_
    simp only [go_sem,Nat.reduceLT,Nat.reduceAdd]
    repeat ((with_reducible refine aI ?_ ?_);exact an5)
    refine rg zA ?_
    simp only [go_sem,Nat.reduceLT,Nat.reduceAdd]
    refine xQ zQ zA 3 ?_
    simp only [zM,tS,tZ,dS,dZ,go_sem,Nat.reduceLeDiff,Nat.reduceLT,Nat.reduceAdd]
    repeat ((with_reducible refine aI ?_ ?_);exact an0)
    refine wS ?_
    refine zK ?_
    refine sq zA ?_
    simp only [go_sem,Nat.reduceLeDiff,Nat.reduceLT,Nat.reduceAdd]
    repeat ((with_reducible refine aI ?_ ?_);exact an5)
    refine yM rfl trivial (fun hc=>?_) (fun hc=>?_)
    ·have hk28:(bLt p2 w1_6.Cat)=true:=by simpa using hc
     replace H:=yA hc H
     refine zK ?_
     refine qZ ?_
     refine xQ zQ zA 2 ?_
     simp only [zM,tS,tZ,dS,dZ,go_sem,Nat.reduceLT,Nat.reduceAdd,reduceCtorEq]
     repeat ((with_reducible refine aI ?_ ?_);exact an5)
     refine fzO [7] ?_ ?_
     ·simp only [go_sem,Nat.reduceBEq]
      try exact at0
     simp only [go_sem,Nat.reduceBEq,Nat.reduceAdd]
     refine xQ zQ zA 2 ?_
     simp only [zM,tS,tZ,dS,dZ,go_sem,Nat.reduceLeDiff,Nat.reduceAdd]
     repeat ((with_reducible refine aI ?_ ?_);exact an5)
     refine wS ?_
     refine rg zA ?_
     simp only [go_sem]
     refine xQ zQ zA 1 ?_
     simp only [zM,tS,tZ,dS,dZ,go_sem]
     repeat ((with_reducible refine aI ?_ ?_);exact an3)
     refine wS ?_
     refine zK ?_
     refine yL zQ zA 0 (by kernel_rfl) (by kernel_rfl) ?_
     intro an han
     simp only [wK,xR,vL,xrD,xoD,vM,wY,List.append_nil,xA,refs,mask,xZ,place,xI,wA,xK,hit,inL,xD,nrH,nrB,nrL,nr,rZ,Nat.sub_self,Nat.add_zero,Nat.zero_add,Nat.reduceSub,Nat.lt_add_one,go_sem,Nat.reduceLeDiff,Nat.reduceLT,Nat.reduceAdd,Nat.reduceSub,Nat.reduceBEq]
     repeat ((with_reducible refine aI ?_ ?_);exact an6)
     refine cN [5] [4] ?_ ?_
     ·simp only [go_sem,Nat.reduceBEq,Nat.reduceAdd,kV,fzObB2]
      first|exact (fT (L:=r8.List) (i:=r5.1.toNat) (fun a y=>yB (zH a) y) (fun x y hx=>by simp only [xG hx]) (fun y hy=>match y,hy with|0,_=>(by (simp [yH,zL,xP,inL,geth,vW,enR,zC];all_goals (first|(with_reducible trivial)|(intros;exact yB (NRf.h _) _)|(intros;exact nfc))))|1,_=>(by (simp [yH,zL,xP,inL,geth,vW,enR,zC];all_goals (first|(with_reducible trivial)|(intros;exact yB (NRf.h _) _)|(intros;exact nfc))))|2,_=>(by (simp [yH,zL,xP,inL,geth,vW,enR,zC];all_goals (first|(with_reducible trivial)|(intros;exact yB (NRf.h _) _)|(intros;exact nfc))))|(y+3),h=>absurd h nlt))|(and_intros<;>first|exact (fT (L:=r8.List) (i:=r5.1.toNat) (fun a y=>yB (zH a) y) (fun x y hx=>by simp only [xG hx]) (fun y hy=>match y,hy with|0,_=>(by (simp [yH,zL,xP,enR,zC];all_goals (first|(with_reducible trivial)|(intros;exact yB (NRf.h _) _)|(intros;exact nfc))))|1,_=>(by (simp [yH,zL,xP,enR,zC];all_goals (first|(with_reducible trivial)|(intros;exact yB (NRf.h _) _)|(intros;exact nfc))))|2,_=>(by (simp [yH,zL,xP,inL,geth,vW,enR,zC];all_goals (first|(with_reducible trivial)|(intros;exact yB (NRf.h _) _)|(intros;exact nfc))))|(y+3),h=>absurd h nlt))|(with_reducible trivial)|omega|exact nfc|trivial)
     simp only [go_sem,Nat.reduceBEq,Nat.reduceAdd,fzH2,eN,fzB2]
     obtain ⟨w29,hw30,H⟩:=bsj H
     have lhw30:w29.length=r8.List.length:=by rw [← hw30];exact (by simp only [List.length_set])
     obtain ⟨w31,hw32,H⟩:=bsj H
     have lhw32:w31.length=1:=by rw [← hw32];exact cl
     refine vO (t2:=(tp 10 (.ro 0 0 true (fun _ _=>.top)::.sl 12 41 0 w31.length false::.ptr 2 0 0 0::.int .i64 0::tp 57 []))) (h2:=[.dead,.dead,.lit 25 [.int .i64 r8.Limit,.int .i64 r8.Stay,.sl 4 3 0 w29.length false,.sl 6 43 0 r8.Group.length false],.lit 25 [.int .i64 r8.Limit,.int .i64 r8.Stay,.sl 4 3 0 w29.length false,.sl 6 43 0 r8.Group.length false],.row 57 3 w29.length (enR zC w29),.dead,.row 61 43 r8.Group.length (enR zE r8.Group),.dead,.lit 61 (.int .u8 p2::.int .i64 p4::.int .u8 r16.Head.Kind::.int .u8 r16.Head.Sub::.bool r16.Head.ToDs::.bool r16.Head.FromDs::.bool r16.Head.More::.bool r16.Head.Retry::.bool r16.Head.Sleep::.bool r16.Head.MoreData::.bool r16.Head.Protected::.int .i64 r16.Head.Duration::.int .u8 r16.Head.A1.x0::.int .u8 r16.Head.A1.x1::.int .u8 r16.Head.A1.x2::.int .u8 r16.Head.A1.x3::.int .u8 r16.Head.A1.x4::.int .u8 r16.Head.A1.x5::.int .u8 r16.Head.A2.x0::.int .u8 r16.Head.A2.x1::.int .u8 r16.Head.A2.x2::.int .u8 r16.Head.A2.x3::.int .u8 r16.Head.A2.x4::.int .u8 r16.Head.A2.x5::.int .u8 r16.Head.A3.x0::.int .u8 r16.Head.A3.x1::.int .u8 r16.Head.A3.x2::.int .u8 r16.Head.A3.x3::.int .u8 r16.Head.A3.x4::.int .u8 r16.Head.A3.x5::.int .u8 r16.Head.A4.x0::.int .u8 r16.Head.A4.x1::.int .u8 r16.Head.A4.x2::.int .u8 r16.Head.A4.x3::.int .u8 r16.Head.A4.x4::.int .u8 r16.Head.A4.x5::.int .i64 r16.Head.Seq::.int .i64 r16.Head.Frag::.int .i64 r16.Head.Tid::.int .u8 r16.Head.Ack::.bool r16.Head.Amsdu::.bool r16.Head.Eosp::.ro 1 r16.Body.length false (enR xM r16.Body)::[]),.lit 61 (.int .u8 w1_6.Cat::.int .i64 w1_6.At::.int .u8 w1_6.Frame.Head.Kind::.int .u8 w1_6.Frame.Head.Sub::.bool w1_6.Frame.Head.ToDs::.bool w1_6.Frame.Head.FromDs::.bool w1_6.Frame.Head.More::.bool w1_6.Frame.Head.Retry::.bool w1_6.Frame.Head.Sleep::.bool w1_6.Frame.Head.MoreData::.bool w1_6.Frame.Head.Protected::.int .i64 w1_6.Frame.Head.Duration::.int .u8 w1_6.Frame.Head.A1.x0::.int .u8 w1_6.Frame.Head.A1.x1::.int .u8 w1_6.Frame.Head.A1.x2::.int .u8 w1_6.Frame.Head.A1.x3::.int .u8 w1_6.Frame.Head.A1.x4::.int .u8 w1_6.Frame.Head.A1.x5::.int .u8 w1_6.Frame.Head.A2.x0::.int .u8 w1_6.Frame.Head.A2.x1::.int .u8 w1_6.Frame.Head.A2.x2::.int .u8 w1_6.Frame.Head.A2.x3::.int .u8 w1_6.Frame.Head.A2.x4::.int .u8 w1_6.Frame.Head.A2.x5::.int .u8 w1_6.Frame.Head.A3.x0::.int .u8 w1_6.Frame.Head.A3.x1::.int .u8 w1_6.Frame.Head.A3.x2::.int .u8 w1_6.Frame.Head.A3.x3::.int .u8 w1_6.Frame.Head.A3.x4::.int .u8 w1_6.Frame.Head.A3.x5::.int .u8 w1_6.Frame.Head.A4.x0::.int .u8 w1_6.Frame.Head.A4.x1::.int .u8 w1_6.Frame.Head.A4.x2::.int .u8 w1_6.Frame.Head.A4.x3::.int .u8 w1_6.Frame.Head.A4.x4::.int .u8 w1_6.Frame.Head.A4.x5::.int .i64 w1_6.Frame.Head.Seq::.int .i64 w1_6.Frame.Head.Frag::.int .i64 w1_6.Frame.Head.Tid::.int .u8 w1_6.Frame.Head.Ack::.bool w1_6.Frame.Head.Amsdu::.bool w1_6.Frame.Head.Eosp::.ro 1 w1_6.Frame.Body.length false (enR xM w1_6.Frame.Body)::[]),.lit 61 (.int .u8 w1_6.Cat::.int .i64 w1_6.At::.int .u8 w1_6.Frame.Head.Kind::.int .u8 w1_6.Frame.Head.Sub::.bool w1_6.Frame.Head.ToDs::.bool w1_6.Frame.Head.FromDs::.bool w1_6.Frame.Head.More::.bool w1_6.Frame.Head.Retry::.bool w1_6.Frame.Head.Sleep::.bool w1_6.Frame.Head.MoreData::.bool w1_6.Frame.Head.Protected::.int .i64 w1_6.Frame.Head.Duration::.int .u8 w1_6.Frame.Head.A1.x0::.int .u8 w1_6.Frame.Head.A1.x1::.int .u8 w1_6.Frame.Head.A1.x2::.int .u8 w1_6.Frame.Head.A1.x3::.int .u8 w1_6.Frame.Head.A1.x4::.int .u8 w1_6.Frame.Head.A1.x5::.int .u8 w1_6.Frame.Head.A2.x0::.int .u8 w1_6.Frame.Head.A2.x1::.int .u8 w1_6.Frame.Head.A2.x2::.int .u8 w1_6.Frame.Head.A2.x3::.int .u8 w1_6.Frame.Head.A2.x4::.int .u8 w1_6.Frame.Head.A2.x5::.int .u8 w1_6.Frame.Head.A3.x0::.int .u8 w1_6.Frame.Head.A3.x1::.int .u8 w1_6.Frame.Head.A3.x2::.int .u8 w1_6.Frame.Head.A3.x3::.int .u8 w1_6.Frame.Head.A3.x4::.int .u8 w1_6.Frame.Head.A3.x5::.int .u8 w1_6.Frame.Head.A4.x0::.int .u8 w1_6.Frame.Head.A4.x1::.int .u8 w1_6.Frame.Head.A4.x2::.int .u8 w1_6.Frame.Head.A4.x3::.int .u8 w1_6.Frame.Head.A4.x4::.int .u8 w1_6.Frame.Head.A4.x5::.int .i64 w1_6.Frame.Head.Seq::.int .i64 w1_6.Frame.Head.Frag::.int .i64 w1_6.Frame.Head.Tid::.int .u8 w1_6.Frame.Head.Ack::.bool w1_6.Frame.Head.Amsdu::.bool w1_6.Frame.Head.Eosp::.ro 1 w1_6.Frame.Body.length false (enR xM w1_6.Frame.Body)::[]),.lit 5 [.int .u8 w1_6.Cat],.row 33 41 w31.length (enR zI w31)]) ?_ ?_
     ·refine zT ⟨[some 0,some 1,some 2,some 3,some 4,some 5,some 6,some 7,some 8,some 9,some 10,some 11,some 12],?_,?_,by rfl,by rfl⟩
      ·simp [CvL,Cv,zX,tp,lhw32]
      ·exact ⟨zD,zD,(by simp [CvB,CvL,Cv,xH,geth,zX,lhw30]),(by simp [CvB,CvL,Cv,xH,geth,zX,lhw30]),zS zH lhw30 (hw30 ▸ (foc_row (L:=r8.List) (i:=r5.1.toNat) (fun a y=>yB (zH a) y) (fun x y hx=>by simp only [xG hx]) (fun y hy=>match y,hy with|0,_=>by simp [yH,zL,fzV,enR,zC]|1,_=>by simp [yH,zL,fzV,enR,zC]|2,_=>by simp [yH,zL,fzV,inL,geth,enR,zC,eV]|(y+3),h=>absurd h nlt))),zD,zS zV rfl (fun _ _ _ _=>rfl),zD,(by simp [CvB,CvL,Cv,xH,geth]),(by simp [CvB,CvL,Cv,xH,geth]),(by simp [CvB,CvL,Cv,xH,geth]),(by simp [CvB,CvL,Cv,xH,geth]),zS xE lhw32 (hw32 ▸ (wF (f:=zI) [r16] (fun _ _=>rfl) rfl)),trivial⟩
     simp only [tp]
     refine rg zA ?_
     simp only [go_sem,Nat.reduceLT,Nat.reduceAdd]
     obtain rfl:=Option.some.inj H
     refine ⟨[12,4,6,2,3,8,9,10,11],?_,?_,[],?_,?_,rfl⟩
     ·simp only [go_sem,Nat.reduceBEq]
      try exact at0
     ·simp only [go_sem,Nat.reduceBEq]
      try exact at0
     ·simp only [go_sem,Nat.reduceBEq]
      exact yY (zB (zJ (α:=TFrame)) (zB (xN (by first|rfl|simp) (fun _ _ _ _=>rfl)) (zB (yV (zB zF (zB zF (zB (xN (by first|rfl|simp) (fun _ _ _ _=>rfl)) (zB (xN (by first|rfl|simp) (fun _ _ _ _=>rfl)) zO))))) (zB zF zO))))
     ·simp only [go_sem,CvH]
    have hk28:(bLt p2 w1_6.Cat)=false:=by simpa using hc
    replace H:=zZ hc H
    refine rg zA ?_
    simp only [go_sem]
    refine zK ?_
    obtain ⟨r33,e34,H⟩:=bsi H
    refine rg ct24t7_ok ?_
    simp only [go_sem,Nat.reduceLT,Nat.reduceAdd,Nat.reduceSub,yH,ct24t7_58,qQ,e34]
    repeat ((with_reducible refine aI ?_ ?_);exact an0)
    refine zK ?_
    obtain ⟨f35,H⟩:=nI H
    refine rg zA ?_
    simp only [go_sem,Nat.reduceLeDiff,Nat.reduceLT,Nat.reduceAdd,Nat.reduceSub,reduceCtorEq,yH,f35]
    repeat ((with_reducible refine aI ?_ ?_);exact an5)
    obtain ⟨f36,H⟩:=yT.1 H
    replace f36:=delb_iff.1 f36
    refine rg ct24t8_ok ?_
    simp only [go_sem,Nat.reduceLT,Nat.reduceAdd,Nat.reduceSub,yH,ct24t8_60,delN,f36]
    repeat ((with_reducible refine aI ?_ ?_);exact an3)
    refine zK ?_
    obtain ⟨w37,hw38,H⟩:=bsj H
    have lhw38:w37.length=1:=by rw [← hw38];exact cl
    obtain ⟨w39,hw40,H⟩:=bsj H
    have lhw40:w39.length=((gd r8.List r5.1.toNat).Held).length - ((wr .i64 (r33+1)).toNat - r33.toNat):=by rw [← hw40];exact (del_len f36 cl)
    refine vO (t2:=(.ptr 4 3 r5.1.toNat 2::tp 4 (.ptr 8 0 0 0::.sl 12 41 0 w37.length false::tp 51 []))) (h2:=[.dead,.dead,.lit 25 [.int .i64 0,.int .i64 0,.ro 0 0 true (fun _ _=>.top),.ro 0 0 true (fun _ _=>.top)],.lit 25 [.int .i64 r8.Limit,.int .i64 r8.Stay,.sl 4 3 0 r8.List.length false,.sl 6 43 0 r8.Group.length false],.row 57 3 r8.List.length (upc (enR zC r8.List) r5.1.toNat 0 [.int .i64 ((gd r8.List r5.1.toNat).Aid),.bool ((gd r8.List r5.1.toNat).Asleep),.sl 13 43 0 w39.length false]),.dead,.row 61 43 r8.Group.length (enR zE r8.Group),.row 5 1 r16.Body.length (enR xM r16.Body),.lit 61 (.int .u8 p2::.int .i64 p4::.int .u8 r16.Head.Kind::.int .u8 r16.Head.Sub::.bool r16.Head.ToDs::.bool r16.Head.FromDs::.bool r16.Head.More::.bool r16.Head.Retry::.bool r16.Head.Sleep::.bool r16.Head.MoreData::.bool r16.Head.Protected::.int .i64 r16.Head.Duration::.int .u8 r16.Head.A1.x0::.int .u8 r16.Head.A1.x1::.int .u8 r16.Head.A1.x2::.int .u8 r16.Head.A1.x3::.int .u8 r16.Head.A1.x4::.int .u8 r16.Head.A1.x5::.int .u8 r16.Head.A2.x0::.int .u8 r16.Head.A2.x1::.int .u8 r16.Head.A2.x2::.int .u8 r16.Head.A2.x3::.int .u8 r16.Head.A2.x4::.int .u8 r16.Head.A2.x5::.int .u8 r16.Head.A3.x0::.int .u8 r16.Head.A3.x1::.int .u8 r16.Head.A3.x2::.int .u8 r16.Head.A3.x3::.int .u8 r16.Head.A3.x4::.int .u8 r16.Head.A3.x5::.int .u8 r16.Head.A4.x0::.int .u8 r16.Head.A4.x1::.int .u8 r16.Head.A4.x2::.int .u8 r16.Head.A4.x3::.int .u8 r16.Head.A4.x4::.int .u8 r16.Head.A4.x5::.int .i64 r16.Head.Seq::.int .i64 r16.Head.Frag::.int .i64 r16.Head.Tid::.int .u8 r16.Head.Ack::.bool r16.Head.Amsdu::.bool r16.Head.Eosp::.sl 7 1 0 r16.Body.length false::[]),.lit 61 (.int .u8 w1_6.Cat::.int .i64 w1_6.At::.int .u8 w1_6.Frame.Head.Kind::.int .u8 w1_6.Frame.Head.Sub::.bool w1_6.Frame.Head.ToDs::.bool w1_6.Frame.Head.FromDs::.bool w1_6.Frame.Head.More::.bool w1_6.Frame.Head.Retry::.bool w1_6.Frame.Head.Sleep::.bool w1_6.Frame.Head.MoreData::.bool w1_6.Frame.Head.Protected::.int .i64 w1_6.Frame.Head.Duration::.int .u8 w1_6.Frame.Head.A1.x0::.int .u8 w1_6.Frame.Head.A1.x1::.int .u8 w1_6.Frame.Head.A1.x2::.int .u8 w1_6.Frame.Head.A1.x3::.int .u8 w1_6.Frame.Head.A1.x4::.int .u8 w1_6.Frame.Head.A1.x5::.int .u8 w1_6.Frame.Head.A2.x0::.int .u8 w1_6.Frame.Head.A2.x1::.int .u8 w1_6.Frame.Head.A2.x2::.int .u8 w1_6.Frame.Head.A2.x3::.int .u8 w1_6.Frame.Head.A2.x4::.int .u8 w1_6.Frame.Head.A2.x5::.int .u8 w1_6.Frame.Head.A3.x0::.int .u8 w1_6.Frame.Head.A3.x1::.int .u8 w1_6.Frame.Head.A3.x2::.int .u8 w1_6.Frame.Head.A3.x3::.int .u8 w1_6.Frame.Head.A3.x4::.int .u8 w1_6.Frame.Head.A3.x5::.int .u8 w1_6.Frame.Head.A4.x0::.int .u8 w1_6.Frame.Head.A4.x1::.int .u8 w1_6.Frame.Head.A4.x2::.int .u8 w1_6.Frame.Head.A4.x3::.int .u8 w1_6.Frame.Head.A4.x4::.int .u8 w1_6.Frame.Head.A4.x5::.int .i64 w1_6.Frame.Head.Seq::.int .i64 w1_6.Frame.Head.Frag::.int .i64 w1_6.Frame.Head.Tid::.int .u8 w1_6.Frame.Head.Ack::.bool w1_6.Frame.Head.Amsdu::.bool w1_6.Frame.Head.Eosp::.ro 1 w1_6.Frame.Body.length false (enR xM w1_6.Frame.Body)::[]),.lit 61 (.int .u8 w1_6.Cat::.int .i64 w1_6.At::.int .u8 w1_6.Frame.Head.Kind::.int .u8 w1_6.Frame.Head.Sub::.bool w1_6.Frame.Head.ToDs::.bool w1_6.Frame.Head.FromDs::.bool w1_6.Frame.Head.More::.bool w1_6.Frame.Head.Retry::.bool w1_6.Frame.Head.Sleep::.bool w1_6.Frame.Head.MoreData::.bool w1_6.Frame.Head.Protected::.int .i64 w1_6.Frame.Head.Duration::.int .u8 w1_6.Frame.Head.A1.x0::.int .u8 w1_6.Frame.Head.A1.x1::.int .u8 w1_6.Frame.Head.A1.x2::.int .u8 w1_6.Frame.Head.A1.x3::.int .u8 w1_6.Frame.Head.A1.x4::.int .u8 w1_6.Frame.Head.A1.x5::.int .u8 w1_6.Frame.Head.A2.x0::.int .u8 w1_6.Frame.Head.A2.x1::.int .u8 w1_6.Frame.Head.A2.x2::.int .u8 w1_6.Frame.Head.A2.x3::.int .u8 w1_6.Frame.Head.A2.x4::.int .u8 w1_6.Frame.Head.A2.x5::.int .u8 w1_6.Frame.Head.A3.x0::.int .u8 w1_6.Frame.Head.A3.x1::.int .u8 w1_6.Frame.Head.A3.x2::.int .u8 w1_6.Frame.Head.A3.x3::.int .u8 w1_6.Frame.Head.A3.x4::.int .u8 w1_6.Frame.Head.A3.x5::.int .u8 w1_6.Frame.Head.A4.x0::.int .u8 w1_6.Frame.Head.A4.x1::.int .u8 w1_6.Frame.Head.A4.x2::.int .u8 w1_6.Frame.Head.A4.x3::.int .u8 w1_6.Frame.Head.A4.x4::.int .u8 w1_6.Frame.Head.A4.x5::.int .i64 w1_6.Frame.Head.Seq::.int .i64 w1_6.Frame.Head.Frag::.int .i64 w1_6.Frame.Head.Tid::.int .u8 w1_6.Frame.Head.Ack::.bool w1_6.Frame.Head.Amsdu::.bool w1_6.Frame.Head.Eosp::.ro 1 w1_6.Frame.Body.length false (enR xM w1_6.Frame.Body)::[]),.lit 5 [.int .u8 w1_6.Cat],.row 33 41 w37.length (enR zI w37),.row 61 43 w39.length (enR zE w39)]) ?_ ?_
    ·refine zT ⟨[some 0,some 1,some 2,some 3,some 4,some 5,some 6,some 7,some 8,some 9,some 10,some 11,some 12,some 13],?_,?_,by rfl,by rfl⟩
     ·simp [CvL,Cv,zX,tp,lhw38]
     ·exact ⟨zD,zD,(by simp [CvB,CvL,Cv,xH,geth]),(by simp [CvB,CvL,Cv,xH,geth,zX]),(bR (i:=r5.1.toNat) (L:=r8.List) zH (fun x y hx=>by simp only [xG hx]) (fun x y hx=>by simp only [xG hx]) (fun y hy=>match y,hy with|0,_=>by simp [yH,zL,Cv,enR,zC,lhw40]|1,_=>by simp [yH,zL,Cv,enR,zC,lhw40]|2,_=>by simp [yH,zL,Cv,zX,enR,zC,lhw40]|(y+3),h=>absurd h nlt)),zD,zS zV rfl (fun _ _ _ _=>rfl),zS nr_u8 rfl (fun _ _ _ _=>rfl),(by simp [CvB,CvL,Cv,xH,geth,zX]),(by simp [CvB,CvL,Cv,xH,geth]),(by simp [CvB,CvL,Cv,xH,geth]),(by simp [CvB,CvL,Cv,xH,geth]),zS xE lhw38 (hw38 ▸ (wF (f:=zI) [(eF ((gd ((gd r8.List r5.1.toNat).Held) r33.toNat).Frame))] (fun _ _=>rfl) rfl)),zS zV lhw40 (hw40 ▸ (del_row f36 cl (fun _ _ _ _=>rfl))),trivial⟩
    simp only [tp]
    refine kW [7] ?_ ?_
    ·simp only [go_sem,Nat.reduceBEq]
     try exact at0
    simp only [go_sem,Nat.reduceBEq,Nat.reduceAdd]
    obtain ⟨f41,H⟩:=nC H
    refine yL zQ zA 2 (by kernel_rfl) (by kernel_rfl) ?_
    intro an han
    simp only [wK,xR,vL,xrD,xoD,vM,wY,List.append_nil,xA,refs,vF,mask,xZ,place,xI,wA,xK,hit,inL,xD,ren,rnN,nrH,nrB,rZ,rS,Nat.sub_self,Nat.add_zero,Nat.zero_add,Nat.reduceSub,Nat.zero_le,Nat.lt_add_one,go_sem,Nat.reduceLeDiff,Nat.reduceLT,Nat.reduceAdd,Nat.reduceSub,Nat.reduceBEq,yH,f41]
    repeat ((with_reducible refine aI ?_ ?_);exact an2)
    refine sq zA ?_
    simp only [go_sem]
    refine rg zA ?_
    simp only [go_sem]
    refine xQ zQ zA 1 ?_
    simp only [zM,tS,tZ,dS,dZ,go_sem]
    repeat ((with_reducible refine aI ?_ ?_);exact an1)
    refine wS ?_
    refine zK ?_
    refine yL zQ zA 0 (by kernel_rfl) (by kernel_rfl) ?_
    intro an han
    simp only [wK,xR,vL,xrD,xoD,vM,wY,List.append_nil,xA,refs,mask,xZ,place,xI,wA,xK,hit,inL,xD,nrH,nrB,nrL,nr,rZ,Nat.sub_self,Nat.add_zero,Nat.zero_add,Nat.reduceSub,Nat.lt_add_one,go_sem,Nat.reduceLeDiff,Nat.reduceLT,Nat.reduceAdd,Nat.reduceSub,Nat.reduceBEq]
    repeat ((with_reducible refine aI ?_ ?_);exact an2)
    obtain ⟨w42,hw43,H⟩:=bsj H
    have lhw43:w42.length=1:=by rw [← hw43];exact cl
    obtain ⟨w44,hw45,H⟩:=bsj H
    have lhw45:w44.length=w39.length+1:=by rw [← hw45];exact cl
    refine vO (t2:=(tp 10 (.ro 0 0 true (fun _ _=>.top)::.sl 12 41 0 w37.length false::.ptr 2 0 0 0::.int .i64 0::tp 57 []))) (h2:=[.dead,.dead,.lit 25 [.int .i64 r8.Limit,.int .i64 r8.Stay,.sl 4 3 0 r8.List.length false,.sl 6 43 0 r8.Group.length false],.lit 25 [.int .i64 r8.Limit,.int .i64 r8.Stay,.sl 4 3 0 r8.List.length false,.sl 6 43 0 r8.Group.length false],.row 57 3 r8.List.length (upc (enR zC r8.List) r5.1.toNat 0 [.int .i64 ((gd r8.List r5.1.toNat).Aid),.bool ((gd r8.List r5.1.toNat).Asleep),.sl 15 43 0 w44.length false]),.dead,.row 61 43 r8.Group.length (enR zE r8.Group),.dead,.lit 61 (.int .u8 p2::.int .i64 p4::.int .u8 r16.Head.Kind::.int .u8 r16.Head.Sub::.bool r16.Head.ToDs::.bool r16.Head.FromDs::.bool r16.Head.More::.bool r16.Head.Retry::.bool r16.Head.Sleep::.bool r16.Head.MoreData::.bool r16.Head.Protected::.int .i64 r16.Head.Duration::.int .u8 r16.Head.A1.x0::.int .u8 r16.Head.A1.x1::.int .u8 r16.Head.A1.x2::.int .u8 r16.Head.A1.x3::.int .u8 r16.Head.A1.x4::.int .u8 r16.Head.A1.x5::.int .u8 r16.Head.A2.x0::.int .u8 r16.Head.A2.x1::.int .u8 r16.Head.A2.x2::.int .u8 r16.Head.A2.x3::.int .u8 r16.Head.A2.x4::.int .u8 r16.Head.A2.x5::.int .u8 r16.Head.A3.x0::.int .u8 r16.Head.A3.x1::.int .u8 r16.Head.A3.x2::.int .u8 r16.Head.A3.x3::.int .u8 r16.Head.A3.x4::.int .u8 r16.Head.A3.x5::.int .u8 r16.Head.A4.x0::.int .u8 r16.Head.A4.x1::.int .u8 r16.Head.A4.x2::.int .u8 r16.Head.A4.x3::.int .u8 r16.Head.A4.x4::.int .u8 r16.Head.A4.x5::.int .i64 r16.Head.Seq::.int .i64 r16.Head.Frag::.int .i64 r16.Head.Tid::.int .u8 r16.Head.Ack::.bool r16.Head.Amsdu::.bool r16.Head.Eosp::.ro 1 r16.Body.length false (enR xM r16.Body)::[]),.lit 61 (.int .u8 w1_6.Cat::.int .i64 w1_6.At::.int .u8 w1_6.Frame.Head.Kind::.int .u8 w1_6.Frame.Head.Sub::.bool w1_6.Frame.Head.ToDs::.bool w1_6.Frame.Head.FromDs::.bool w1_6.Frame.Head.More::.bool w1_6.Frame.Head.Retry::.bool w1_6.Frame.Head.Sleep::.bool w1_6.Frame.Head.MoreData::.bool w1_6.Frame.Head.Protected::.int .i64 w1_6.Frame.Head.Duration::.int .u8 w1_6.Frame.Head.A1.x0::.int .u8 w1_6.Frame.Head.A1.x1::.int .u8 w1_6.Frame.Head.A1.x2::.int .u8 w1_6.Frame.Head.A1.x3::.int .u8 w1_6.Frame.Head.A1.x4::.int .u8 w1_6.Frame.Head.A1.x5::.int .u8 w1_6.Frame.Head.A2.x0::.int .u8 w1_6.Frame.Head.A2.x1::.int .u8 w1_6.Frame.Head.A2.x2::.int .u8 w1_6.Frame.Head.A2.x3::.int .u8 w1_6.Frame.Head.A2.x4::.int .u8 w1_6.Frame.Head.A2.x5::.int .u8 w1_6.Frame.Head.A3.x0::.int .u8 w1_6.Frame.Head.A3.x1::.int .u8 w1_6.Frame.Head.A3.x2::.int .u8 w1_6.Frame.Head.A3.x3::.int .u8 w1_6.Frame.Head.A3.x4::.int .u8 w1_6.Frame.Head.A3.x5::.int .u8 w1_6.Frame.Head.A4.x0::.int .u8 w1_6.Frame.Head.A4.x1::.int .u8 w1_6.Frame.Head.A4.x2::.int .u8 w1_6.Frame.Head.A4.x3::.int .u8 w1_6.Frame.Head.A4.x4::.int .u8 w1_6.Frame.Head.A4.x5::.int .i64 w1_6.Frame.Head.Seq::.int .i64 w1_6.Frame.Head.Frag::.int .i64 w1_6.Frame.Head.Tid::.int .u8 w1_6.Frame.Head.Ack::.bool w1_6.Frame.Head.Amsdu::.bool w1_6.Frame.Head.Eosp::.ro 1 w1_6.Frame.Body.length false (enR xM w1_6.Frame.Body)::[]),.lit 61 (.int .u8 w1_6.Cat::.int .i64 w1_6.At::.int .u8 w1_6.Frame.Head.Kind::.int .u8 w1_6.Frame.Head.Sub::.bool w1_6.Frame.Head.ToDs::.bool w1_6.Frame.Head.FromDs::.bool w1_6.Frame.Head.More::.bool w1_6.Frame.Head.Retry::.bool w1_6.Frame.Head.Sleep::.bool w1_6.Frame.Head.MoreData::.bool w1_6.Frame.Head.Protected::.int .i64 w1_6.Frame.Head.Duration::.int .u8 w1_6.Frame.Head.A1.x0::.int .u8 w1_6.Frame.Head.A1.x1::.int .u8 w1_6.Frame.Head.A1.x2::.int .u8 w1_6.Frame.Head.A1.x3::.int .u8 w1_6.Frame.Head.A1.x4::.int .u8 w1_6.Frame.Head.A1.x5::.int .u8 w1_6.Frame.Head.A2.x0::.int .u8 w1_6.Frame.Head.A2.x1::.int .u8 w1_6.Frame.Head.A2.x2::.int .u8 w1_6.Frame.Head.A2.x3::.int .u8 w1_6.Frame.Head.A2.x4::.int .u8 w1_6.Frame.Head.A2.x5::.int .u8 w1_6.Frame.Head.A3.x0::.int .u8 w1_6.Frame.Head.A3.x1::.int .u8 w1_6.Frame.Head.A3.x2::.int .u8 w1_6.Frame.Head.A3.x3::.int .u8 w1_6.Frame.Head.A3.x4::.int .u8 w1_6.Frame.Head.A3.x5::.int .u8 w1_6.Frame.Head.A4.x0::.int .u8 w1_6.Frame.Head.A4.x1::.int .u8 w1_6.Frame.Head.A4.x2::.int .u8 w1_6.Frame.Head.A4.x3::.int .u8 w1_6.Frame.Head.A4.x4::.int .u8 w1_6.Frame.Head.A4.x5::.int .i64 w1_6.Frame.Head.Seq::.int .i64 w1_6.Frame.Head.Frag::.int .i64 w1_6.Frame.Head.Tid::.int .u8 w1_6.Frame.Head.Ack::.bool w1_6.Frame.Head.Amsdu::.bool w1_6.Frame.Head.Eosp::.ro 1 w1_6.Frame.Body.length false (enR xM w1_6.Frame.Body)::[]),.lit 5 [.int .u8 w1_6.Cat],.row 33 41 w37.length (enR zI w37),.dead,.row 61 43 w42.length (enR zE w42),.row 61 43 w44.length (enR zE w44)]) ?_ ?_
    ·refine zT ⟨[some 0,some 1,some 2,some 3,some 4,some 5,some 6,some 7,some 8,some 9,some 10,some 11,some 12,some 13,some 14,some 15],?_,?_,by rfl,by rfl⟩
     ·simp [CvL,Cv,zX,tp]
     ·exact ⟨zD,zD,(by simp [CvB,CvL,Cv,xH,geth,zX]),(by simp [CvB,CvL,Cv,xH,geth,zX]),(bR (i:=r5.1.toNat) (L:=r8.List) zH (fun x y hx=>by simp only [xG hx]) (fun x y hx=>by simp only [xG hx]) (fun y hy=>match y,hy with|0,_=>by simp [yH,zL,Cv,enR,zC,lhw45]|1,_=>by simp [yH,zL,Cv,enR,zC,lhw45]|2,_=>by simp [yH,zL,Cv,zX,enR,zC,lhw45]|(y+3),h=>absurd h nlt)),zD,zS zV rfl (fun _ _ _ _=>rfl),zD,(by simp [CvB,CvL,Cv,xH,geth]),(by simp [CvB,CvL,Cv,xH,geth]),(by simp [CvB,CvL,Cv,xH,geth]),(by simp [CvB,CvL,Cv,xH,geth]),zS xE rfl (fun _ _ _ _=>rfl),zD,zS zV lhw43 (hw43 ▸ (wF (f:=zE) [(TStored.mk p2 p4 (eF r16))] (fun _ _=>rfl) rfl)),zS zV lhw45 (hw45 ▸ (wW (f:=zE) w39 [(TStored.mk p2 p4 (eF r16))] (fun _ _ _ _=>rfl) (wF (f:=zE) [(TStored.mk p2 p4 (eF r16))] (fun _ _=>rfl) rfl))),trivial⟩
    simp only [tp]
    refine cN [15] [4] ?_ ?_
    ·simp only [go_sem,Nat.reduceBEq,Nat.reduceAdd,kV,fzObB2]
     first|exact (fT (L:=r8.List) (i:=r5.1.toNat) (fun a y=>yB (zH a) y) (fun x y hx=>by simp only [xG hx]) (fun y hy=>match y,hy with|0,_=>(by (simp [yH,zL,xP,enR,zC];all_goals (first|(with_reducible trivial)|(intros;exact yB (NRf.h _) _)|(intros;exact nfc))))|1,_=>(by (simp [yH,zL,xP,enR,zC];all_goals (first|(with_reducible trivial)|(intros;exact yB (NRf.h _) _)|(intros;exact nfc))))|2,_=>(by (simp [yH,zL,xP,inL,geth,vW,enR,zC];all_goals (first|(with_reducible trivial)|(intros;exact yB (NRf.h _) _)|(intros;exact nfc))))|(y+3),h=>absurd h nlt))|(and_intros<;>first|exact (fT (L:=r8.List) (i:=r5.1.toNat) (fun a y=>yB (zH a) y) (fun x y hx=>by simp only [xG hx]) (fun y hy=>match y,hy with|0,_=>(by (simp [yH,zL,xP,inL,geth,vW,enR,zC];all_goals (first|(with_reducible trivial)|(intros;exact yB (NRf.h _) _)|(intros;exact nfc))))|1,_=>(by (simp [yH,zL,xP,inL,geth,vW,enR,zC];all_goals (first|(with_reducible trivial)|(intros;exact yB (NRf.h _) _)|(intros;exact nfc))))|2,_=>(by (simp [yH,zL,xP,inL,geth,vW,enR,zC];all_goals (first|(with_reducible trivial)|(intros;exact yB (NRf.h _) _)|(intros;exact nfc))))|(y+3),h=>absurd h nlt))|(with_reducible trivial)|omega|exact nfc|trivial)
    simp only [go_sem,Nat.reduceBEq,Nat.reduceAdd,fzH2,eN,fzB2]
    obtain ⟨w46,hw47,H⟩:=bsj H
    have lhw47:w46.length=r8.List.length:=by rw [← hw47];exact (by simp only [List.length_set])
    refine vO (t2:=(tp 10 (.ro 0 0 true (fun _ _=>.top)::.sl 12 41 0 w37.length false::.ptr 2 0 0 0::.int .i64 0::tp 57 []))) (h2:=[.dead,.dead,.lit 25 [.int .i64 r8.Limit,.int .i64 r8.Stay,.sl 4 3 0 w46.length false,.sl 6 43 0 r8.Group.length false],.lit 25 [.int .i64 r8.Limit,.int .i64 r8.Stay,.sl 4 3 0 w46.length false,.sl 6 43 0 r8.Group.length false],.row 57 3 w46.length (enR zC w46),.dead,.row 61 43 r8.Group.length (enR zE r8.Group),.dead,.lit 61 (.int .u8 p2::.int .i64 p4::.int .u8 r16.Head.Kind::.int .u8 r16.Head.Sub::.bool r16.Head.ToDs::.bool r16.Head.FromDs::.bool r16.Head.More::.bool r16.Head.Retry::.bool r16.Head.Sleep::.bool r16.Head.MoreData::.bool r16.Head.Protected::.int .i64 r16.Head.Duration::.int .u8 r16.Head.A1.x0::.int .u8 r16.Head.A1.x1::.int .u8 r16.Head.A1.x2::.int .u8 r16.Head.A1.x3::.int .u8 r16.Head.A1.x4::.int .u8 r16.Head.A1.x5::.int .u8 r16.Head.A2.x0::.int .u8 r16.Head.A2.x1::.int .u8 r16.Head.A2.x2::.int .u8 r16.Head.A2.x3::.int .u8 r16.Head.A2.x4::.int .u8 r16.Head.A2.x5::.int .u8 r16.Head.A3.x0::.int .u8 r16.Head.A3.x1::.int .u8 r16.Head.A3.x2::.int .u8 r16.Head.A3.x3::.int .u8 r16.Head.A3.x4::.int .u8 r16.Head.A3.x5::.int .u8 r16.Head.A4.x0::.int .u8 r16.Head.A4.x1::.int .u8 r16.Head.A4.x2::.int .u8 r16.Head.A4.x3::.int .u8 r16.Head.A4.x4::.int .u8 r16.Head.A4.x5::.int .i64 r16.Head.Seq::.int .i64 r16.Head.Frag::.int .i64 r16.Head.Tid::.int .u8 r16.Head.Ack::.bool r16.Head.Amsdu::.bool r16.Head.Eosp::.ro 1 r16.Body.length false (enR xM r16.Body)::[]),.lit 61 (.int .u8 w1_6.Cat::.int .i64 w1_6.At::.int .u8 w1_6.Frame.Head.Kind::.int .u8 w1_6.Frame.Head.Sub::.bool w1_6.Frame.Head.ToDs::.bool w1_6.Frame.Head.FromDs::.bool w1_6.Frame.Head.More::.bool w1_6.Frame.Head.Retry::.bool w1_6.Frame.Head.Sleep::.bool w1_6.Frame.Head.MoreData::.bool w1_6.Frame.Head.Protected::.int .i64 w1_6.Frame.Head.Duration::.int .u8 w1_6.Frame.Head.A1.x0::.int .u8 w1_6.Frame.Head.A1.x1::.int .u8 w1_6.Frame.Head.A1.x2::.int .u8 w1_6.Frame.Head.A1.x3::.int .u8 w1_6.Frame.Head.A1.x4::.int .u8 w1_6.Frame.Head.A1.x5::.int .u8 w1_6.Frame.Head.A2.x0::.int .u8 w1_6.Frame.Head.A2.x1::.int .u8 w1_6.Frame.Head.A2.x2::.int .u8 w1_6.Frame.Head.A2.x3::.int .u8 w1_6.Frame.Head.A2.x4::.int .u8 w1_6.Frame.Head.A2.x5::.int .u8 w1_6.Frame.Head.A3.x0::.int .u8 w1_6.Frame.Head.A3.x1::.int .u8 w1_6.Frame.Head.A3.x2::.int .u8 w1_6.Frame.Head.A3.x3::.int .u8 w1_6.Frame.Head.A3.x4::.int .u8 w1_6.Frame.Head.A3.x5::.int .u8 w1_6.Frame.Head.A4.x0::.int .u8 w1_6.Frame.Head.A4.x1::.int .u8 w1_6.Frame.Head.A4.x2::.int .u8 w1_6.Frame.Head.A4.x3::.int .u8 w1_6.Frame.Head.A4.x4::.int .u8 w1_6.Frame.Head.A4.x5::.int .i64 w1_6.Frame.Head.Seq::.int .i64 w1_6.Frame.Head.Frag::.int .i64 w1_6.Frame.Head.Tid::.int .u8 w1_6.Frame.Head.Ack::.bool w1_6.Frame.Head.Amsdu::.bool w1_6.Frame.Head.Eosp::.ro 1 w1_6.Frame.Body.length false (enR xM w1_6.Frame.Body)::[]),.lit 61 (.int .u8 w1_6.Cat::.int .i64 w1_6.At::.int .u8 w1_6.Frame.Head.Kind::.int .u8 w1_6.Frame.Head.Sub::.bool w1_6.Frame.Head.ToDs::.bool w1_6.Frame.Head.FromDs::.bool w1_6.Frame.Head.More::.bool w1_6.Frame.Head.Retry::.bool w1_6.Frame.Head.Sleep::.bool w1_6.Frame.Head.MoreData::.bool w1_6.Frame.Head.Protected::.int .i64 w1_6.Frame.Head.Duration::.int .u8 w1_6.Frame.Head.A1.x0::.int .u8 w1_6.Frame.Head.A1.x1::.int .u8 w1_6.Frame.Head.A1.x2::.int .u8 w1_6.Frame.Head.A1.x3::.int .u8 w1_6.Frame.Head.A1.x4::.int .u8 w1_6.Frame.Head.A1.x5::.int .u8 w1_6.Frame.Head.A2.x0::.int .u8 w1_6.Frame.Head.A2.x1::.int .u8 w1_6.Frame.Head.A2.x2::.int .u8 w1_6.Frame.Head.A2.x3::.int .u8 w1_6.Frame.Head.A2.x4::.int .u8 w1_6.Frame.Head.A2.x5::.int .u8 w1_6.Frame.Head.A3.x0::.int .u8 w1_6.Frame.Head.A3.x1::.int .u8 w1_6.Frame.Head.A3.x2::.int .u8 w1_6.Frame.Head.A3.x3::.int .u8 w1_6.Frame.Head.A3.x4::.int .u8 w1_6.Frame.Head.A3.x5::.int .u8 w1_6.Frame.Head.A4.x0::.int .u8 w1_6.Frame.Head.A4.x1::.int .u8 w1_6.Frame.Head.A4.x2::.int .u8 w1_6.Frame.Head.A4.x3::.int .u8 w1_6.Frame.Head.A4.x4::.int .u8 w1_6.Frame.Head.A4.x5::.int .i64 w1_6.Frame.Head.Seq::.int .i64 w1_6.Frame.Head.Frag::.int .i64 w1_6.Frame.Head.Tid::.int .u8 w1_6.Frame.Head.Ack::.bool w1_6.Frame.Head.Amsdu::.bool w1_6.Frame.Head.Eosp::.ro 1 w1_6.Frame.Body.length false (enR xM w1_6.Frame.Body)::[]),.lit 5 [.int .u8 w1_6.Cat],.row 33 41 w37.length (enR zI w37),.dead,.row 61 43 w42.length (enR zE w42),.dead]) ?_ ?_
    ·refine zT ⟨[some 0,some 1,some 2,some 3,some 4,some 5,some 6,some 7,some 8,some 9,some 10,some 11,some 12,some 13,some 14,some 15],?_,?_,by rfl,by rfl⟩
     ·simp [CvL,Cv,zX,tp]
     ·exact ⟨zD,zD,(by simp [CvB,CvL,Cv,xH,geth,zX,lhw47]),(by simp [CvB,CvL,Cv,xH,geth,zX,lhw47]),zS zH lhw47 (hw47 ▸ (foc_row (L:=r8.List) (i:=r5.1.toNat) (fun a y=>yB (zH a) y) (fun x y hx=>by simp only [xG hx]) (fun y hy=>match y,hy with|0,_=>by simp [yH,zL,fzV,enR,zC]|1,_=>by simp [yH,zL,fzV,enR,zC]|2,_=>by simp [yH,zL,fzV,inL,geth,enR,zC,eV]|(y+3),h=>absurd h nlt))),zD,zS zV rfl (fun _ _ _ _=>rfl),zD,(by simp [CvB,CvL,Cv,xH,geth]),(by simp [CvB,CvL,Cv,xH,geth]),(by simp [CvB,CvL,Cv,xH,geth]),(by simp [CvB,CvL,Cv,xH,geth]),zS xE rfl (fun _ _ _ _=>rfl),zD,zS zV rfl (fun _ _ _ _=>rfl),zD,trivial⟩
    simp only [tp]
    refine rg zA ?_
    simp only [go_sem,Nat.reduceLT,Nat.reduceAdd]
    obtain rfl:=Option.some.inj H
    refine ⟨[12,4,6,2,3,8,9,10,11],?_,?_,[],?_,?_,rfl⟩
    ·simp only [go_sem,Nat.reduceBEq]
     try exact at0
    ·simp only [go_sem,Nat.reduceBEq]
     try exact at0
    ·simp only [go_sem,Nat.reduceBEq]
     exact yY (zB (zJ (α:=TFrame)) (zB (xN (by first|rfl|simp) (fun _ _ _ _=>rfl)) (zB (yV (zB zF (zB zF (zB (xN (by first|rfl|simp) (fun _ _ _ _=>rfl)) (zB (xN (by first|rfl|simp) (fun _ _ _ _=>rfl)) zO))))) (zB zF zO))))
    ·simp only [go_sem,CvH]
  ·cases hb
 ·unfold jI at hb
  split at hb<;>cases hb
noncomputable def ct56t0:Ct:=tab [(57,yF dC)]
theorem ct56t0_ok:yZ Try.prog ct56t0:=zR ok57 <| zY
theorem ct56t0_57 (l:List AV) (h:List ABlk):ct56t0 57 l h=yF dC l h:=rfl
noncomputable def F56 (p0:TStored) (p1:TStored):Option (Int) :=
 (F57 p0.Cat p1.Cat).bind fun r1=>some r1
noncomputable def body56:List AV->AR
 | [v0,v1]=>.pure (aK 43 xW v0/\aK 43 xW v1/\(F56 (yG (aL v0)) (yG (aL v1))).isSome=true) (.int .i64 (gt (F56 (yG (aL v0)) (yG (aL v1)))))
 | _=>.fail
theorem ok56:wM Try.prog 56 (yF body56):=by
 refine wE body56 (rs:=[.tmp 4]) Try.func56 (by kernel_rfl) rfl rfl ?_
 intro l ob v hb hob
 unfold body56 at hb
 split at hb
 ·rename_i v0 v1
  injection hb with q1 q2;subst q1 q2
  obtain ⟨hk0_0,hk1_0,hob⟩:=hob
  obtain ⟨r,H⟩:=oE.1 hob
  rw [H,yQ]
  have hw0:=kR hk0_0
  have hw1:=kR hk1_0
  generalize yG (aL v0)=p0 at H hw0
  generalize yG (aL v1)=p1 at H hw1
  refine ⟨[.agg (.int .u8 p0.Cat::.int .i64 p0.At::.int .u8 p0.Frame.Head.Kind::.int .u8 p0.Frame.Head.Sub::.bool p0.Frame.Head.ToDs::.bool p0.Frame.Head.FromDs::.bool p0.Frame.Head.More::.bool p0.Frame.Head.Retry::.bool p0.Frame.Head.Sleep::.bool p0.Frame.Head.MoreData::.bool p0.Frame.Head.Protected::.int .i64 p0.Frame.Head.Duration::.int .u8 p0.Frame.Head.A1.x0::.int .u8 p0.Frame.Head.A1.x1::.int .u8 p0.Frame.Head.A1.x2::.int .u8 p0.Frame.Head.A1.x3::.int .u8 p0.Frame.Head.A1.x4::.int .u8 p0.Frame.Head.A1.x5::.int .u8 p0.Frame.Head.A2.x0::.int .u8 p0.Frame.Head.A2.x1::.int .u8 p0.Frame.Head.A2.x2::.int .u8 p0.Frame.Head.A2.x3::.int .u8 p0.Frame.Head.A2.x4::.int .u8 p0.Frame.Head.A2.x5::.int .u8 p0.Frame.Head.A3.x0::.int .u8 p0.Frame.Head.A3.x1::.int .u8 p0.Frame.Head.A3.x2::.int .u8 p0.Frame.Head.A3.x3::.int .u8 p0.Frame.Head.A3.x4::.int .u8 p0.Frame.Head.A3.x5::.int .u8 p0.Frame.Head.A4.x0::.int .u8 p0.Frame.Head.A4.x1::.int .u8 p0.Frame.Head.A4.x2::.int .u8 p0.Frame.Head.A4.x3::.int .u8 p0.Frame.Head.A4.x4::.int .u8 p0.Frame.Head.A4.x5::.int .i64 p0.Frame.Head.Seq::.int .i64 p0.Frame.Head.Frag::.int .i64 p0.Frame.Head.Tid::.int .u8 p0.Frame.Head.Ack::.bool p0.Frame.Head.Amsdu::.bool p0.Frame.Head.Eosp::.ro 1 p0.Frame.Body.length false (enR xM p0.Frame.Body)::[]),.agg (.int .u8 p1.Cat::.int .i64 p1.At::.int .u8 p1.Frame.Head.Kind::.int .u8 p1.Frame.Head.Sub::.bool p1.Frame.Head.ToDs::.bool p1.Frame.Head.FromDs::.bool p1.Frame.Head.More::.bool p1.Frame.Head.Retry::.bool p1.Frame.Head.Sleep::.bool p1.Frame.Head.MoreData::.bool p1.Frame.Head.Protected::.int .i64 p1.Frame.Head.Duration::.int .u8 p1.Frame.Head.A1.x0::.int .u8 p1.Frame.Head.A1.x1::.int .u8 p1.Frame.Head.A1.x2::.int .u8 p1.Frame.Head.A1.x3::.int .u8 p1.Frame.Head.A1.x4::.int .u8 p1.Frame.Head.A1.x5::.int .u8 p1.Frame.Head.A2.x0::.int .u8 p1.Frame.Head.A2.x1::.int .u8 p1.Frame.Head.A2.x2::.int .u8 p1.Frame.Head.A2.x3::.int .u8 p1.Frame.Head.A2.x4::.int .u8 p1.Frame.Head.A2.x5::.int .u8 p1.Frame.Head.A3.x0::.int .u8 p1.Frame.Head.A3.x1::.int .u8 p1.Frame.Head.A3.x2::.int .u8 p1.Frame.Head.A3.x3::.int .u8 p1.Frame.Head.A3.x4::.int .u8 p1.Frame.Head.A3.x5::.int .u8 p1.Frame.Head.A4.x0::.int .u8 p1.Frame.Head.A4.x1::.int .u8 p1.Frame.Head.A4.x2::.int .u8 p1.Frame.Head.A4.x3::.int .u8 p1.Frame.Head.A4.x4::.int .u8 p1.Frame.Head.A4.x5::.int .i64 p1.Frame.Head.Seq::.int .i64 p1.Frame.Head.Frag::.int .i64 p1.Frame.Head.Tid::.int .u8 p1.Frame.Head.Ack::.bool p1.Frame.Head.Amsdu::.bool p1.Frame.Head.Eosp::.ro 1 p1.Frame.Body.length false (enR xM p1.Frame.Body)::[])],_,(fun E vs F=>yO hw0.1 F (fun vs F=>yO hw1.1 F (fun vs F=>F))),rfl,rfl,?_⟩
  rw [Try.ntmps56]
  simp only [lC,lN,Nat.reduceAdd,Nat.reduceSub,rS,rZ,aC,aN]
  unfold F56 at H
  try dsimp only at H
  refine sq zA ?_
  simp only [go_sem]
  refine zK ?_
  obtain ⟨r1,e2,H⟩:=bsi H
  refine rg ct56t0_ok ?_
  simp only [go_sem,Nat.reduceLeDiff,Nat.reduceLT,Nat.reduceAdd,ct56t0_57,dC,e2]
  repeat ((with_reducible refine aI ?_ ?_);exact an0)
  refine rg zA ?_
  simp only [go_sem]
  obtain rfl:=Option.some.inj H
  first|rfl|simp only [Bool.and_false,Bool.false_and,Bool.and_true,Bool.true_and]
 ·cases hb
noncomputable def F59_0 (p0:TStored) (p1:Int):Option (Bool) :=
 some (bEq p0.Cat p1)
noncomputable def eA:List AV->AR
 | [v0,v1]=>.pure (aK 43 xW v0/\rK 1 k_u8 v1/\(F59_0 (yG (aL v0)) (jD (rG v1))).isSome=true) (.bool (gt (F59_0 (yG (aL v0)) (jD (rG v1)))))
 | _=>.fail
theorem ok59_0:wM Try.prog 59 (yF eA):=by
 refine wE eA (rs:=[.tmp 3]) Try.func59 (by kernel_rfl) rfl rfl ?_
 intro l ob v hb hob
 unfold eA at hb
 split at hb
 ·rename_i v0 v1
  injection hb with q1 q2;subst q1 q2
  obtain ⟨hk0_0,hk1_0,hob⟩:=hob
  obtain ⟨r,H⟩:=oE.1 hob
  rw [H,yQ]
  have hw0:=kR hk0_0
  have hw1:=rK_wk (f:=xM) (g:=jD) (fun r h=>w_u8 h) hk1_0
  generalize yG (aL v0)=p0 at H hw0
  generalize jD (rG v1)=p1 at H hw1
  refine ⟨[.agg (.int .u8 p0.Cat::.int .i64 p0.At::.int .u8 p0.Frame.Head.Kind::.int .u8 p0.Frame.Head.Sub::.bool p0.Frame.Head.ToDs::.bool p0.Frame.Head.FromDs::.bool p0.Frame.Head.More::.bool p0.Frame.Head.Retry::.bool p0.Frame.Head.Sleep::.bool p0.Frame.Head.MoreData::.bool p0.Frame.Head.Protected::.int .i64 p0.Frame.Head.Duration::.int .u8 p0.Frame.Head.A1.x0::.int .u8 p0.Frame.Head.A1.x1::.int .u8 p0.Frame.Head.A1.x2::.int .u8 p0.Frame.Head.A1.x3::.int .u8 p0.Frame.Head.A1.x4::.int .u8 p0.Frame.Head.A1.x5::.int .u8 p0.Frame.Head.A2.x0::.int .u8 p0.Frame.Head.A2.x1::.int .u8 p0.Frame.Head.A2.x2::.int .u8 p0.Frame.Head.A2.x3::.int .u8 p0.Frame.Head.A2.x4::.int .u8 p0.Frame.Head.A2.x5::.int .u8 p0.Frame.Head.A3.x0::.int .u8 p0.Frame.Head.A3.x1::.int .u8 p0.Frame.Head.A3.x2::.int .u8 p0.Frame.Head.A3.x3::.int .u8 p0.Frame.Head.A3.x4::.int .u8 p0.Frame.Head.A3.x5::.int .u8 p0.Frame.Head.A4.x0::.int .u8 p0.Frame.Head.A4.x1::.int .u8 p0.Frame.Head.A4.x2::.int .u8 p0.Frame.Head.A4.x3::.int .u8 p0.Frame.Head.A4.x4::.int .u8 p0.Frame.Head.A4.x5::.int .i64 p0.Frame.Head.Seq::.int .i64 p0.Frame.Head.Frag::.int .i64 p0.Frame.Head.Tid::.int .u8 p0.Frame.Head.Ack::.bool p0.Frame.Head.Amsdu::.bool p0.Frame.Head.Eosp::.ro 1 p0.Frame.Body.length false (enR xM p0.Frame.Body)::[]),.rptr 1 1 0 0 (enR xM [p1])],_,(fun E vs F=>yO hw0.1 F (fun vs F=>yO hw1.1 F (fun vs F=>F))),rfl,rfl,?_⟩
  rw [Try.ntmps59]
  simp only [lC,lN,Nat.reduceAdd,Nat.reduceSub,rS,rZ,aC,aN]
  unfold F59_0 at H
  try dsimp only at H
  refine sq zA ?_
  simp only [go_sem]
  refine sq zA ?_
  simp only [go_sem,Nat.reduceLeDiff,Nat.reduceLT,Nat.reduceAdd]
  repeat ((with_reducible refine aI ?_ ?_);exact an5)
  refine rg zA ?_
  simp only [go_sem]
  obtain rfl:=Option.some.inj H
  first|rfl|simp only [Bool.and_false,Bool.false_and,Bool.and_true,Bool.true_and]
 ·cases hb
noncomputable def ct58_1t0:Ct:=tab [(59,yF eA)]
theorem ct58_1t0_ok:yZ Try.prog ct58_1t0:=zR ok59_0 <| zY
theorem ct58_1t0_59 (l:List AV) (h:List ABlk):ct58_1t0 59 l h=yF eA l h:=rfl
noncomputable def F58_1_L1 (p0:List TStored) (p1:Int) (v1_1:Int):Option (Lp (Int) ((Unit) ⊕ (Int))) :=
 bif (bLt v1_1 (p0.length:Nat)) then (need (inb v1_1 p0.length) <| (F59_0 (TStored.mk ((gd p0 v1_1.toNat).Cat) ((gd p0 v1_1.toNat).At) (eF ((gd p0 v1_1.toNat).Frame))) p1).bind fun r3=>bif r3 then (some (.done (.inr v1_1))) else (some (.next (wr .i64 (v1_1+1))))) else (some (.done (.inl ())))
noncomputable def F58_1 (p0:List TStored) (p1:Int):Option (Int) :=
 lp (xC (fun s=>F58_1_L1 p0 p1 s) 0) (fun _=>some (-1)) some
noncomputable def fZ:List AV->AR
 | [v0,.fn 59 [v1]]=>.pure (lK xW 43 v0/\rK 1 k_u8 v1/\(F58_1 (lA yG v0) (jD (rG v1))).isSome=true) (.int .i64 (gt (F58_1 (lA yG v0) (jD (rG v1)))))
 | _=>.fail
theorem ok58_1:wM Try.prog 58 (yF fZ):=by
 refine wE fZ (rs:=[.tmp 4]) Try.func58 (by kernel_rfl) rfl rfl ?_
 intro l ob v hb hob
 unfold fZ at hb
 split at hb
 ·rename_i v0 v1
  injection hb with q1 q2;subst q1 q2
  obtain ⟨hk0_0,hk1_0,hob⟩:=hob
  obtain ⟨r,H⟩:=oE.1 hob
  rw [H,yQ]
  have hw0:=qX (fun r h=>uY h) hk0_0
  have hw1:=rK_wk (f:=xM) (g:=jD) (fun r h=>w_u8 h) hk1_0
  generalize lA yG v0=p0 at H hw0
  generalize jD (rG v1)=p1 at H hw1
  refine ⟨[.ro 43 p0.length false (enR zE p0),.fn 59 [.rptr 1 1 0 0 (enR xM [p1])]],_,(fun E vs F=>yO hw0.1 F (fun vs F=>yO (fn_wk (LW_cons hw1.1 LW_nil)) F (fun vs F=>F))),rfl,rfl,?_⟩
  rw [Try.ntmps58]
  simp only [lC,lN,Nat.reduceAdd,Nat.reduceSub,rS,rZ,aC,aN]
  unfold F58_1 at H
  try dsimp only at H
  refine sq zA ?_
  simp only [go_sem]
  refine zK ?_
  refine sq zA ?_
  simp only [go_sem]
  repeat ((with_reducible refine aI ?_ ?_);exact an0)
  refine wN ?_
  refine xX (fun s:Int=>(.ro 43 p0.length false (enR zE p0)::.fn 59 [.rptr 1 1 0 0 (enR xM [p1])]::tp 5 (.int .i64 (p0.length:Nat)::.int .i64 s::tp 10 []))) (fun s=>[]) (fun e:Unit=>(tp 19 [])) (fun e=>[]) H ?_ (fun v1_1 o H hn1_1 hn2_1=>?_) (fun e H=>?_)
  ·refine zT ⟨[],?_,?_,by rfl,by rfl⟩
   ·simp [CvL,Cv,tp]
   ·trivial
  ·unfold F58_1_L1 at H
   try dsimp only at H ⊢
   try simp only [tp]
   refine sq zA ?_
   simp only [go_sem]
   refine zK ?_
   refine condM' rfl trivial (fun hc=>?_) (fun hc=>?_)
   ·have hk1:(bLt v1_1 (p0.length:Nat))=false:=by simpa using hc
    replace H:=zZ hc H
    refine rg zA ?_
    simp only [go_sem]
    refine ⟨_,(Option.some.inj H).symm,?_⟩
    refine zT ⟨[],?_,?_,by rfl,by rfl⟩
    ·simp [CvL,Cv]
    ·trivial
   have hk1:(bLt v1_1 (p0.length:Nat))=true:=by simpa using hc
   replace H:=yA hc H
   refine rg zA ?_
   simp only [go_sem]
   refine zK ?_
   refine wN ?_
   refine sq zA ?_
   simp only [go_sem]
   refine zK ?_
   obtain ⟨f2,H⟩:=nI H
   obtain ⟨r3,e4,H⟩:=bsi H
   refine rg ct58_1t0_ok ?_
   simp only [go_sem,Nat.reduceLT,Nat.reduceAdd,ct58_1t0_59,eA,f2,e4]
   repeat ((with_reducible refine aI ?_ ?_);exact an0)
   refine yM rfl trivial (fun hc=>?_) (fun hc=>?_)
   ·have hk5:(r3)=true:=by simpa using hc
    replace H:=yA hc H
    refine sq zA ?_
    simp only [go_sem]
    refine rg zA ?_
    simp only [go_sem]
    have H:=hn2_1 _ (Option.some.inj H).symm
    obtain rfl:=Option.some.inj H
    first|rfl|simp only [Bool.and_false,Bool.false_and,Bool.and_true,Bool.true_and]
   have hk5:(r3)=false:=by simpa using hc
   replace H:=zZ hc H
   refine rg zA ?_
   simp only [go_sem]
   refine rg zA ?_
   simp only [go_sem]
   refine ⟨_,(Option.some.inj H).symm,?_⟩
   refine zT ⟨[],?_,?_,by rfl,by rfl⟩
   ·simp [CvL,Cv]
   ·trivial
  ·try dsimp only at H ⊢
   try simp only [tp]
   try simp only [xS]
   refine sq zA ?_
   simp only [go_sem]
   refine rg zA ?_
   simp only [go_sem]
   obtain rfl:=Option.some.inj H
   first|rfl|simp only [Bool.and_false,Bool.false_and,Bool.and_true,Bool.true_and]
 ·cases hb
end Go.Proofs.Ytefiemaoacmdkaa
