/-
  Contracts of functions: each computes its partial function.
-/
import Derived.Test.YtefiemaoacmdkaaZEp3
namespace Go.Proofs.Ytefiemaoacmdkaa
open Go.Am
set_option maxHeartbeats 4000000
set_option maxRecDepth 20000
set_option linter.unusedVariables false
set_option linter.unusedSimpArgs false
noncomputable def bS (p0:List TFrame) (v1_1:List TFrame) (v1_2:Int):Option (Lp ((List TFrame) × Int) ((List TFrame) ⊕ (List TFrame))) :=
 bif (bLt v1_2 (p0.length:Nat)) then (need (inb v1_2 v1_1.length) <| some (.next ((v1_1.set v1_2.toNat (TFrame.mk (THeader.mk (((gd v1_1 v1_2.toNat).Head).Kind) (((gd v1_1 v1_2.toNat).Head).Sub) (((gd v1_1 v1_2.toNat).Head).ToDs) (((gd v1_1 v1_2.toNat).Head).FromDs) (((gd v1_1 v1_2.toNat).Head).More) (((gd v1_1 v1_2.toNat).Head).Retry) (((gd v1_1 v1_2.toNat).Head).Sleep) (bLt (wr .i64 (v1_2+1)) (v1_1.length:Nat)) (((gd v1_1 v1_2.toNat).Head).Protected) (((gd v1_1 v1_2.toNat).Head).Duration) (A6u8.mk ((((gd v1_1 v1_2.toNat).Head).A1).x0) ((((gd v1_1 v1_2.toNat).Head).A1).x1) ((((gd v1_1 v1_2.toNat).Head).A1).x2) ((((gd v1_1 v1_2.toNat).Head).A1).x3) ((((gd v1_1 v1_2.toNat).Head).A1).x4) ((((gd v1_1 v1_2.toNat).Head).A1).x5)) (A6u8.mk ((((gd v1_1 v1_2.toNat).Head).A2).x0) ((((gd v1_1 v1_2.toNat).Head).A2).x1) ((((gd v1_1 v1_2.toNat).Head).A2).x2) ((((gd v1_1 v1_2.toNat).Head).A2).x3) ((((gd v1_1 v1_2.toNat).Head).A2).x4) ((((gd v1_1 v1_2.toNat).Head).A2).x5)) (A6u8.mk ((((gd v1_1 v1_2.toNat).Head).A3).x0) ((((gd v1_1 v1_2.toNat).Head).A3).x1) ((((gd v1_1 v1_2.toNat).Head).A3).x2) ((((gd v1_1 v1_2.toNat).Head).A3).x3) ((((gd v1_1 v1_2.toNat).Head).A3).x4) ((((gd v1_1 v1_2.toNat).Head).A3).x5)) (A6u8.mk ((((gd v1_1 v1_2.toNat).Head).A4).x0) ((((gd v1_1 v1_2.toNat).Head).A4).x1) ((((gd v1_1 v1_2.toNat).Head).A4).x2) ((((gd v1_1 v1_2.toNat).Head).A4).x3) ((((gd v1_1 v1_2.toNat).Head).A4).x4) ((((gd v1_1 v1_2.toNat).Head).A4).x5)) (((gd v1_1 v1_2.toNat).Head).Seq) (((gd v1_1 v1_2.toNat).Head).Frag) (((gd v1_1 v1_2.toNat).Head).Tid) (((gd v1_1 v1_2.toNat).Head).Ack) (((gd v1_1 v1_2.toNat).Head).Amsdu) (((gd v1_1 v1_2.toNat).Head).Eosp)) ((gd v1_1 v1_2.toNat).Body))),wr .i64 (v1_2+1)))) else (some (.done (.inl v1_1)))
noncomputable def eR (p0:List TFrame):Option (List TFrame) :=
 lp (loopD (fun s=>bS p0 s.1 s.2) (p0,0)) (fun w1_3=>some w1_3) some
noncomputable def uW:List AV->List ABlk->ED
 | [v0],h=>.ed [slN v0] (oS 33 41 h v0/\lK wI 41 (roW h v0)/\(eR (lA yF (roW h v0))).isSome=true) (.sl 1 41 0 ((gt (eR (lA yF (roW h v0)))).length) false) [.dead,.row 33 41 ((gt (eR (lA yF (roW h v0)))).length) (enR zI (gt (eR (lA yF (roW h v0)))))]
 | _,_=>.fail
attribute [go_sem] uW
noncomputable instance lt_F52_0_L1 {p0:List TFrame}:LT (fun s=>bS p0 s.1 s.2):=⟨(fun _ _ (s:(List TFrame) × Int)=>(.sl 1 41 0 s.1.length false::tp 4 (.int .i64 (p0.length:Nat)::.int .i64 s.2::tp 14 []))),(fun _ _ s=>[.dead,.row 33 41 s.1.length (enR zI s.1)]),(fun _ _ (e:List TFrame)=>(.sl 1 41 0 e.length false::tp 20 [])),(fun _ _ e=>[.dead,.row 33 41 e.length (enR zI e)]),_,fun s=>bS.eq_1 _ _ _⟩
theorem ok52_0:yU Try.prog 52 (edC uW):=by
 refine edit_fnM uW (rs:=[.tmp 2]) Try.func52 (by kernel_rfl) rfl rfl ?_
 intro l h bs ob q0 g0 hb hob
 unfold uW at hb
 split at hb
 ·rename_i v0
  injection hb with q1 q2 q3 q4;subst q1 q2 q3 q4
  obtain ⟨hk0_0,hk0_1,hob⟩:=hob
  obtain ⟨r,H⟩:=oE.1 hob
  rw [H,gt_some]
  obtain ⟨p0,hp0⟩:∃ p0,p0=lA yF (roW h v0):=⟨_,rfl⟩
  rw [← hp0] at H
  obtain ⟨ev0,eb0⟩:=own_row2 (f:=zI) (g:=yF) (bs:=[slN v0]) (i:=0) (fun hr=>w_TFrame hr) hk0_0 hk0_1 (L:=p0) (by rw [hp0]) rfl
  refine ⟨[.sl 0 41 0 p0.length false],[.row 33 41 p0.length (enR zI p0)],rfl,⟨ev0,trivial⟩,⟨eb0,trivial⟩,⟨trivial,⟨(nfB_en wR),trivial⟩⟩,?_⟩
  rw [Try.ntmps52]
  simp only [lCl,lNl,Nat.reduceAdd,Nat.reduceSub,rS,rZ,aC,aN]
  unfold eR at H
  try dsimp only at H
  have C:=zA
  exact dr
 ·cases hb
noncomputable def F52_1:Option (List TFrame) :=
 some []
noncomputable def gP:List AV->Nat->AR
 | [.ro 0 0 true _],s=>.heap ((F52_1).isSome=true) (.sl s 41 0 ((gt F52_1).length) false) [.row 33 41 ((gt F52_1).length) (enR zI (gt F52_1))]
 | _,_=>.fail
theorem ok52_1:yU Try.prog 52 (xN gP):=by
 refine eN gP (rs:=[.tmp 2]) Try.func52 (by kernel_rfl) rfl rfl ?_
 intro l s ob v ns hb hob
 rcases hb with ⟨hb,rfl⟩|hb
 ·unfold gP at hb
  split at hb<;>cases hb
 ·unfold gP at hb
  split at hb
  ·injection hb with q1 q2 q3;subst q1 q2 q3
   obtain ⟨r,H⟩:=oE.1 hob
   rw [H,gt_some]
   refine ⟨[.ro 0 0 true (fun _ _=>.top)],.sl 0 41 0 r.length false,[.row 33 41 r.length (enR zI r)],(fun E vs F=>tR (fun _ _ h=>ro_nil h) F (fun vs F=>F)),by simp only [ren,rnN_0],⟨gO wR,trivial⟩,?_⟩
   rw [Try.ntmps52]
   simp only [lCl,lNl,Nat.reduceAdd,Nat.reduceSub,rS,rZ,aC,aN]
   unfold F52_1 at H
   try dsimp only at H
   refine sq zA ?_
   simp only [go_sem]
   refine zZ ?_
   refine sq zA ?_
   simp only [go_sem]
   repeat ((with_reducible refine aI ?_ ?_);exact an0)
   refine uJ ?_
   refine loop_roundsM 1 ?_
   refine rndM ?_
   refine sq zA ?_
   simp only [go_sem,(by decide:bLt (0) (0)=false)]
   refine zZ ?_
   refine yX rfl trivial (fun hc=>?_) (fun hc=>?_)
   ·cases hc
   refine rg zA ?_
   simp only [go_sem]
   refine sq zA ?_
   simp only [go_sem]
   refine rg zA ?_
   simp only [go_sem]
   obtain rfl:=Option.some.inj H
   refine ⟨[],?_,?_,[none],?_,?_,by rfl⟩
   ·simp only [go_sem]
   ·simp only [go_sem]
   ·simp [fzV,Cv]
   ·simp only [go_sem,CvH]
    exact qU
  ·cases hb
attribute [go_sem] gP
noncomputable def ct21dt0:Ct:=tab [(18,yR jQ)]
theorem ct21dt0_ok:wO Try.prog ct21dt0:=zE ok18 <| zU
theorem ct21dt0_18 (l:List AV) (h:List ABlk):ct21dt0 18 l h=yR jQ l h:=rfl
noncomputable def ct21dt1:Ct:=tab [(81,yR cF)]
theorem ct21dt1_ok:wO Try.prog ct21dt1:=zE ok81 <| zU
theorem ct21dt1_81 (l:List AV) (h:List ABlk):ct21dt1 81 l h=yR cF l h:=rfl
noncomputable def ct21dt2:Ct:=tab [(65,xN cE)]
theorem ct21dt2_ok:wO Try.prog ct21dt2:=zE ok65d <| zU
theorem ct21dt2_65 (l:List AV) (h:List ABlk):ct21dt2 65 l h=xN cE l h:=rfl
noncomputable def ct21dt3:Ct:=tab [(52,edC uW),(53,xN body53)]
theorem ct21dt3_ok:wO Try.prog ct21dt3:=zE ok52_0 <| zE ok53 <| zU
theorem ct21dt3_52 (l:List AV) (h:List ABlk):ct21dt3 52 l h=edC uW l h:=rfl
theorem ct21dt3_53 (l:List AV) (h:List ABlk):ct21dt3 53 l h=xN body53 l h:=rfl
noncomputable def ct21dt4:Ct:=tab [(47,yR body47)]
theorem ct21dt4_ok:wO Try.prog ct21dt4:=zE ok47 <| zU
theorem ct21dt4_47 (l:List AV) (h:List ABlk):ct21dt4 47 l h=yR body47 l h:=rfl
noncomputable def ct21dt5:Ct:=tab [(53,xN body53)]
theorem ct21dt5_53 (l:List AV) (h:List ABlk):ct21dt5 53 l h=xN body53 l h:=rfl
noncomputable def ct21dt6:Ct:=tab [(52,edC uW)]
theorem ct21dt6_52 (l:List AV) (h:List ABlk):ct21dt6 52 l h=edC uW l h:=rfl
noncomputable def ct21dt7:Ct:=tab [(52,xN gP)]
theorem ct21dt7_52 (l:List AV) (h:List ABlk):ct21dt7 52 l h=xN gP l h:=rfl
noncomputable def F21 (p0:TBuffer) (p1:Int):Option ((List TFrame) × TBuffer × Int) :=
 (F18 p0).bind fun r1=>bif (!bEq r1 0) then (some ([],(TBuffer.mk 0 0 [] []),r1)) else (bif ((bLt p1 1) || (bLt 255 p1)) then (some ([],(TBuffer.mk 0 0 [] []),2)) else ((F81 p0 p1).bind fun r5=>bif (!r5.2) then (some ([],(TBuffer.mk 0 0 [] []),6)) else ((F65 p0).bind fun r8=>need (inb r5.1 r8.List.length) <| (F53 ((gd r8.List r5.1.toNat).Held)).bind fun r11=>(eR r11).bind fun r13=>(some ((r8.List.set r5.1.toNat (TSleeper.mk ((gd r8.List r5.1.toNat).Aid) false ((gd r8.List r5.1.toNat).Held))).set r5.1.toNat (TSleeper.mk ((gd (r8.List.set r5.1.toNat (TSleeper.mk ((gd r8.List r5.1.toNat).Aid) false ((gd r8.List r5.1.toNat).Held))) r5.1.toNat).Aid) ((gd (r8.List.set r5.1.toNat (TSleeper.mk ((gd r8.List r5.1.toNat).Aid) false ((gd r8.List r5.1.toNat).Held))) r5.1.toNat).Asleep) []))).bind fun w15=>(F47 (TBuffer.mk r8.Limit r8.Stay w15 r8.Group)).bind fun r17=>bif (!r17) then ((F53 r8.Group).bind fun r20=>(eR r20).bind fun r22=>need (capb 104 (r13.length+r22.length)) <| some ((r13 ++ r22),(TBuffer.mk r8.Limit r8.Stay w15 []),0)) else ((F52_1).bind fun r25=>need (capb 104 (r13.length+r25.length)) <| some ((r13 ++ r25),(TBuffer.mk r8.Limit r8.Stay w15 r8.Group),0)))))
noncomputable def body21d (l:List AV) (s:Nat):AR:=GP (dC yK (dC (dI .i64) dN)) (fun p=>F21 p.1 p.2.1) (fun r=>.tup [.ro 41 ((r.1).length) false (enR yD (r.1)),.agg [.int .i64 ((r.2.1).Limit),.int .i64 ((r.2.1).Stay),.ro 3 (((r.2.1).List).length) false (enR zT ((r.2.1).List)),.ro 43 (((r.2.1).Group).length) false (enR zJ ((r.2.1).Group))],.int .i64 (r.2.2)]) l s
attribute [go_sem] body21d
attribute [go_sem] ct21dt0_18 ct21dt1_81 ct21dt2_65 ct21dt3_52 ct21dt3_53 ct21dt4_47 ct21dt5_53 ct21dt6_52 ct21dt7_52
noncomputable instance fi_ok21d_51:FI 51:=⟨_,_,[.tmp 4,.tmp 5,.tmp 6],_,Try.func51,by kernel_rfl,rfl,rfl,Try.ntmps51⟩
noncomputable instance fi_ok21d_54:FI 54:=⟨_,_,[.tmp 2],_,Try.func54,by kernel_rfl,rfl,rfl,Try.ntmps54⟩
theorem ok21d:yU Try.prog 21 (xN body21d):=GPo (rs:=[.tmp 4,.cell 5 25,.tmp 6]) Try.func21 (by kernel_rfl) rfl rfl Try.ntmps21 rn fun ⟨p0,p1,_⟩ r H=>by
 dsimp only [F21] at H
 refine st ?_
 refine sq zA ?_
 simp only [go_sem]
 refine zZ ?_
 refine jB ?_
 refine xS zO zA 2 ?_
 simp only [zK,tS,tZ,dSl,dZ,go_sem,Nat.reduceLT,Nat.reduceAdd]
 repeat ((with_reducible refine aI ?_ ?_);exact an0)
 refine cM (rs:=[.tmp 4,.tmp 5,.tmp 6]) Try.func51 (by kernel_rfl) rfl rfl Try.ntmps51 (caps:=[]) (tc:=[.agg [.int .i64 p0.Limit,.int .i64 p0.Stay,.ro 3 p0.List.length false (enR zC p0.List),.ro 43 p0.Group.length false (enR zD p0.Group)],.int .i64 p1]) rfl (by simp only [go_sem]) rfl ?_
 simp only [lCl,lNl,Nat.reduceAdd,Nat.reduceSub,rS,rZ,aC,aN]
 refine sq zA ?_
 simp only [go_sem,Nat.reduceAdd]
 refine zZ ?_
 refine zZ ?_
 obtain ⟨r1,e2,H⟩:=bsi H
 refine rg ct21dt0_ok ?_
 simp only [go_sem,Nat.reduceLT,Nat.reduceAdd,e2]
 repeat ((with_reducible refine aI ?_ ?_);exact an0)
 refine sq zA ?_
 simp only [go_sem]
 refine yX rfl trivial (fun hc=>?_) (fun hc=>?_)
 ·have E:=e2
  have C:=zA
  exact dr
 have hk3:(bEq r1 0)=true:=by simpa using hc
 replace H:=yM hc H
 refine rg zA ?_
 simp only [go_sem]
 refine zZ ?_
 refine sq zA ?_
 simp only [go_sem]
 repeat ((with_reducible refine aI ?_ ?_);exact an5)
 refine yX rfl trivial (fun hc=>?_) (fun hc=>?_)
 ·have E:=e2
  have B:=hk3
  have C:=zA
  exact dr
 have hk4:((bLt p1 1) || (bLt 255 p1))=false:=by simpa using hc
 replace H:=yM hc H
 refine rg zA ?_
 simp only [go_sem]
 refine zZ ?_
 obtain ⟨r5,e6,H⟩:=bsi H
 refine rg ct21dt1_ok ?_
 simp only [go_sem,Nat.reduceLT,Nat.reduceAdd,e6]
 repeat ((with_reducible refine aI ?_ ?_);exact an0)
 refine zZ ?_
 refine sq zA ?_
 simp only [go_sem]
 refine yX rfl trivial (fun hc=>?_) (fun hc=>?_)
 ·have E:=And.intro e6 (e2)
  have B:=And.intro hk4 (hk3)
  have C:=zA
  exact dr
 have hk7:(r5.2)=true:=by simpa using hc
 replace H:=yM hc H
 refine rg zA ?_
 simp only [go_sem]
 refine zZ ?_
 obtain ⟨r8,e9,H⟩:=bsi H
 refine rg ct21dt2_ok ?_
 simp only [go_sem,Nat.reduceLT,Nat.reduceAdd,e9]
 repeat ((with_reducible refine aI ?_ ?_);exact an0)
 refine zZ ?_
 obtain ⟨f10,H⟩:=zN.1 H
 replace f10:=xD.1 f10
 refine qE zO zA (by kernel_rfl) (by kernel_rfl) ?_
 simp only [go_sem,Nat.reduceLeDiff,Nat.reduceLT,Nat.reduceAdd,f10]
 repeat ((with_reducible refine aI ?_ ?_);exact an5)
 refine rg zA ?_
 simp only [go_sem]
 refine xS zO zA 7 ?_
 simp only [zK,tS,tZ,dSl,dZ,go_sem,Nat.reduceLT,Nat.reduceAdd]
 repeat ((with_reducible refine aI ?_ ?_);exact an0)
 refine vN ?_
 refine rb ?_
 simp only [rL0,rL1,rH0,rH1,rBl,dE,bH,bI,r_sl,bG,bJ,r_z,rBs,rBq,vJ,xP,xW,wQ,wE]
 refine zZ ?_
 refine sq zA ?_
 simp only [go_sem,(by decide:bEq (0) (0)=true)]
 refine yX rfl trivial (fun hc=>?_) (fun hc=>?_)
 ·cases hc
 refine rg zA ?_
 simp only [go_sem]
 refine zZ ?_
 obtain ⟨r11,e12,H⟩:=bsi H
 obtain ⟨r13,e14,H⟩:=bsi H
 refine rg ct21dt3_ok ?_
 simp only [go_sem,Nat.reduceLT,Nat.reduceAdd,e12,e14]
 repeat ((with_reducible refine aI ?_ ?_);exact an0)
 refine sq zA ?_
 simp only [go_sem,Nat.reduceLeDiff,Nat.reduceAdd]
 repeat ((with_reducible refine aI ?_ ?_);exact an5)
 refine zZ ?_
 obtain ⟨w15,hw16,H⟩:=bsi H
 replace hw16:=Option.some.inj hw16
 have lhw16:w15.length=r8.List.length:=by rw [← hw16];exact (by simp only [List.length_set])
 refine vE (t2:=(tp 4 (.sl 6 41 0 r13.length false::.ptr 1 0 0 0::.top::.ptr 2 0 0 0::tp 33 []))) (h2:=[.lit 25 [.int .i64 p0.Limit,.int .i64 p0.Stay,.top,.top],.lit 25 [.int .i64 0,.int .i64 0,.ro 0 0 true (fun _ _=>.top),.ro 0 0 true (fun _ _=>.top)],.lit 25 [.int .i64 r8.Limit,.int .i64 r8.Stay,.sl 3 3 0 w15.length false,.sl 4 43 0 r8.Group.length false],.row 57 3 w15.length (enR zC w15),.row 61 43 r8.Group.length (enR zD r8.Group),.dead,.row 33 41 r13.length (enR zI r13)]) ?_ ?_
 ·refine yH ⟨[some 0,some 1,some 2,some 3,some 4,some 5,some 6],?_,?_,by rfl,by rfl⟩
  ·simp [CvL,Cv,zQ,tp]
  ·exact ⟨(by simp [CvB,CvL,Cv,yN,geth]),(by simp [CvB,CvL,Cv,yN,geth]),(by simp [CvB,CvL,Cv,yN,geth,zQ,lhw16]),CvB_rowW lhw16 (hw16 ▸ (upc_rowW (f:=zC) (r8.List.set r5.1.toNat (TSleeper.mk ((gd r8.List r5.1.toNat).Aid) false ((gd r8.List r5.1.toNat).Held))) r5.1.toNat 2 (TSleeper.mk ((gd (r8.List.set r5.1.toNat (TSleeper.mk ((gd r8.List r5.1.toNat).Aid) false ((gd r8.List r5.1.toNat).Held))) r5.1.toNat).Aid) ((gd (r8.List.set r5.1.toNat (TSleeper.mk ((gd r8.List r5.1.toNat).Aid) false ((gd r8.List r5.1.toNat).Held))) r5.1.toNat).Asleep) []) (wk_eq zG (cY (f:=zC) r8.List r5.1.toNat 1 (TSleeper.mk ((gd r8.List r5.1.toNat).Aid) false ((gd r8.List r5.1.toNat).Held)) (fun _ _ _ _=>rfl) (fun y hy=>match y,hy with|0,_=>rfl|1,_=>rfl|2,_=>rfl|(y+3),h=>absurd h nlt))) (fun y hy μ=>match y,hy with|0,_=>by simp [zC,zL]|1,_=>by simp [zC,zL]|2,_=>by simp [zC,zL,Cv]|(y+3),h=>absurd h nlt))),zW yQ rfl (fun _ _ _ _=>rfl),zH,zW wR rfl (fun _ _ _ _=>rfl),trivial⟩
 simp only [tp]
 have E:=And.intro e14 (And.intro e12 (And.intro f10 (And.intro e9 (And.intro e6 (e2)))))
 have B:=And.intro hk7 (And.intro hk4 (hk3))
 have C:=zA
 refine ds1 ?_
 intro r17 E G B H
 refine rg ct21dt4_ok ?_
 simp only [go_sem,Nat.reduceLT,Nat.reduceAdd,E]
 repeat ((with_reducible refine aI ?_ ?_);exact an0)
 refine condM' rfl trivial (fun hc=>?_) (fun hc=>?_)
 ·have E:=And.intro e14 (And.intro e12 (And.intro f10 (And.intro e9 (And.intro e6 (And.intro e2 (E))))))
  have B:=And.intro hk7 (And.intro hk4 (And.intro hk3 (B)))
  have C:=zE ok52_1 <| zU
  exact dr
 have hk19:(r17)=false:=by simpa using hc
 replace H:=xH hc H
 refine jG [4] ?_ ?_
 ·simp only [go_sem,Nat.reduceBEq]
  try exact at0
 simp only [go_sem,Nat.reduceBEq,Nat.reduceAdd]
 have E:=And.intro E.1 (And.intro e14 (And.intro e12 (And.intro f10 (And.intro e9 (And.intro e6 (e2))))))
 have B:=And.intro hk19 (And.intro hk7 (And.intro hk4 (hk3)))
 have C:=zE ok53 <| zE ok52_0 <| zU
 exact dr
noncomputable def jD (r1:List TSleeper) (v1_1:Int) (v1_2:List TSleeper):Option (Lp (Int × (List TSleeper)) ((Int × (List TSleeper)) ⊕ (TBuffer))) :=
 bif (bLt v1_1 (r1.length:Nat)) then (need (bLt v1_1 1000000) <| need (inb v1_1 v1_2.length) <| (F93_0 ((gd v1_2 v1_1.toNat).Held)).bind fun r5=>need (inb v1_1 v1_2.length) <| some (.next (wr .i64 (v1_1+1),(v1_2.set v1_1.toNat (TSleeper.mk ((gd v1_2 v1_1.toNat).Aid) ((gd v1_2 v1_1.toNat).Asleep) r5))))) else (some (.done (.inl (v1_1,v1_2))))
noncomputable def bU (gi:Nat) (p0:TBuffer):Option (TBuffer) :=
 (F92 p0.List).bind fun r1=>lp (loopD (fun s=>jD r1 s.1 s.2) (0,r1)) (fun e=>need (bLt (gi:Int) e.1) <| (F93 p0.Group).bind fun r8=>some (TBuffer.mk p0.Limit p0.Stay e.2 r8)) some
noncomputable def tW (gi:Nat):List AV->Nat->AR
 | [v0],s=>.heap (aK 4 uA v0/\(bU gi (zY (aL v0))).isSome=true) (.agg [.int .i64 ((gt (bU gi (zY (aL v0)))).Limit),.int .i64 ((gt (bU gi (zY (aL v0)))).Stay),.sl (s) 3 0 ((gt (bU gi (zY (aL v0)))).List).length false,.sl (s+2) 43 0 ((gt (bU gi (zY (aL v0)))).Group).length false]) [.row 57 3 ((gt (bU gi (zY (aL v0)))).List).length (upc (enR zT ((gt (bU gi (zY (aL v0)))).List)) gi 2 [.sl (s+1) 43 0 ((gd ((gt (bU gi (zY (aL v0)))).List) gi).Held).length false]),.row 61 43 ((gd ((gt (bU gi (zY (aL v0)))).List) gi).Held).length (enR zJ ((gd ((gt (bU gi (zY (aL v0)))).List) gi).Held)),.row 61 43 ((gt (bU gi (zY (aL v0)))).Group).length (enR zJ ((gt (bU gi (zY (aL v0)))).Group))]
 | _,_=>.fail
theorem ok65fd (gi:Nat):yU Try.prog 65 (xN (tW gi)):=by
 refine eN (tW gi) (rs:=[.cell 2 25]) Try.func65 (by kernel_rfl) rfl rfl ?_
 intro l s ob v ns hb hob
 rcases hb with ⟨hb,rfl⟩|hb
 ·unfold tW at hb
  split at hb<;>cases hb
 ·unfold tW at hb
  split at hb
  ·rename_i v0
   injection hb with q1 q2 q3;subst q1 q2 q3
   obtain ⟨hk0_0,hob⟩:=hob
   obtain ⟨r,H⟩:=oE.1 hob
   rw [H,gt_some]
   have hw0:=fK hk0_0
   generalize zY (aL v0)=p0 at H hw0
   refine ⟨[.agg [.int .i64 p0.Limit,.int .i64 p0.Stay,.ro 3 p0.List.length false (enR zC p0.List),.ro 43 p0.Group.length false (enR zD p0.Group)]],.agg [.int .i64 (r.Limit),.int .i64 (r.Stay),.sl (0) 3 0 (r.List).length false,.sl (2) 43 0 (r.Group).length false],[.row 57 3 (r.List).length (upc (enR zT (r.List)) gi 2 [.sl (1) 43 0 ((gd (r.List) gi).Held).length false]),.row 61 43 ((gd (r.List) gi).Held).length (enR zJ ((gd (r.List) gi).Held)),.row 61 43 (r.Group).length (enR zJ (r.Group))],(fun E vs F=>tR hw0.1 F (fun vs F=>F)),by simp only [ren,tO,rnN_0,rnN_s,Nat.reduceAdd],⟨RenB_foc uM (by simp only [rnN_s]),gO zV,gO zV,trivial⟩,?_⟩
   rw [Try.ntmps65]
   simp only [lCl,lNl,Nat.reduceAdd,Nat.reduceSub,rS,rZ,aC,aN]
   unfold bU at H
   try dsimp only at H
   refine sq zA ?_
   simp only [go_sem]
   refine zZ ?_
   obtain ⟨r1,e2,H⟩:=bsi H
   refine rg ct65dt0_ok ?_
   simp only [go_sem,Nat.reduceLeDiff,Nat.reduceLT,Nat.reduceAdd,ct65dt0_92,jR,e2]
   repeat ((with_reducible refine aI ?_ ?_);exact an0)
   refine zZ ?_
   refine sq zA ?_
   simp only [go_sem,Nat.reduceLeDiff,Nat.reduceLT,Nat.reduceAdd]
   repeat ((with_reducible refine aI ?_ ?_);exact an0)
   refine uJ ?_
   have hr1:r1.length <= 140737488355328:=by
    have h:=e2;unfold F92 at h;obtain ⟨h1,h⟩:=zN.1 h;have h2:=(capb_iff.1 h1).2;have h:=Option.some.inj h;subst h;simpa using h2
   replace H:=lp_inv H (step':=fun s=>need (decide (s.2.length=r1.length)) <| jD r1 s.1 s.2) (fun s=>s.2.length=r1.length) rfl (fun s o hJ hs=>⟨zN.2 ⟨decide_eq_true hJ,hs⟩,fun s' e=>by subst e;unfold jD at hs;cases hc:bLt s.1 (r1.length:Nat)<;>simp only [hc,cond_true,cond_false] at hs;(cases Option.some.inj hs);obtain ⟨_,hs⟩:=zN.1 hs;obtain ⟨_,hs⟩:=zN.1 hs;obtain ⟨r,_,hs⟩:=bsi hs;obtain ⟨_,hs⟩:=zN.1 hs;cases Option.some.inj hs;rw [List.length_set];exact hJ⟩)
   refine wX (fun s:Int × (List TSleeper)=>(.top::.ptr 0 0 0 0::.ptr 1 0 0 0::tp 7 (.int .i64 (r1.length:Nat)::.int .i64 s.1::tp 20 []))) (fun s=>[.lit 25 [.int .i64 p0.Limit,.int .i64 p0.Stay,.sl 3 3 0 s.2.length false,.ro 43 p0.Group.length false (enR zD p0.Group)],.lit 25 [.int .i64 0,.int .i64 0,.ro 0 0 true (fun _ _=>.top),.ro 0 0 true (fun _ _=>.top)],.dead,.row 57 3 s.2.length (bif bLt (gi:Int) s.1 then upc (mixR s.1.toNat s.2) gi 2 [.sl 4 43 0 (gd s.2 gi).Held.length false] else mixR s.1.toNat s.2),.row 61 43 (bif bLt (gi:Int) s.1 then (gd s.2 gi).Held.length else 0) (enR zJ (gd s.2 gi).Held)]) (fun e:Int × (List TSleeper)=>(.top::.ptr 0 0 0 0::.ptr 1 0 0 0::tp 29 [])) (fun e=>[.lit 25 [.int .i64 p0.Limit,.int .i64 p0.Stay,.sl 3 3 0 e.2.length false,.ro 43 p0.Group.length false (enR zD p0.Group)],.lit 25 [.int .i64 0,.int .i64 0,.ro 0 0 true (fun _ _=>.top),.ro 0 0 true (fun _ _=>.top)],.dead,.row 57 3 e.2.length (bif bLt (gi:Int) e.1 then upc (enR zT e.2) gi 2 [.sl 4 43 0 (gd e.2 gi).Held.length false] else enR zT e.2),.row 61 43 (bif bLt (gi:Int) e.1 then (gd e.2 gi).Held.length else 0) (enR zJ (gd e.2 gi).Held)]) H ?_ (fun s o H hn1_1 hn2_1=>?_) (fun e H=>?_)
   ·have h0:bLt (gi:Int) 0=false:=by simp [bLt]
    try dsimp only
    simp only [h0,cond_false]
    refine yH ⟨[some 0,some 1,some 2,some 2,none],?_,?_,by rfl,by rfl⟩
    ·simp [CvL,Cv,zQ,tp]
    ·exact ⟨cv,cv,zH,CvB_con (fun x y=>wC (zG _) y) (fun x y _ _=>mix_0 r1 x y),(by simp only [CvB]),trivial⟩
   ·obtain ⟨v1_1,v1_2⟩:=s
    try dsimp only at H ⊢
    obtain ⟨fl,H⟩:=zN.1 H
    replace fl:=of_decide_eq_true fl
    unfold jD at H
    try dsimp only at H ⊢
    try simp only [tp]
    refine sq zA ?_
    simp only [go_sem,Nat.reduceAdd]
    refine zZ ?_
    refine condM' rfl trivial (fun hc=>?_) (fun hc=>?_)
    ·have hk3:(bLt v1_1 (r1.length:Nat))=false:=by simpa using hc
     replace H:=yM hc H
     refine rg zA ?_
     simp only [go_sem]
     refine ⟨_,(Option.some.inj H).symm,?_⟩
     cases hgi:bLt (gi:Int) v1_1
     ·try dsimp only
      simp only [cond_false]
      refine yH ⟨[some 0,some 1,some 2,some 3,some 4],?_,?_,by rfl,by rfl⟩
      ·simp [CvL,Cv,zQ]
      ·exact ⟨cv,cv,zH,CvB_con (fun x y=>mix_nr _ _ x y) (fun x y hx _=>(mix_end (by have:=hk3;simp only [bLt,decide_eq_false_iff_not] at this;omega) hx).symm),CvB_z,trivial⟩
     ·try dsimp only
      simp only [cond_true]
      refine yH ⟨[some 0,some 1,some 2,some 3,some 4],?_,?_,by rfl,by rfl⟩
      ·simp [CvL,Cv,zQ]
      ·exact ⟨cv,cv,zH,CvB_fS (fun x y=>mix_nr _ _ x y) (by simp [zQ]) rfl (fun x y hx _ _=>(mix_end (by have:=hk3;simp only [bLt,decide_eq_false_iff_not] at this;omega) hx).symm),zW zV rfl (fun _ _ _ _=>rfl),trivial⟩
    have hk3:(bLt v1_1 (r1.length:Nat))=true:=by simpa using hc
    replace H:=xH hc H
    refine rg zA ?_
    simp only [go_sem]
    refine zZ ?_
    refine uJ ?_
    refine sq zA ?_
    simp only [go_sem]
    obtain ⟨fz0,H⟩:=zN.1 H
    have fz0:v1_1 < 1000000:=by simpa [bLt] using fz0
    obtain ⟨f4,H⟩:=zN.1 H
    replace f4:=xD.1 f4
    obtain ⟨r5,e6,H⟩:=bsi H
    obtain ⟨f7,H⟩:=zN.1 H
    replace f7:=xD.1 f7
    have hwr:wr .i64 (v1_1+1)=v1_1+1:=wr_in (by omega)
    have hq1:(wr .i64 (v1_1+1)).toNat=v1_1.toNat+1:=by rw [hwr];omega
    have hq2:v1_1.toNat < v1_2.length:=f7.2.2
    rcases Nat.lt_trichotomy v1_1.toNat gi with hgi|hgi|hgi
    ·have hb:bLt (gi:Int) v1_1=false:=by simp only [bLt,decide_eq_false_iff_not];omega
     have hb2:bLt (gi:Int) (wr .i64 (v1_1+1))=false:=by rw [hwr];simp only [bLt,decide_eq_false_iff_not];omega
     simp only [hb,cond_false]
     refine yW zO ct65dt1_ok 0 (by kernel_rfl) (by kernel_rfl) ?_
     intro an han
     simp only [vZ,wV,qS,xrD,xoD,qT,uC,List.append_nil,xJ,refs,vC,mask,wY,place,xV,wZ,xZ,hit,inL,xK,ren,nrH,nrB,rZ,Nat.sub_self,Nat.add_zero,Nat.zero_add,Nat.reduceSub,Nat.lt_add_one,go_sem,Nat.reduceLeDiff,Nat.reduceLT,Nat.reduceAdd,Nat.reduceSub,Nat.reduceBEq,ct65dt1_93,uL,f4,e6]
     repeat ((with_reducible refine aI ?_ ?_);exact an3)
     refine rg zA ?_
     simp only [go_sem]
     refine ⟨_,(Option.some.inj H).symm,?_⟩
     try dsimp only
     simp only [hb2,cond_false]
     refine yH ⟨[some 0,some 1,some 2,some 3,some 4],?_,?_,by rfl,by rfl⟩
     ·simp [CvL,Cv,zQ]
     ·exact ⟨cv,cv,zH,CvB_mS (by simp only [nref]) hq1 hq2 (by rw [List.length_set]) (fun y hy=>match y,hy with|0,_=>(by rw [wH,if_neg (by omega)];rfl)|1,_=>(by rw [wH,if_neg (by omega)];rfl)|2,_=>(by rw [wH,if_pos ⟨rfl,rfl⟩];rfl)|y+3,h=>absurd h nlt),CvB_z,trivial⟩
    ·have hb:bLt (gi:Int) v1_1=false:=by simp only [bLt,decide_eq_false_iff_not];omega
     have hb2:bLt (gi:Int) (wr .i64 (v1_1+1))=true:=by rw [hwr];simp only [bLt,decide_eq_true_eq];omega
     have Hk:=H
     obtain rfl:=hgi
     have H:=Hk
     have e6b:F93 (gd v1_2 v1_1.toNat).Held=some r5:=by have h:=e6;unfold F93_0 at h;unfold F93;exact h
     have hgs:gd (v1_2.set v1_1.toNat (TSleeper.mk ((gd v1_2 v1_1.toNat).Aid) ((gd v1_2 v1_1.toNat).Asleep) r5)) v1_1.toNat=(TSleeper.mk ((gd v1_2 v1_1.toNat).Aid) ((gd v1_2 v1_1.toNat).Asleep) r5):=gd_set_eq (by omega)
     simp only [hb,cond_false]
     refine yW zO ct65dt2_ok 1 (by kernel_rfl) (by kernel_rfl) ?_
     intro an han
     simp only [vZ,wV,qS,xrD,xoD,qT,uC,List.append_nil,xJ,refs,vC,mask,wY,place,xV,wZ,xZ,hit,inL,xK,ren,rnN,nrH,nrB,rZ,rS,Nat.sub_self,Nat.add_zero,Nat.zero_add,Nat.reduceSub,Nat.lt_add_one,go_sem,Nat.reduceLeDiff,Nat.reduceLT,Nat.reduceAdd,Nat.reduceSub,Nat.reduceBEq,ct65dt2_93,uR,f4,e6b]
     repeat ((with_reducible refine aI ?_ ?_);exact an3)
     refine rg zA ?_
     simp only [go_sem]
     refine ⟨_,(Option.some.inj H).symm,?_⟩
     try dsimp only
     simp only [hb2,cond_true,hgs]
     refine yH ⟨[some 0,some 1,some 2,some 3,some 5],?_,?_,by rfl,by rfl⟩
     ·simp [CvL,Cv,zQ]
     ·exact ⟨cv,cv,zH,(by rw [List.length_set,hq1];exact CvB_fS (fun x y=>mix_nr _ _ x y) (by simp [zQ]) rfl (fun x y _ hy hne=>by rw [mix_set hq2];by_cases hx:x=v1_1.toNat;(subst hx;rw [if_pos rfl,mix_self];exact (match y,hy with|0,_=>rfl|1,_=>rfl|2,_=>absurd ⟨rfl,rfl⟩ hne|y+3,h=>absurd h nlt));rw [if_neg hx])),zW zV rfl (fun _ _ _ _=>rfl),trivial⟩
    ·have hb:bLt (gi:Int) v1_1=true:=by simp only [bLt,decide_eq_true_eq];omega
     have hb2:bLt (gi:Int) (wr .i64 (v1_1+1))=true:=by rw [hwr];simp only [bLt,decide_eq_true_eq];omega
     have hne:v1_1.toNat ≠ gi:=by omega
     have hgs:gd (v1_2.set v1_1.toNat (TSleeper.mk ((gd v1_2 v1_1.toNat).Aid) ((gd v1_2 v1_1.toNat).Asleep) r5)) gi=gd v1_2 gi:=gd_set_ne hne
     simp only [hb,cond_true]
     refine yW zO ct65dt1_ok 0 (by kernel_rfl) (by kernel_rfl) ?_
     intro an han
     simp only [vZ,wV,qS,xrD,xoD,qT,uC,List.append_nil,xJ,refs,vC,mask,wY,place,xV,wZ,xZ,hit,inL,xK,ren,nrH,nrB,rZ,Nat.sub_self,Nat.add_zero,Nat.zero_add,Nat.reduceSub,Nat.lt_add_one,go_sem,Nat.reduceLeDiff,Nat.reduceLT,Nat.reduceAdd,Nat.reduceSub,Nat.reduceBEq,yP hne,ct65dt1_93,uL,f4,e6]
     repeat ((with_reducible refine aI ?_ ?_);exact an3)
     refine rg zA ?_
     simp only [go_sem]
     refine ⟨_,(Option.some.inj H).symm,?_⟩
     try dsimp only
     simp only [hb2,cond_true,hgs]
     refine yH ⟨[some 0,some 1,some 2,some 3,some 4],?_,?_,by rfl,by rfl⟩
     ·simp [CvL,Cv,zQ]
     ·exact ⟨cv,cv,zH,(by rw [List.length_set,hq1];exact CvB_fC (fun x y=>mix_nr _ _ x y) hne (by simp [zQ]) rfl (fun x y _ hy _=>by rw [mix_set hq2];unfold upc;by_cases hx:x=v1_1.toNat;(subst hx;rw [if_pos rfl,mix_self];exact (match y,hy with|0,_=>(by rw [if_neg (fun w=>absurd w.2.1 (by decide))];rfl)|1,_=>(by rw [if_neg (fun w=>absurd w.2.1 (by decide))];rfl)|2,_=>(by rw [if_pos ⟨rfl,Nat.le_refl _,Nat.lt_succ_self _⟩];rfl)|y+3,h=>absurd h nlt));rw [if_neg hx,if_neg (fun w=>hx w.1)])),zW zV rfl (fun _ _ _ _=>rfl),trivial⟩
   ·obtain ⟨e1,e2⟩:=e
    try dsimp only at H ⊢
    try simp only [tp]
    try simp only [wJ]
    refine zZ ?_
    obtain ⟨fgi,H⟩:=zN.1 H
    try simp only [fgi,cond_true]
    obtain ⟨r8,e9,H⟩:=bsi H
    refine rg ct65dt2_ok ?_
    simp only [go_sem,Nat.reduceLT,Nat.reduceAdd,ct65dt2_93,uR,e9]
    repeat ((with_reducible refine aI ?_ ?_);exact an0)
    refine sq zA ?_
    simp only [go_sem,Nat.reduceLT,Nat.reduceAdd]
    repeat ((with_reducible refine aI ?_ ?_);exact an5)
    refine rg zA ?_
    simp only [go_sem,Nat.reduceLT,Nat.reduceAdd]
    obtain rfl:=Option.some.inj H
    refine ⟨[],?_,?_,[some 3,some 4,some 5],?_,?_,by rfl⟩
    ·simp only [go_sem]
    ·simp only [go_sem]
    ·simp [fzV,fzL,inL,Cv,CvL,zQ]
     all_goals first|exact cl|exact cl
    ·simp only [go_sem,CvH]
     exact ⟨CvB_focI uM (by simp [zQ]) rfl rfl,zW zV rfl (fun _ _ _ _=>rfl),zW zV cl (fun _ _ _ _=>rfl)⟩
  ·cases hb
attribute [go_sem] tW
noncomputable def F62 (p0:List TStored) (p1:Int):Option (Bool) :=
 need (bif (bLt 0 (p0.length:Nat)) then inb (wr .i64 ((p0.length:Nat) - 1)) p0.length else true) <| some ((bLt 0 (p0.length:Nat)) && (bLt p1 ((gd p0 ((wr .i64 ((p0.length:Nat) - 1)).toNat)).At)))
noncomputable def body62 (l:List AV):AR:=PP (dC xI (dC (dI .i64) dN)) (fun p=>F62 p.1 p.2.1) (fun r=>.bool r) l
attribute [go_sem] body62
theorem ok62:yU Try.prog 62 (yR body62):=PPo (rs:=[.tmp 4]) Try.func62 (by kernel_rfl) rfl rfl Try.ntmps62 (fun _=>rfl) fun ⟨p0,p1,_⟩ r H=>by
 have C:=zA
 dsimp only [F62] at H
 exact dq
noncomputable def F88 (p0:Int):Option (Bool) :=
 some (!bEq p0 p0)
noncomputable def body88 (l:List AV):AR:=PP (dC (dI .u8) dN) (fun p=>F88 p.1) (fun r=>.bool r) l
attribute [go_sem] body88
theorem ok88:yU Try.prog 88 (yR body88):=PPo (rs:=[.tmp 2]) Try.func88 (by kernel_rfl) rfl rfl Try.ntmps88 (fun _=>rfl) fun ⟨p0,_⟩ r H=>by
 have C:=zA
 dsimp only [F88] at H
 exact dq
noncomputable def F57 (p0:Int) (p1:Int):Option (Int) :=
 (F88 p0).bind fun r1=>(F88 p1).bind fun r3=>bif r1 then (bif r3 then (some 0) else (some (-1))) else (bif r3 then (some 1) else (bif (bLt p0 p1) then (some (-1)) else (bif (bLt p1 p0) then (some 1) else (some 0))))
noncomputable def body57 (l:List AV):AR:=PP (dC (dI .u8) (dC (dI .u8) dN)) (fun p=>F57 p.1 p.2.1) (fun r=>.int .i64 r) l
attribute [go_sem] body57
theorem ok57:yU Try.prog 57 (yR body57):=PPo (rs:=[.tmp 4]) Try.func57 (by kernel_rfl) rfl rfl Try.ntmps57 (fun _=>rfl) fun ⟨p0,p1,_⟩ r H=>by
 have C:=zE ok88 <| zU
 dsimp only [F57] at H
 exact dq
noncomputable def F90 (p0:TStored) (p1:TStored):Option (Int) :=
 (F57 p0.Cat p1.Cat).bind fun r1=>some r1
noncomputable def body90 (l:List AV):AR:=PP (dC uF (dC uF dN)) (fun p=>F90 p.1 p.2.1) (fun r=>.int .i64 r) l
attribute [go_sem] body90
theorem ok90:yU Try.prog 90 (yR body90):=PPo (rs:=[.tmp 4]) Try.func90 (by kernel_rfl) rfl rfl Try.ntmps90 (fun _=>rfl) fun ⟨p0,p1,_⟩ r H=>by
 have C:=zE ok57 <| zU
 dsimp only [F90] at H
 exact dq
noncomputable def F91_0 (p0:TStored) (p1:Int):Option (Bool) :=
 some (bEq p0.Cat p1)
noncomputable def body91_0 (l:List AV):AR:=PP (dC uF (dC dr_u8 dN)) (fun p=>F91_0 p.1 p.2.1) (fun r=>.bool r) l
attribute [go_sem] body91_0
theorem ok91_0:yU Try.prog 91 (yR body91_0):=PPo (rs:=[.tmp 3]) Try.func91 (by kernel_rfl) rfl rfl Try.ntmps91 (fun _=>rfl) fun ⟨p0,p1,_⟩ r H=>by
 have C:=zA
 dsimp only [F91_0] at H
 exact dq
noncomputable def F58_0_L1 (p0:List TStored) (p1:Int) (v1_1:Int):Option (Lp (Int) ((Unit) ⊕ (Int))) :=
 bif (bLt v1_1 (p0.length:Nat)) then (need (inb v1_1 p0.length) <| (F91_0 (TStored.mk ((gd p0 v1_1.toNat).Cat) ((gd p0 v1_1.toNat).At) (eF ((gd p0 v1_1.toNat).Frame))) p1).bind fun r3=>bif r3 then (some (.done (.inr v1_1))) else (some (.next (wr .i64 (v1_1+1))))) else (some (.done (.inl ())))
noncomputable def F58_0 (p0:List TStored) (p1:Int):Option (Int) :=
 lp (loopD (fun s=>F58_0_L1 p0 p1 s) 0) (fun _=>some (-1)) some
noncomputable def bX (l:List AV):AR:=PP (dC xI (dC (dF 91 (dC dr_u8 dN) (lC1 lN0)) dN)) (fun p=>F58_0 p.1 p.2.1.1) (fun r=>.int .i64 r) l
attribute [go_sem] bX
noncomputable instance lt_F58_0_L1 {p0:List TStored} {p1:Int}:LT (fun s=>F58_0_L1 p0 p1 s):=⟨(fun _ _ (s:Int)=>(.ro 43 p0.length false (enR zD p0)::.fn 91 [.rptr 1 1 0 0 (enR xA [p1])]::tp 5 (.int .i64 (p0.length:Nat)::.int .i64 s::tp 10 []))),(fun _ _ s=>[]),(fun _ _ (e:Unit)=>(tp 19 [])),(fun _ _ e=>[]),_,fun s=>F58_0_L1.eq_1 _ _ _⟩
theorem ok58_0:yU Try.prog 58 (yR bX):=PPo (rs:=[.tmp 4]) Try.func58 (by kernel_rfl) rfl rfl Try.ntmps58 (fun _=>rfl) fun ⟨p0,⟨p1,_⟩,_⟩ r H=>by
 have C:=zE ok91_0 <| zU
 dsimp only [F58_0] at H
 exact dq
theorem tik60_1:tintk Try.prog 23=false:=by kernel_rfl
theorem okF60:yU Try.prog 60 (delF 61 43):=by
 refine edit1_fn (sh:=fun _=>none) (fun _ _ h=>by cases h) zA (delF 61 43) (rs:=[.tmp 6]) Try.func60 (by kernel_rfl) rfl rfl delF_np ?_
 intro E h l vs ob v h' H F hc hob
 unfold delF at hc
 split at hc
 ·rename_i b es' i n nl p q
  split at hc
  ·rename_i e' es2 NN c hb
   injection hc with q1 q2 q3
   subst q1 q2 q3
   obtain ⟨rfl,rfl,rfl,hN,hpq,hqn,hfl⟩:=hob
   have hx:=F
   obtain ⟨vs⟩:=vs
   match vs,F.1 with
   | [u1,u2,u3],_ =>
    obtain ⟨cap,hcap,hV⟩:=csl_of_sl (only_sl (F.2 0 _ u1 rfl rfl))
    have g2:=F.2 1 _ u2 rfl rfl
    have g3:=F.2 2 _ u3 rfl rfl
    obtain rfl:=vM g2
    obtain rfl:=vM g3
    refine ⟨b,61,43,NN,c,n - (q - p),delA i p (q - p) c,[.csl 0 43 i n cap,.int .i64 p,.int .i64 q],hb,fun x y hx hy=>(hfl x y hx hy).1,fun x y hx hy=>?_,rfl,rfl,?_,?_⟩
    ·unfold delA
     split<;>exact hfl _ _ (by omega) hy
    ·refine ⟨rfl,fun j a w ha hw=>?_⟩
     match j with
     | 0=>simp at ha hw;subst ha hw;exact hV
     | 1=>simp at ha hw;subst ha hw;exact .int _ _
     | 2=>simp at ha hw;subst ha hw;exact .int _ _
     | j+3=>simp at ha
    ·rw [Try.ntmps60]
     show wpC _ _ _ _ _ (.csl 0 43 i n cap::.int .i64 p::.int .i64 q::.top::.top::.top::.top::.top::.top::.top::.top::.top::.top::.top::.top::.top::.top::.top::.top::.top::.top::.top::.top::.top::.top::.top::.top::.top::.top::.top::.top::.top::.top::[]) _
     have hpq':((p:Int) == (q:Int))=false:=by simp;omega
     simp only [go_sem,bEq,Option.isSome_some,Option.isNone_some,Int.toNat_natCast,hpq']
     refine ⟨by omega,?_⟩
     refine yW (sh:=fun _=>none) (fun _ _ h=>by cases h) zA 0 (by kernel_rfl) (by kernel_rfl) ?_
     intro an han
     have hdc:decide (p+(n - q) <= cap)=true:=by simp;omega
     simp only [go_sem,Nat.reduceLeDiff,Nat.reduceAdd,Nat.reduceSub,jE,gV,jS,tik60_1,Option.isNone_some,Option.isSome_none,Option.isNone_none,Int.toNat_natCast,hdc,Nat.sub_zero,vZ,wV,qS,xJ,refs,vC,mask,wY,place,xV,wZ,xZ,hit,inL,xK,ren,rnN,nrH,nrB,rZ,Bool.or_false,Bool.or_true,Bool.true_or,Bool.and_false,Bool.false_and,Nat.sub_self,Nat.add_zero,Nat.zero_add,Nat.reduceSub,Nat.lt_add_one]
     have hm:p+(n - q)=n - (q - p):=by omega
     refine ⟨by omega,by omega,by omega,by omega,by omega,?_⟩
     rw [hm]
     refine conv_move (b:=0) rfl (by omega) (by omega) fun x y hx hy=>?_
     unfold gB delA wL
     rw [if_neg (by omega)]
     by_cases hxp:x < p
     ·rw [if_neg (by omega),if_pos hxp]
     ·rw [if_pos (by omega),if_neg hxp]
      congr 1
      omega
  ·cases hc
 ·cases hc
theorem ok60:yU Try.prog 60 (delN 61 43):=delN_ok okF60
end Go.Proofs.Ytefiemaoacmdkaa
