/-
  Contracts of functions: each computes its partial function.
-/
import Derived.Test.YtnclkplbeenmdaaFC
namespace Go.Proofs.Ytnclkplbeenmdaa
open Go.Am
set_option maxHeartbeats 4000000
set_option maxRecDepth 20000
set_option linter.unusedVariables false
set_option linter.unusedSimpArgs false
noncomputable def F57 (p0:A6u8) (p1:A6u8):Option (TFrame) :=
 some (TFrame.mk (THeader.mk 2 12 false true false false false false false 0 (A6u8.mk p0.x0 p0.x1 p0.x2 p0.x3 p0.x4 p0.x5) (A6u8.mk p1.x0 p1.x1 p1.x2 p1.x3 p1.x4 p1.x5) (A6u8.mk p1.x0 p1.x1 p1.x2 p1.x3 p1.x4 p1.x5) (A6u8.mk 0 0 0 0 0 0) 0 0 0 0 false false) [])
noncomputable def body57:List AV->List ABlk->ED
 | [v0,v1],h=>.ed [] (aK 6 k_A6u8 (roD (deadL h []) v0)/\roDOb (deadL h []) v0/\aK 6 k_A6u8 (roD (deadL h []) v1)/\roDOb (deadL h []) v1/\(F57 (g_A6u8 (aL (roD (deadL h []) v0))) (g_A6u8 (aL (roD (deadL h []) v1)))).isSome=true) (.agg (.int .u8 (((gt (F57 (g_A6u8 (aL (roD (deadL h []) v0))) (g_A6u8 (aL (roD (deadL h []) v1))))).Head).Kind)::.int .u8 (((gt (F57 (g_A6u8 (aL (roD (deadL h []) v0))) (g_A6u8 (aL (roD (deadL h []) v1))))).Head).Sub)::.bool (((gt (F57 (g_A6u8 (aL (roD (deadL h []) v0))) (g_A6u8 (aL (roD (deadL h []) v1))))).Head).ToDs)::.bool (((gt (F57 (g_A6u8 (aL (roD (deadL h []) v0))) (g_A6u8 (aL (roD (deadL h []) v1))))).Head).FromDs)::.bool (((gt (F57 (g_A6u8 (aL (roD (deadL h []) v0))) (g_A6u8 (aL (roD (deadL h []) v1))))).Head).More)::.bool (((gt (F57 (g_A6u8 (aL (roD (deadL h []) v0))) (g_A6u8 (aL (roD (deadL h []) v1))))).Head).Retry)::.bool (((gt (F57 (g_A6u8 (aL (roD (deadL h []) v0))) (g_A6u8 (aL (roD (deadL h []) v1))))).Head).Sleep)::.bool (((gt (F57 (g_A6u8 (aL (roD (deadL h []) v0))) (g_A6u8 (aL (roD (deadL h []) v1))))).Head).MoreData)::.bool (((gt (F57 (g_A6u8 (aL (roD (deadL h []) v0))) (g_A6u8 (aL (roD (deadL h []) v1))))).Head).Protected)::.int .i64 (((gt (F57 (g_A6u8 (aL (roD (deadL h []) v0))) (g_A6u8 (aL (roD (deadL h []) v1))))).Head).Duration)::.int .u8 ((((gt (F57 (g_A6u8 (aL (roD (deadL h []) v0))) (g_A6u8 (aL (roD (deadL h []) v1))))).Head).A1).x0)::.int .u8 ((((gt (F57 (g_A6u8 (aL (roD (deadL h []) v0))) (g_A6u8 (aL (roD (deadL h []) v1))))).Head).A1).x1)::.int .u8 ((((gt (F57 (g_A6u8 (aL (roD (deadL h []) v0))) (g_A6u8 (aL (roD (deadL h []) v1))))).Head).A1).x2)::.int .u8 ((((gt (F57 (g_A6u8 (aL (roD (deadL h []) v0))) (g_A6u8 (aL (roD (deadL h []) v1))))).Head).A1).x3)::.int .u8 ((((gt (F57 (g_A6u8 (aL (roD (deadL h []) v0))) (g_A6u8 (aL (roD (deadL h []) v1))))).Head).A1).x4)::.int .u8 ((((gt (F57 (g_A6u8 (aL (roD (deadL h []) v0))) (g_A6u8 (aL (roD (deadL h []) v1))))).Head).A1).x5)::.int .u8 ((((gt (F57 (g_A6u8 (aL (roD (deadL h []) v0))) (g_A6u8 (aL (roD (deadL h []) v1))))).Head).A2).x0)::.int .u8 ((((gt (F57 (g_A6u8 (aL (roD (deadL h []) v0))) (g_A6u8 (aL (roD (deadL h []) v1))))).Head).A2).x1)::.int .u8 ((((gt (F57 (g_A6u8 (aL (roD (deadL h []) v0))) (g_A6u8 (aL (roD (deadL h []) v1))))).Head).A2).x2)::.int .u8 ((((gt (F57 (g_A6u8 (aL (roD (deadL h []) v0))) (g_A6u8 (aL (roD (deadL h []) v1))))).Head).A2).x3)::.int .u8 ((((gt (F57 (g_A6u8 (aL (roD (deadL h []) v0))) (g_A6u8 (aL (roD (deadL h []) v1))))).Head).A2).x4)::.int .u8 ((((gt (F57 (g_A6u8 (aL (roD (deadL h []) v0))) (g_A6u8 (aL (roD (deadL h []) v1))))).Head).A2).x5)::.int .u8 ((((gt (F57 (g_A6u8 (aL (roD (deadL h []) v0))) (g_A6u8 (aL (roD (deadL h []) v1))))).Head).A3).x0)::.int .u8 ((((gt (F57 (g_A6u8 (aL (roD (deadL h []) v0))) (g_A6u8 (aL (roD (deadL h []) v1))))).Head).A3).x1)::.int .u8 ((((gt (F57 (g_A6u8 (aL (roD (deadL h []) v0))) (g_A6u8 (aL (roD (deadL h []) v1))))).Head).A3).x2)::.int .u8 ((((gt (F57 (g_A6u8 (aL (roD (deadL h []) v0))) (g_A6u8 (aL (roD (deadL h []) v1))))).Head).A3).x3)::.int .u8 ((((gt (F57 (g_A6u8 (aL (roD (deadL h []) v0))) (g_A6u8 (aL (roD (deadL h []) v1))))).Head).A3).x4)::.int .u8 ((((gt (F57 (g_A6u8 (aL (roD (deadL h []) v0))) (g_A6u8 (aL (roD (deadL h []) v1))))).Head).A3).x5)::.int .u8 ((((gt (F57 (g_A6u8 (aL (roD (deadL h []) v0))) (g_A6u8 (aL (roD (deadL h []) v1))))).Head).A4).x0)::.int .u8 ((((gt (F57 (g_A6u8 (aL (roD (deadL h []) v0))) (g_A6u8 (aL (roD (deadL h []) v1))))).Head).A4).x1)::.int .u8 ((((gt (F57 (g_A6u8 (aL (roD (deadL h []) v0))) (g_A6u8 (aL (roD (deadL h []) v1))))).Head).A4).x2)::.int .u8 ((((gt (F57 (g_A6u8 (aL (roD (deadL h []) v0))) (g_A6u8 (aL (roD (deadL h []) v1))))).Head).A4).x3)::.int .u8 ((((gt (F57 (g_A6u8 (aL (roD (deadL h []) v0))) (g_A6u8 (aL (roD (deadL h []) v1))))).Head).A4).x4)::.int .u8 ((((gt (F57 (g_A6u8 (aL (roD (deadL h []) v0))) (g_A6u8 (aL (roD (deadL h []) v1))))).Head).A4).x5)::.int .i64 (((gt (F57 (g_A6u8 (aL (roD (deadL h []) v0))) (g_A6u8 (aL (roD (deadL h []) v1))))).Head).Seq)::.int .i64 (((gt (F57 (g_A6u8 (aL (roD (deadL h []) v0))) (g_A6u8 (aL (roD (deadL h []) v1))))).Head).Frag)::.int .i64 (((gt (F57 (g_A6u8 (aL (roD (deadL h []) v0))) (g_A6u8 (aL (roD (deadL h []) v1))))).Head).Tid)::.int .u8 (((gt (F57 (g_A6u8 (aL (roD (deadL h []) v0))) (g_A6u8 (aL (roD (deadL h []) v1))))).Head).Ack)::.bool (((gt (F57 (g_A6u8 (aL (roD (deadL h []) v0))) (g_A6u8 (aL (roD (deadL h []) v1))))).Head).Amsdu)::.bool (((gt (F57 (g_A6u8 (aL (roD (deadL h []) v0))) (g_A6u8 (aL (roD (deadL h []) v1))))).Head).Eosp)::.sl 0 1 0 (((gt (F57 (g_A6u8 (aL (roD (deadL h []) v0))) (g_A6u8 (aL (roD (deadL h []) v1))))).Body).length) false::[])) [.row 5 1 (((gt (F57 (g_A6u8 (aL (roD (deadL h []) v0))) (g_A6u8 (aL (roD (deadL h []) v1))))).Body).length) (enR d_u8 ((gt (F57 (g_A6u8 (aL (roD (deadL h []) v0))) (g_A6u8 (aL (roD (deadL h []) v1))))).Body))]
 | _,_=>.fail
theorem ok57:FnOk Try.prog 57 (edC body57):=by
 refine edit_fnV body57 (rs:=[.cell 4 30]) Try.func57 (by kernel_rfl) rfl rfl ?_
 intro l h bs ob q0 g0 hb hob
 unfold body57 at hb
 split at hb
 ·rename_i v0 v1
  injection hb with q1 q2 q3 q4;subst q1 q2 q3 q4
  obtain ⟨hk0_0,hk0_1,hk1_0,hk1_1,hob⟩:=hob
  obtain ⟨r,H⟩:=Option.isSome_iff_exists.1 hob
  rw [H,gt_some]
  have hw0:=wA_A6u8 hk0_0
  obtain ⟨p0,hp_p0⟩:∃ p0,p0=g_A6u8 (aL (roD (deadL h []) v0)):=⟨_,rfl⟩
  rw [← hp_p0] at H hw0
  have hw1:=wA_A6u8 hk1_0
  obtain ⟨p1,hp_p1⟩:∃ p1,p1=g_A6u8 (aL (roD (deadL h []) v1)):=⟨_,rfl⟩
  rw [← hp_p1] at H hw1
  refine ⟨[.agg [.int .u8 p0.x0,.int .u8 p0.x1,.int .u8 p0.x2,.int .u8 p0.x3,.int .u8 p0.x4,.int .u8 p0.x5],.agg [.int .u8 p1.x0,.int .u8 p1.x1,.int .u8 p1.x2,.int .u8 p1.x3,.int .u8 p1.x4,.int .u8 p1.x5]],[],rfl,⟨(EW_view hk0_1 hw0),⟨(EW_view hk1_1 hw1),trivial⟩⟩,trivial,trivial,⟨(nfB_en nr_d_u8),trivial⟩,⟨noroB_en,trivial⟩,(by first|(simp only [noro,noroL,and_self];done)|(simp only [noro,noroL];and_intros<;>first|trivial|exact noro_bif (by simp only [noro]) (by simp only [noro])|(simp only [noro,noroL,and_self]))),?_⟩
  rw [Try.ntmps57]
  simp only [List.length_cons,List.length_nil,Nat.reduceAdd,Nat.reduceSub,List.replicate_succ,List.replicate_zero,List.cons_append,List.nil_append]
  unfold F57 at H
  try dsimp only at H
  refine sq ctNo_ok ?_
  simp only [go_sem,Nat.reduceAdd]
  refine sq ctNo_ok ?_
  simp only [go_sem,Nat.reduceLeDiff,Nat.reduceLT,Nat.reduceAdd]
  repeat ((with_reducible refine And.intro ?_ ?_);focus (first|(with_reducible trivial)|omega|grind))
  refine rg ctNo_ok ?_
  simp only [go_sem,Nat.reduceLT,Nat.reduceAdd]
  obtain rfl:=Option.some.inj H
  refine RetE_mk [] [none] ?_ ?_ ?_ ?_ (by rfl) (by rfl)
  ·simp only [go_sem]
   try (and_intros<;>first|(with_reducible trivial)|omega|exact nfc|trivial)
  ·simp only [go_sem]
   try (and_intros<;>first|(with_reducible trivial)|omega|exact nfc|trivial)
  ·simp only [go_sem]
   exact (by first|(simp [Cv,CvL];done)|(simp [Cv,CvL,getM,gt_some];omega))
  ·simp only [go_sem,CvH]
   exact CvB_none
 ·cases hb
noncomputable def ct29t0:Ct:=tab [(20,pureC body20),(34,pureC body34)]
theorem ct29t0_ok:CtOk Try.prog ct29t0:=tab_cons ok20 <| tab_cons ok34 <| tab_nil
theorem ct29t0_20 (l:List AV) (h:List ABlk):ct29t0 20 l h=pureC body20 l h:=rfl
theorem ct29t0_34 (l:List AV) (h:List ABlk):ct29t0 34 l h=pureC body34 l h:=rfl
noncomputable def ct29t1:Ct:=tab [(52,pureC body52_1)]
theorem ct29t1_ok:CtOk Try.prog ct29t1:=tab_cons ok52_1 <| tab_nil
theorem ct29t1_52 (l:List AV) (h:List ABlk):ct29t1 52 l h=pureC body52_1 l h:=rfl
noncomputable def ct29t2 (gi:Nat):Ct:=tab [(54,genC (body54f gi))]
theorem ct29t2_ok (gi:Nat):CtOk Try.prog (ct29t2 gi):=tab_cons (ok54f gi) <| tab_nil
theorem ct29t2_54 (gi:Nat) (l:List AV) (h:List ABlk):(ct29t2 gi) 54 l h=genC (body54f gi) l h:=rfl
noncomputable def ct29t3:Ct:=tab [(56,pureC body56_0)]
theorem ct29t3_ok:CtOk Try.prog ct29t3:=tab_cons ok56_0 <| tab_nil
theorem ct29t3_56 (l:List AV) (h:List ABlk):ct29t3 56 l h=pureC body56_0 l h:=rfl
noncomputable def ct29t4:Ct:=tab [(73,delN 73 43)]
theorem ct29t4_ok:CtOk Try.prog ct29t4:=tab_cons ok73 <| tab_nil
theorem ct29t4_73 (l:List AV) (h:List ABlk):ct29t4 73 l h=delN 73 43 l h:=rfl
noncomputable def ct29t5:Ct:=tab [(49,pureC body49_0)]
theorem ct29t5_ok:CtOk Try.prog ct29t5:=tab_cons ok49_0 <| tab_nil
theorem ct29t5_49 (l:List AV) (h:List ABlk):ct29t5 49 l h=pureC body49_0 l h:=rfl
noncomputable def ct29t6:Ct:=tab [(57,edC body57)]
theorem ct29t6_ok:CtOk Try.prog ct29t6:=tab_cons ok57 <| tab_nil
theorem ct29t6_57 (l:List AV) (h:List ABlk):ct29t6 57 l h=edC body57 l h:=rfl
noncomputable def F29_L2 (p1:TTriggerPlan) (v1_2:List TStored) (v2_1:Int) (v2_2:Int):Option (Lp (Int × Int) ((Int) ⊕ (TPeriod × TBuffer × Int))) :=
 bif (bLt v2_2 (v1_2.length:Nat)) then (need (inb v2_2 v1_2.length) <| (F56_0 p1.Deliver (TStored.mk ((gd v1_2 v2_2.toNat).Cat) ((gd v1_2 v2_2.toNat).At) (TFrame.mk (THeader.mk ((((gd v1_2 v2_2.toNat).Frame).Head).Kind) ((((gd v1_2 v2_2.toNat).Frame).Head).Sub) ((((gd v1_2 v2_2.toNat).Frame).Head).ToDs) ((((gd v1_2 v2_2.toNat).Frame).Head).FromDs) ((((gd v1_2 v2_2.toNat).Frame).Head).More) ((((gd v1_2 v2_2.toNat).Frame).Head).Retry) ((((gd v1_2 v2_2.toNat).Frame).Head).Sleep) ((((gd v1_2 v2_2.toNat).Frame).Head).MoreData) ((((gd v1_2 v2_2.toNat).Frame).Head).Protected) ((((gd v1_2 v2_2.toNat).Frame).Head).Duration) (A6u8.mk (((((gd v1_2 v2_2.toNat).Frame).Head).A1).x0) (((((gd v1_2 v2_2.toNat).Frame).Head).A1).x1) (((((gd v1_2 v2_2.toNat).Frame).Head).A1).x2) (((((gd v1_2 v2_2.toNat).Frame).Head).A1).x3) (((((gd v1_2 v2_2.toNat).Frame).Head).A1).x4) (((((gd v1_2 v2_2.toNat).Frame).Head).A1).x5)) (A6u8.mk (((((gd v1_2 v2_2.toNat).Frame).Head).A2).x0) (((((gd v1_2 v2_2.toNat).Frame).Head).A2).x1) (((((gd v1_2 v2_2.toNat).Frame).Head).A2).x2) (((((gd v1_2 v2_2.toNat).Frame).Head).A2).x3) (((((gd v1_2 v2_2.toNat).Frame).Head).A2).x4) (((((gd v1_2 v2_2.toNat).Frame).Head).A2).x5)) (A6u8.mk (((((gd v1_2 v2_2.toNat).Frame).Head).A3).x0) (((((gd v1_2 v2_2.toNat).Frame).Head).A3).x1) (((((gd v1_2 v2_2.toNat).Frame).Head).A3).x2) (((((gd v1_2 v2_2.toNat).Frame).Head).A3).x3) (((((gd v1_2 v2_2.toNat).Frame).Head).A3).x4) (((((gd v1_2 v2_2.toNat).Frame).Head).A3).x5)) (A6u8.mk (((((gd v1_2 v2_2.toNat).Frame).Head).A4).x0) (((((gd v1_2 v2_2.toNat).Frame).Head).A4).x1) (((((gd v1_2 v2_2.toNat).Frame).Head).A4).x2) (((((gd v1_2 v2_2.toNat).Frame).Head).A4).x3) (((((gd v1_2 v2_2.toNat).Frame).Head).A4).x4) (((((gd v1_2 v2_2.toNat).Frame).Head).A4).x5)) ((((gd v1_2 v2_2.toNat).Frame).Head).Seq) ((((gd v1_2 v2_2.toNat).Frame).Head).Frag) ((((gd v1_2 v2_2.toNat).Frame).Head).Tid) ((((gd v1_2 v2_2.toNat).Frame).Head).Ack) ((((gd v1_2 v2_2.toNat).Frame).Head).Amsdu) ((((gd v1_2 v2_2.toNat).Frame).Head).Eosp)) (((gd v1_2 v2_2.toNat).Frame).Body)))).bind fun r11=>need (bif (r11 && (!(bLt v2_1 0))) then inb v2_1 v1_2.length else true) <| bif (r11 && ((bLt v2_1 0) || (bLt ((gd v1_2 v2_1.toNat).Cat) ((gd v1_2 v2_2.toNat).Cat)))) then (some (.next (v2_2,wr .i64 (v2_2+1)))) else (some (.next (v2_1,wr .i64 (v2_2+1))))) else (some (.done (.inl v2_1)))
noncomputable def F29_L1 (p1:TTriggerPlan) (v1_1:List TFrame) (v1_2:List TStored):Option (Lp ((List TFrame) × (List TStored)) (((List TFrame) × (List TStored)) ⊕ (TPeriod × TBuffer × Int))) :=
 bif ((bEq p1.Most 0) || (bLt (v1_1.length:Nat) p1.Most)) then (lp (loopD (fun s=>F29_L2 p1 v1_2 s.1 s.2) ((-1),0)) (fun w2_3=>bif (bLt w2_3 0) then (some (.done (.inl (v1_1,v1_2)))) else (need (inb w2_3 v1_2.length) <| need (delb w2_3 (wr .i64 (w2_3+1)) v1_2.length) <| (some (delL v1_2 w2_3 (wr .i64 (w2_3+1)))).bind fun w16=>need (capb 104 (v1_1.length+1)) <| some (.next ((v1_1 ++ [(TFrame.mk (THeader.mk ((((gd v1_2 w2_3.toNat).Frame).Head).Kind) ((((gd v1_2 w2_3.toNat).Frame).Head).Sub) ((((gd v1_2 w2_3.toNat).Frame).Head).ToDs) ((((gd v1_2 w2_3.toNat).Frame).Head).FromDs) ((((gd v1_2 w2_3.toNat).Frame).Head).More) ((((gd v1_2 w2_3.toNat).Frame).Head).Retry) ((((gd v1_2 w2_3.toNat).Frame).Head).Sleep) true ((((gd v1_2 w2_3.toNat).Frame).Head).Protected) ((((gd v1_2 w2_3.toNat).Frame).Head).Duration) (A6u8.mk (((((gd v1_2 w2_3.toNat).Frame).Head).A1).x0) (((((gd v1_2 w2_3.toNat).Frame).Head).A1).x1) (((((gd v1_2 w2_3.toNat).Frame).Head).A1).x2) (((((gd v1_2 w2_3.toNat).Frame).Head).A1).x3) (((((gd v1_2 w2_3.toNat).Frame).Head).A1).x4) (((((gd v1_2 w2_3.toNat).Frame).Head).A1).x5)) (A6u8.mk (((((gd v1_2 w2_3.toNat).Frame).Head).A2).x0) (((((gd v1_2 w2_3.toNat).Frame).Head).A2).x1) (((((gd v1_2 w2_3.toNat).Frame).Head).A2).x2) (((((gd v1_2 w2_3.toNat).Frame).Head).A2).x3) (((((gd v1_2 w2_3.toNat).Frame).Head).A2).x4) (((((gd v1_2 w2_3.toNat).Frame).Head).A2).x5)) (A6u8.mk (((((gd v1_2 w2_3.toNat).Frame).Head).A3).x0) (((((gd v1_2 w2_3.toNat).Frame).Head).A3).x1) (((((gd v1_2 w2_3.toNat).Frame).Head).A3).x2) (((((gd v1_2 w2_3.toNat).Frame).Head).A3).x3) (((((gd v1_2 w2_3.toNat).Frame).Head).A3).x4) (((((gd v1_2 w2_3.toNat).Frame).Head).A3).x5)) (A6u8.mk (((((gd v1_2 w2_3.toNat).Frame).Head).A4).x0) (((((gd v1_2 w2_3.toNat).Frame).Head).A4).x1) (((((gd v1_2 w2_3.toNat).Frame).Head).A4).x2) (((((gd v1_2 w2_3.toNat).Frame).Head).A4).x3) (((((gd v1_2 w2_3.toNat).Frame).Head).A4).x4) (((((gd v1_2 w2_3.toNat).Frame).Head).A4).x5)) ((((gd v1_2 w2_3.toNat).Frame).Head).Seq) ((((gd v1_2 w2_3.toNat).Frame).Head).Frag) ((((gd v1_2 w2_3.toNat).Frame).Head).Tid) ((((gd v1_2 w2_3.toNat).Frame).Head).Ack) ((((gd v1_2 w2_3.toNat).Frame).Head).Amsdu) false) (((gd v1_2 w2_3.toNat).Frame).Body))]),w16)))) (fun r=>some (.done (.inr r)))) else (some (.done (.inl (v1_1,v1_2))))
noncomputable def F29 (p0:TBuffer) (p1:TTriggerPlan) (p2:Int) (p3:A6u8) (p4:A6u8):Option (TPeriod × TBuffer × Int) :=
 (F34 p0).bind fun r1=>need (bif (!(!bEq r1 0)) then ((F20 p1).isSome) else true) <| bif ((!bEq r1 0) || (!bEq (gt (F20 p1)) 0)) then (some ((TPeriod.mk 0 []),(TBuffer.mk 0 0 [] []),8)) else (bif ((bLt p2 1) || (bLt 255 p2)) then (some ((TPeriod.mk 0 []),(TBuffer.mk 0 0 [] []),2)) else ((F52_1 p0.List p2).bind fun r4=>bif (bLt r4 0) then (some ((TPeriod.mk 0 []),(TBuffer.mk 0 0 [] []),6)) else (need (inb r4 p0.List.length) <| bif (!((gd p0.List r4.toNat).Asleep)) then (some ((TPeriod.mk 0 []),(TBuffer.mk 0 0 [] []),20)) else ((F54f r4.toNat p0).bind fun r7=>need (inb r4 r7.List.length) <| lp (loopD (fun s=>F29_L1 p1 s.1 s.2) ([],(gd r7.List r4.toNat).Held)) (fun e1=>need (inb r4 r7.List.length) <| (F49_0 e1.2 p1.Deliver).bind fun r20=>bif (bEq (e1.1.length:Nat) 0) then ((F57 p3 p4).bind fun r22=>need (inb 0 1) <| (some (r7.List.set r4.toNat (TSleeper.mk ((gd r7.List r4.toNat).Aid) ((gd r7.List r4.toNat).Asleep) e1.2))).bind fun w25=>(some (([r22].set 0 (TFrame.mk (THeader.mk (((gd [r22] 0).Head).Kind) (((gd [r22] 0).Head).Sub) (((gd [r22] 0).Head).ToDs) (((gd [r22] 0).Head).FromDs) (((gd [r22] 0).Head).More) (((gd [r22] 0).Head).Retry) (((gd [r22] 0).Head).Sleep) (((gd [r22] 0).Head).MoreData) (((gd [r22] 0).Head).Protected) (((gd [r22] 0).Head).Duration) (A6u8.mk ((((gd [r22] 0).Head).A1).x0) ((((gd [r22] 0).Head).A1).x1) ((((gd [r22] 0).Head).A1).x2) ((((gd [r22] 0).Head).A1).x3) ((((gd [r22] 0).Head).A1).x4) ((((gd [r22] 0).Head).A1).x5)) (A6u8.mk ((((gd [r22] 0).Head).A2).x0) ((((gd [r22] 0).Head).A2).x1) ((((gd [r22] 0).Head).A2).x2) ((((gd [r22] 0).Head).A2).x3) ((((gd [r22] 0).Head).A2).x4) ((((gd [r22] 0).Head).A2).x5)) (A6u8.mk ((((gd [r22] 0).Head).A3).x0) ((((gd [r22] 0).Head).A3).x1) ((((gd [r22] 0).Head).A3).x2) ((((gd [r22] 0).Head).A3).x3) ((((gd [r22] 0).Head).A3).x4) ((((gd [r22] 0).Head).A3).x5)) (A6u8.mk ((((gd [r22] 0).Head).A4).x0) ((((gd [r22] 0).Head).A4).x1) ((((gd [r22] 0).Head).A4).x2) ((((gd [r22] 0).Head).A4).x3) ((((gd [r22] 0).Head).A4).x4) ((((gd [r22] 0).Head).A4).x5)) (((gd [r22] 0).Head).Seq) (((gd [r22] 0).Head).Frag) (((gd [r22] 0).Head).Tid) (((gd [r22] 0).Head).Ack) (((gd [r22] 0).Head).Amsdu) true) ((gd [r22] 0).Body))).set 0 ((fun qq24=>(TFrame.mk (THeader.mk qq24.Head.Kind qq24.Head.Sub qq24.Head.ToDs qq24.Head.FromDs qq24.Head.More qq24.Head.Retry qq24.Head.Sleep false qq24.Head.Protected qq24.Head.Duration (A6u8.mk qq24.Head.A1.x0 qq24.Head.A1.x1 qq24.Head.A1.x2 qq24.Head.A1.x3 qq24.Head.A1.x4 qq24.Head.A1.x5) (A6u8.mk qq24.Head.A2.x0 qq24.Head.A2.x1 qq24.Head.A2.x2 qq24.Head.A2.x3 qq24.Head.A2.x4 qq24.Head.A2.x5) (A6u8.mk qq24.Head.A3.x0 qq24.Head.A3.x1 qq24.Head.A3.x2 qq24.Head.A3.x3 qq24.Head.A3.x4 qq24.Head.A3.x5) (A6u8.mk qq24.Head.A4.x0 qq24.Head.A4.x1 qq24.Head.A4.x2 qq24.Head.A4.x3 qq24.Head.A4.x4 qq24.Head.A4.x5) qq24.Head.Seq qq24.Head.Frag qq24.Head.Tid qq24.Head.Ack qq24.Head.Amsdu qq24.Head.Eosp) qq24.Body)) (gd ([r22].set 0 (TFrame.mk (THeader.mk (((gd [r22] 0).Head).Kind) (((gd [r22] 0).Head).Sub) (((gd [r22] 0).Head).ToDs) (((gd [r22] 0).Head).FromDs) (((gd [r22] 0).Head).More) (((gd [r22] 0).Head).Retry) (((gd [r22] 0).Head).Sleep) (((gd [r22] 0).Head).MoreData) (((gd [r22] 0).Head).Protected) (((gd [r22] 0).Head).Duration) (A6u8.mk ((((gd [r22] 0).Head).A1).x0) ((((gd [r22] 0).Head).A1).x1) ((((gd [r22] 0).Head).A1).x2) ((((gd [r22] 0).Head).A1).x3) ((((gd [r22] 0).Head).A1).x4) ((((gd [r22] 0).Head).A1).x5)) (A6u8.mk ((((gd [r22] 0).Head).A2).x0) ((((gd [r22] 0).Head).A2).x1) ((((gd [r22] 0).Head).A2).x2) ((((gd [r22] 0).Head).A2).x3) ((((gd [r22] 0).Head).A2).x4) ((((gd [r22] 0).Head).A2).x5)) (A6u8.mk ((((gd [r22] 0).Head).A3).x0) ((((gd [r22] 0).Head).A3).x1) ((((gd [r22] 0).Head).A3).x2) ((((gd [r22] 0).Head).A3).x3) ((((gd [r22] 0).Head).A3).x4) ((((gd [r22] 0).Head).A3).x5)) (A6u8.mk ((((gd [r22] 0).Head).A4).x0) ((((gd [r22] 0).Head).A4).x1) ((((gd [r22] 0).Head).A4).x2) ((((gd [r22] 0).Head).A4).x3) ((((gd [r22] 0).Head).A4).x4) ((((gd [r22] 0).Head).A4).x5)) (((gd [r22] 0).Head).Seq) (((gd [r22] 0).Head).Frag) (((gd [r22] 0).Head).Tid) (((gd [r22] 0).Head).Ack) (((gd [r22] 0).Head).Amsdu) true) ((gd [r22] 0).Body))) 0)))).bind fun w27=>some ((TPeriod.mk p2 w27),(TBuffer.mk r7.Limit r7.Stay w25 r7.Group),0)) else (need (inb (wr .i64 ((e1.1.length:Nat) - 1)) e1.1.length) <| (some (r7.List.set r4.toNat (TSleeper.mk ((gd r7.List r4.toNat).Aid) ((gd r7.List r4.toNat).Asleep) e1.2))).bind fun w30=>(some ((e1.1.set ((wr .i64 ((e1.1.length:Nat) - 1)).toNat) (TFrame.mk (THeader.mk (((gd e1.1 ((wr .i64 ((e1.1.length:Nat) - 1)).toNat)).Head).Kind) (((gd e1.1 ((wr .i64 ((e1.1.length:Nat) - 1)).toNat)).Head).Sub) (((gd e1.1 ((wr .i64 ((e1.1.length:Nat) - 1)).toNat)).Head).ToDs) (((gd e1.1 ((wr .i64 ((e1.1.length:Nat) - 1)).toNat)).Head).FromDs) (((gd e1.1 ((wr .i64 ((e1.1.length:Nat) - 1)).toNat)).Head).More) (((gd e1.1 ((wr .i64 ((e1.1.length:Nat) - 1)).toNat)).Head).Retry) (((gd e1.1 ((wr .i64 ((e1.1.length:Nat) - 1)).toNat)).Head).Sleep) (((gd e1.1 ((wr .i64 ((e1.1.length:Nat) - 1)).toNat)).Head).MoreData) (((gd e1.1 ((wr .i64 ((e1.1.length:Nat) - 1)).toNat)).Head).Protected) (((gd e1.1 ((wr .i64 ((e1.1.length:Nat) - 1)).toNat)).Head).Duration) (A6u8.mk ((((gd e1.1 ((wr .i64 ((e1.1.length:Nat) - 1)).toNat)).Head).A1).x0) ((((gd e1.1 ((wr .i64 ((e1.1.length:Nat) - 1)).toNat)).Head).A1).x1) ((((gd e1.1 ((wr .i64 ((e1.1.length:Nat) - 1)).toNat)).Head).A1).x2) ((((gd e1.1 ((wr .i64 ((e1.1.length:Nat) - 1)).toNat)).Head).A1).x3) ((((gd e1.1 ((wr .i64 ((e1.1.length:Nat) - 1)).toNat)).Head).A1).x4) ((((gd e1.1 ((wr .i64 ((e1.1.length:Nat) - 1)).toNat)).Head).A1).x5)) (A6u8.mk ((((gd e1.1 ((wr .i64 ((e1.1.length:Nat) - 1)).toNat)).Head).A2).x0) ((((gd e1.1 ((wr .i64 ((e1.1.length:Nat) - 1)).toNat)).Head).A2).x1) ((((gd e1.1 ((wr .i64 ((e1.1.length:Nat) - 1)).toNat)).Head).A2).x2) ((((gd e1.1 ((wr .i64 ((e1.1.length:Nat) - 1)).toNat)).Head).A2).x3) ((((gd e1.1 ((wr .i64 ((e1.1.length:Nat) - 1)).toNat)).Head).A2).x4) ((((gd e1.1 ((wr .i64 ((e1.1.length:Nat) - 1)).toNat)).Head).A2).x5)) (A6u8.mk ((((gd e1.1 ((wr .i64 ((e1.1.length:Nat) - 1)).toNat)).Head).A3).x0) ((((gd e1.1 ((wr .i64 ((e1.1.length:Nat) - 1)).toNat)).Head).A3).x1) ((((gd e1.1 ((wr .i64 ((e1.1.length:Nat) - 1)).toNat)).Head).A3).x2) ((((gd e1.1 ((wr .i64 ((e1.1.length:Nat) - 1)).toNat)).Head).A3).x3) ((((gd e1.1 ((wr .i64 ((e1.1.length:Nat) - 1)).toNat)).Head).A3).x4) ((((gd e1.1 ((wr .i64 ((e1.1.length:Nat) - 1)).toNat)).Head).A3).x5)) (A6u8.mk ((((gd e1.1 ((wr .i64 ((e1.1.length:Nat) - 1)).toNat)).Head).A4).x0) ((((gd e1.1 ((wr .i64 ((e1.1.length:Nat) - 1)).toNat)).Head).A4).x1) ((((gd e1.1 ((wr .i64 ((e1.1.length:Nat) - 1)).toNat)).Head).A4).x2) ((((gd e1.1 ((wr .i64 ((e1.1.length:Nat) - 1)).toNat)).Head).A4).x3) ((((gd e1.1 ((wr .i64 ((e1.1.length:Nat) - 1)).toNat)).Head).A4).x4) ((((gd e1.1 ((wr .i64 ((e1.1.length:Nat) - 1)).toNat)).Head).A4).x5)) (((gd e1.1 ((wr .i64 ((e1.1.length:Nat) - 1)).toNat)).Head).Seq) (((gd e1.1 ((wr .i64 ((e1.1.length:Nat) - 1)).toNat)).Head).Frag) (((gd e1.1 ((wr .i64 ((e1.1.length:Nat) - 1)).toNat)).Head).Tid) (((gd e1.1 ((wr .i64 ((e1.1.length:Nat) - 1)).toNat)).Head).Ack) (((gd e1.1 ((wr .i64 ((e1.1.length:Nat) - 1)).toNat)).Head).Amsdu) true) ((gd e1.1 ((wr .i64 ((e1.1.length:Nat) - 1)).toNat)).Body))).set ((wr .i64 ((e1.1.length:Nat) - 1)).toNat) ((fun qq29=>(TFrame.mk (THeader.mk qq29.Head.Kind qq29.Head.Sub qq29.Head.ToDs qq29.Head.FromDs qq29.Head.More qq29.Head.Retry qq29.Head.Sleep r20 qq29.Head.Protected qq29.Head.Duration (A6u8.mk qq29.Head.A1.x0 qq29.Head.A1.x1 qq29.Head.A1.x2 qq29.Head.A1.x3 qq29.Head.A1.x4 qq29.Head.A1.x5) (A6u8.mk qq29.Head.A2.x0 qq29.Head.A2.x1 qq29.Head.A2.x2 qq29.Head.A2.x3 qq29.Head.A2.x4 qq29.Head.A2.x5) (A6u8.mk qq29.Head.A3.x0 qq29.Head.A3.x1 qq29.Head.A3.x2 qq29.Head.A3.x3 qq29.Head.A3.x4 qq29.Head.A3.x5) (A6u8.mk qq29.Head.A4.x0 qq29.Head.A4.x1 qq29.Head.A4.x2 qq29.Head.A4.x3 qq29.Head.A4.x4 qq29.Head.A4.x5) qq29.Head.Seq qq29.Head.Frag qq29.Head.Tid qq29.Head.Ack qq29.Head.Amsdu qq29.Head.Eosp) qq29.Body)) (gd (e1.1.set ((wr .i64 ((e1.1.length:Nat) - 1)).toNat) (TFrame.mk (THeader.mk (((gd e1.1 ((wr .i64 ((e1.1.length:Nat) - 1)).toNat)).Head).Kind) (((gd e1.1 ((wr .i64 ((e1.1.length:Nat) - 1)).toNat)).Head).Sub) (((gd e1.1 ((wr .i64 ((e1.1.length:Nat) - 1)).toNat)).Head).ToDs) (((gd e1.1 ((wr .i64 ((e1.1.length:Nat) - 1)).toNat)).Head).FromDs) (((gd e1.1 ((wr .i64 ((e1.1.length:Nat) - 1)).toNat)).Head).More) (((gd e1.1 ((wr .i64 ((e1.1.length:Nat) - 1)).toNat)).Head).Retry) (((gd e1.1 ((wr .i64 ((e1.1.length:Nat) - 1)).toNat)).Head).Sleep) (((gd e1.1 ((wr .i64 ((e1.1.length:Nat) - 1)).toNat)).Head).MoreData) (((gd e1.1 ((wr .i64 ((e1.1.length:Nat) - 1)).toNat)).Head).Protected) (((gd e1.1 ((wr .i64 ((e1.1.length:Nat) - 1)).toNat)).Head).Duration) (A6u8.mk ((((gd e1.1 ((wr .i64 ((e1.1.length:Nat) - 1)).toNat)).Head).A1).x0) ((((gd e1.1 ((wr .i64 ((e1.1.length:Nat) - 1)).toNat)).Head).A1).x1) ((((gd e1.1 ((wr .i64 ((e1.1.length:Nat) - 1)).toNat)).Head).A1).x2) ((((gd e1.1 ((wr .i64 ((e1.1.length:Nat) - 1)).toNat)).Head).A1).x3) ((((gd e1.1 ((wr .i64 ((e1.1.length:Nat) - 1)).toNat)).Head).A1).x4) ((((gd e1.1 ((wr .i64 ((e1.1.length:Nat) - 1)).toNat)).Head).A1).x5)) (A6u8.mk ((((gd e1.1 ((wr .i64 ((e1.1.length:Nat) - 1)).toNat)).Head).A2).x0) ((((gd e1.1 ((wr .i64 ((e1.1.length:Nat) - 1)).toNat)).Head).A2).x1) ((((gd e1.1 ((wr .i64 ((e1.1.length:Nat) - 1)).toNat)).Head).A2).x2) ((((gd e1.1 ((wr .i64 ((e1.1.length:Nat) - 1)).toNat)).Head).A2).x3) ((((gd e1.1 ((wr .i64 ((e1.1.length:Nat) - 1)).toNat)).Head).A2).x4) ((((gd e1.1 ((wr .i64 ((e1.1.length:Nat) - 1)).toNat)).Head).A2).x5)) (A6u8.mk ((((gd e1.1 ((wr .i64 ((e1.1.length:Nat) - 1)).toNat)).Head).A3).x0) ((((gd e1.1 ((wr .i64 ((e1.1.length:Nat) - 1)).toNat)).Head).A3).x1) ((((gd e1.1 ((wr .i64 ((e1.1.length:Nat) - 1)).toNat)).Head).A3).x2) ((((gd e1.1 ((wr .i64 ((e1.1.length:Nat) - 1)).toNat)).Head).A3).x3) ((((gd e1.1 ((wr .i64 ((e1.1.length:Nat) - 1)).toNat)).Head).A3).x4) ((((gd e1.1 ((wr .i64 ((e1.1.length:Nat) - 1)).toNat)).Head).A3).x5)) (A6u8.mk ((((gd e1.1 ((wr .i64 ((e1.1.length:Nat) - 1)).toNat)).Head).A4).x0) ((((gd e1.1 ((wr .i64 ((e1.1.length:Nat) - 1)).toNat)).Head).A4).x1) ((((gd e1.1 ((wr .i64 ((e1.1.length:Nat) - 1)).toNat)).Head).A4).x2) ((((gd e1.1 ((wr .i64 ((e1.1.length:Nat) - 1)).toNat)).Head).A4).x3) ((((gd e1.1 ((wr .i64 ((e1.1.length:Nat) - 1)).toNat)).Head).A4).x4) ((((gd e1.1 ((wr .i64 ((e1.1.length:Nat) - 1)).toNat)).Head).A4).x5)) (((gd e1.1 ((wr .i64 ((e1.1.length:Nat) - 1)).toNat)).Head).Seq) (((gd e1.1 ((wr .i64 ((e1.1.length:Nat) - 1)).toNat)).Head).Frag) (((gd e1.1 ((wr .i64 ((e1.1.length:Nat) - 1)).toNat)).Head).Tid) (((gd e1.1 ((wr .i64 ((e1.1.length:Nat) - 1)).toNat)).Head).Ack) (((gd e1.1 ((wr .i64 ((e1.1.length:Nat) - 1)).toNat)).Head).Amsdu) true) ((gd e1.1 ((wr .i64 ((e1.1.length:Nat) - 1)).toNat)).Body))) ((wr .i64 ((e1.1.length:Nat) - 1)).toNat))))).bind fun w32=>some ((TPeriod.mk p2 w32),(TBuffer.mk r7.Limit r7.Stay w30 r7.Group),0))) some))))
noncomputable def body29:List AV->Nat->AR
 | [v0,v1,v2,v3,v4],_=>.pure (aK 4 k_TBuffer v0/\aK 3 k_TTriggerPlan v1/\iK .i64 v2/\aK 6 k_A6u8 v3/\aK 6 k_A6u8 v4/\(F29 (g_TBuffer (aL v0)) (g_TTriggerPlan (aL v1)) (iA v2) (g_A6u8 (aL v3)) (g_A6u8 (aL v4))).isSome=true) (.tup [.agg [.int .i64 (((gt (F29 (g_TBuffer (aL v0)) (g_TTriggerPlan (aL v1)) (iA v2) (g_A6u8 (aL v3)) (g_A6u8 (aL v4)))).1).Aid),.ro 41 ((((gt (F29 (g_TBuffer (aL v0)) (g_TTriggerPlan (aL v1)) (iA v2) (g_A6u8 (aL v3)) (g_A6u8 (aL v4)))).1).Left).length) false (enR d_TFrame (((gt (F29 (g_TBuffer (aL v0)) (g_TTriggerPlan (aL v1)) (iA v2) (g_A6u8 (aL v3)) (g_A6u8 (aL v4)))).1).Left))],.agg [.int .i64 (((gt (F29 (g_TBuffer (aL v0)) (g_TTriggerPlan (aL v1)) (iA v2) (g_A6u8 (aL v3)) (g_A6u8 (aL v4)))).2.1).Limit),.int .i64 (((gt (F29 (g_TBuffer (aL v0)) (g_TTriggerPlan (aL v1)) (iA v2) (g_A6u8 (aL v3)) (g_A6u8 (aL v4)))).2.1).Stay),.ro 3 ((((gt (F29 (g_TBuffer (aL v0)) (g_TTriggerPlan (aL v1)) (iA v2) (g_A6u8 (aL v3)) (g_A6u8 (aL v4)))).2.1).List).length) false (enR d_TSleeper (((gt (F29 (g_TBuffer (aL v0)) (g_TTriggerPlan (aL v1)) (iA v2) (g_A6u8 (aL v3)) (g_A6u8 (aL v4)))).2.1).List)),.ro 43 ((((gt (F29 (g_TBuffer (aL v0)) (g_TTriggerPlan (aL v1)) (iA v2) (g_A6u8 (aL v3)) (g_A6u8 (aL v4)))).2.1).Group).length) false (enR d_TStored (((gt (F29 (g_TBuffer (aL v0)) (g_TTriggerPlan (aL v1)) (iA v2) (g_A6u8 (aL v3)) (g_A6u8 (aL v4)))).2.1).Group))],.int .i64 ((gt (F29 (g_TBuffer (aL v0)) (g_TTriggerPlan (aL v1)) (iA v2) (g_A6u8 (aL v3)) (g_A6u8 (aL v4)))).2.2)])
 | _,_=>.fail
theorem ok29:FnOk Try.prog 29 (genC body29):=by
 refine gen_fn body29 (rs:=[.cell 10 33,.cell 11 52,.tmp 12]) Try.func29 (by kernel_rfl) rfl rfl ?_
 intro l s ob v ns hb hob
 rcases hb with ⟨hb,rfl⟩|hb
 ·unfold body29 at hb
  split at hb
  ·rename_i v0 v1 v2 v3 v4
   injection hb with q1 q2;subst q1 q2
   obtain ⟨hk0_0,hk1_0,hk2_0,hk3_0,hk4_0,hob⟩:=hob
   obtain ⟨r,H⟩:=Option.isSome_iff_exists.1 hob
   rw [H,gt_some]
   have hw0:=wA_TBuffer hk0_0
   have hw1:=wA_TTriggerPlan hk1_0
   have hw2:=iK_wk hk2_0
   have hw3:=wA_A6u8 hk3_0
   have hw4:=wA_A6u8 hk4_0
   generalize g_TBuffer (aL v0)=p0 at H hw0
   generalize g_TTriggerPlan (aL v1)=p1 at H hw1
   generalize iA v2=p2 at H hw2
   generalize g_A6u8 (aL v3)=p3 at H hw3
   generalize g_A6u8 (aL v4)=p4 at H hw4
   refine ⟨[.agg [.int .i64 p0.Limit,.int .i64 p0.Stay,.ro 3 p0.List.length false (enR c_TSleeper p0.List),.ro 43 p0.Group.length false (enR c_TStored p0.Group)],.agg [.int .u8 p1.Start,.int .u8 p1.Deliver,.int .i64 p1.Most],.int .i64 p2,.agg [.int .u8 p3.x0,.int .u8 p3.x1,.int .u8 p3.x2,.int .u8 p3.x3,.int .u8 p3.x4,.int .u8 p3.x5],.agg [.int .u8 p4.x0,.int .u8 p4.x1,.int .u8 p4.x2,.int .u8 p4.x3,.int .u8 p4.x4,.int .u8 p4.x5]],.tup [.agg [.int .i64 r.1.Aid,.ro 41 r.1.Left.length false (enR d_TFrame r.1.Left)],.agg [.int .i64 r.2.1.Limit,.int .i64 r.2.1.Stay,.ro 3 r.2.1.List.length false (enR d_TSleeper r.2.1.List),.ro 43 r.2.1.Group.length false (enR d_TStored r.2.1.Group)],.int .i64 r.2.2],[],(fun E vs F=>FR_wk1 hw0.1 F (fun vs F=>FR_wk1 hw1.1 F (fun vs F=>FR_wk1 hw2.1 F (fun vs F=>FR_wk1 hw3.1 F (fun vs F=>FR_wk1 hw4.1 F (fun vs F=>F)))))),by simp only [ren,renL],trivial,?_⟩
   rw [Try.ntmps29]
   simp only [List.length_cons,List.length_nil,Nat.reduceAdd,Nat.reduceSub,List.replicate_succ,List.replicate_zero,List.cons_append,List.nil_append]
   unfold F29 at H
   try dsimp only at H
   refine sq ctNo_ok ?_
   simp only [go_sem,Nat.reduceAdd]
   refine seqM ?_
   refine seqM ?_
   obtain ⟨r1,e2,H⟩:=bsi H
   obtain ⟨f3,H⟩:=need_some.1 H
   replace f3:=g_iff.1 f3
   refine rg ct29t0_ok ?_
   simp only [go_sem,Nat.reduceLT,Nat.reduceAdd,ct29t0_20,body20,ct29t0_34,body34,e2]
   repeat ((with_reducible refine And.intro ?_ ?_);focus (first|(with_reducible trivial)|omega|exact f3|(intro g;have q:=f3 (by first|exact g|(rw [g];rfl)|simpa using g);first|exact q|exact ⟨q.1,q.2.1⟩|exact q.2.2|omega|exact ⟨g,q⟩|exact ⟨trivial,q⟩|exact ⟨g,q.1,q.2.1⟩|exact ⟨g,q.2.2⟩)|(intro g;(try have q0:=f3 (by first|exact g|(rw [g];rfl)|simpa using g));and_intros<;>first|(with_reducible trivial)|assumption|exact nfc|(intro g2;rw [g,g2];rfl)|(intro g2;assumption)|(simp only [g,Bool.true_and,Bool.and_true,Bool.not_false,Bool.not_true];assumption)|grind)|(and_intros<;>first|(with_reducible trivial)|omega|assumption|exact nfc|first|exact rfl|exact trivial|exact fitI|exact .inr rfl|exact .inl rfl|exact fun x hx=>absurd hx (by omega))|grind))
   refine condM rfl trivial (fun hc=>?_) (fun hc=>?_)
   ·replace H:=cond_t hc H
    refine sq ctNo_ok ?_
    simp only [go_sem,Nat.reduceAdd]
    repeat ((with_reducible refine And.intro ?_ ?_);focus (first|(with_reducible trivial)|omega|grind))
    refine rg ctNo_ok ?_
    simp only [go_sem,Nat.reduceLT,Nat.reduceAdd]
    obtain rfl:=Option.some.inj H
    refine ⟨[0,1,2,3,4,5,6],?_,?_,[],?_,?_,rfl⟩
    ·simp only [go_sem]
     try (and_intros<;>first|(with_reducible trivial)|omega|exact nfc|trivial)
    ·simp only [go_sem]
     try (and_intros<;>first|(with_reducible trivial)|omega|exact nfc|trivial)
    ·simp only [go_sem]
     exact Cv_tup (CvL_cons (Cv_agg (CvL_cons Cv_int (CvL_cons (Cv_ronil (α:=TFrame)) CvL_nil))) (CvL_cons (Cv_agg (CvL_cons Cv_int (CvL_cons Cv_int (CvL_cons (Cv_ronil (α:=TSleeper)) (CvL_cons (Cv_ronil (α:=TStored)) CvL_nil))))) (CvL_cons Cv_int CvL_nil)))
    ·simp only [go_sem,CvH]
   replace H:=cond_f hc H
   refine rg ctNo_ok ?_
   simp only [go_sem]
   refine seqM ?_
   refine sq ctNo_ok ?_
   simp only [go_sem,Nat.reduceLT]
   repeat ((with_reducible refine And.intro ?_ ?_);focus (first|(with_reducible trivial)|omega|grind))
   refine condM rfl trivial (fun hc=>?_) (fun hc=>?_)
   ·replace H:=cond_t hc H
    refine sq ctNo_ok ?_
    simp only [go_sem,Nat.reduceAdd]
    repeat ((with_reducible refine And.intro ?_ ?_);focus (first|(with_reducible trivial)|omega|grind))
    refine rg ctNo_ok ?_
    simp only [go_sem,Nat.reduceLT,Nat.reduceAdd]
    obtain rfl:=Option.some.inj H
    refine ⟨[0,1,2,3,4,5,6],?_,?_,[],?_,?_,rfl⟩
    ·simp only [go_sem]
     try (and_intros<;>first|(with_reducible trivial)|omega|exact nfc|trivial)
    ·simp only [go_sem]
     try (and_intros<;>first|(with_reducible trivial)|omega|exact nfc|trivial)
    ·simp only [go_sem]
     exact Cv_tup (CvL_cons (Cv_agg (CvL_cons Cv_int (CvL_cons (Cv_ronil (α:=TFrame)) CvL_nil))) (CvL_cons (Cv_agg (CvL_cons Cv_int (CvL_cons Cv_int (CvL_cons (Cv_ronil (α:=TSleeper)) (CvL_cons (Cv_ronil (α:=TStored)) CvL_nil))))) (CvL_cons Cv_int CvL_nil)))
    ·simp only [go_sem,CvH]
   replace H:=cond_f hc H
   refine rg ctNo_ok ?_
   simp only [go_sem]
   refine seqM ?_
   obtain ⟨r4,e5,H⟩:=bsi H
   refine rg ct29t1_ok ?_
   simp only [go_sem,Nat.reduceLeDiff,Nat.reduceLT,Nat.reduceAdd,ct29t1_52,body52_1,e5]
   repeat ((with_reducible refine And.intro ?_ ?_);focus (first|(and_intros<;>first|(with_reducible trivial)|omega|assumption|exact nfc|first|exact rfl|exact trivial|exact fitI|exact .inr rfl|exact .inl rfl|exact fun x hx=>absurd hx (by omega))|grind))
   refine seqM ?_
   refine blkM ?_
   refine sq ctNo_ok ?_
   simp only [go_sem]
   refine condM rfl trivial (fun hc=>?_) (fun hc=>?_)
   ·replace H:=cond_t hc H
    refine sq ctNo_ok ?_
    simp only [go_sem,Nat.reduceAdd]
    repeat ((with_reducible refine And.intro ?_ ?_);focus (first|(with_reducible trivial)|omega|grind))
    refine rg ctNo_ok ?_
    simp only [go_sem,Nat.reduceLT,Nat.reduceAdd]
    obtain rfl:=Option.some.inj H
    refine ⟨[0,1,2,3,4,5,6],?_,?_,[],?_,?_,rfl⟩
    ·simp only [go_sem]
     try (and_intros<;>first|(with_reducible trivial)|omega|exact nfc|trivial)
    ·simp only [go_sem]
     try (and_intros<;>first|(with_reducible trivial)|omega|exact nfc|trivial)
    ·simp only [go_sem]
     exact Cv_tup (CvL_cons (Cv_agg (CvL_cons Cv_int (CvL_cons (Cv_ronil (α:=TFrame)) CvL_nil))) (CvL_cons (Cv_agg (CvL_cons Cv_int (CvL_cons Cv_int (CvL_cons (Cv_ronil (α:=TSleeper)) (CvL_cons (Cv_ronil (α:=TStored)) CvL_nil))))) (CvL_cons Cv_int CvL_nil)))
    ·simp only [go_sem,CvH]
   replace H:=cond_f hc H
   refine seqM ?_
   obtain ⟨f6,H⟩:=need_some.1 H
   replace f6:=inb_iff.1 f6
   refine rg ctNo_ok ?_
   simp only [go_sem,Nat.reduceLeDiff,Nat.reduceLT,Nat.reduceAdd,f6]
   repeat ((with_reducible refine And.intro ?_ ?_);focus (first|(with_reducible trivial)|omega|grind))
   refine condM rfl trivial (fun hc=>?_) (fun hc=>?_)
   ·replace H:=cond_t hc H
    refine sq ctNo_ok ?_
    simp only [go_sem,Nat.reduceAdd]
    repeat ((with_reducible refine And.intro ?_ ?_);focus (first|(with_reducible trivial)|omega|grind))
    refine rg ctNo_ok ?_
    simp only [go_sem,Nat.reduceLT,Nat.reduceAdd]
    obtain rfl:=Option.some.inj H
    refine ⟨[0,1,2,3,4,5,6],?_,?_,[],?_,?_,rfl⟩
    ·simp only [go_sem]
     try (and_intros<;>first|(with_reducible trivial)|omega|exact nfc|trivial)
    ·simp only [go_sem]
     try (and_intros<;>first|(with_reducible trivial)|omega|exact nfc|trivial)
    ·simp only [go_sem]
     exact Cv_tup (CvL_cons (Cv_agg (CvL_cons Cv_int (CvL_cons (Cv_ronil (α:=TFrame)) CvL_nil))) (CvL_cons (Cv_agg (CvL_cons Cv_int (CvL_cons Cv_int (CvL_cons (Cv_ronil (α:=TSleeper)) (CvL_cons (Cv_ronil (α:=TStored)) CvL_nil))))) (CvL_cons Cv_int CvL_nil)))
    ·simp only [go_sem,CvH]
   replace H:=cond_f hc H
   refine rg ctNo_ok ?_
   simp only [go_sem]
   refine seqM ?_
   obtain ⟨r7,e8,H⟩:=bsi H
   refine rg (ct29t2_ok r4.toNat) ?_
   simp only [go_sem,Nat.reduceLT,Nat.reduceAdd,ct29t2_54,body54f,e8]
   repeat ((with_reducible refine And.intro ?_ ?_);focus (first|(and_intros<;>first|(with_reducible trivial)|omega|assumption|exact nfc|first|exact rfl|exact trivial|exact fitI|exact .inr rfl|exact .inl rfl|exact fun x hx=>absurd hx (by omega))|grind))
   refine seqM ?_
   obtain ⟨f9,H⟩:=need_some.1 H
   replace f9:=inb_iff.1 f9
   refine draw_rule shT_ok ctNo_ok 1 (by kernel_rfl) (by kernel_rfl) ?_
   intro an han
   simp only [d_nil,d_cons,nxtD,xrD,xoD,roEq,minL,List.append_nil,refsOp,refs,mask,maskF,place,placeF,okLog,pairOk,hit,inL,slotsF,ren,rnN,nrH,nrB,nrL,nr,List.replicate_zero,List.replicate_succ,Nat.sub_self,Nat.add_zero,Nat.zero_add,Nat.reduceSub,Nat.lt_add_one,go_sem,Nat.reduceLeDiff,Nat.reduceLT,Nat.reduceAdd,Nat.reduceSub,Nat.reduceBEq,upc_ii,f9]
   repeat ((with_reducible refine And.intro ?_ ?_);focus (and_intros<;>first|(with_reducible trivial)|(show anB _ _ _=true;subst han;kernel_rfl)|(show (anB _ _ _ && _)=true;subst han;kernel_rfl)|omega|assumption|exact nrc|exact nfc|first|exact rfl|exact trivial|exact fitI|exact .inr rfl|exact .inl rfl|exact fun x hx=>absurd hx (by omega)))
   refine sq ctNo_ok ?_
   simp only [go_sem,Nat.reduceLeDiff,Nat.reduceLT,Nat.reduceAdd]
   repeat ((with_reducible refine And.intro ?_ ?_);focus (first|(with_reducible trivial)|omega|grind))
   refine seqM ?_
   refine blkM ?_
   refine loop_den (fun s:(List TFrame) × (List TStored)=>(tp 5 (.ptr 0 0 0 0::.ptr 1 0 0 0::.top::.ptr 3 0 0 0::.ptr 4 0 0 0::.ptr 5 0 0 0::.ptr 6 0 0 0::.top::.int .i64 r4::.ptr 10 0 0 0::tp 125 []))) (fun s=>[.lit 52 [.int .i64 r7.Limit,.int .i64 r7.Stay,.sl 7 3 0 r7.List.length false,.sl 9 43 0 r7.Group.length false],.lit 23 [.int .u8 p1.Start,.int .u8 p1.Deliver,.int .i64 p1.Most],.dead,.lit 25 [.int .u8 p3.x0,.int .u8 p3.x1,.int .u8 p3.x2,.int .u8 p3.x3,.int .u8 p3.x4,.int .u8 p3.x5],.lit 25 [.int .u8 p4.x0,.int .u8 p4.x1,.int .u8 p4.x2,.int .u8 p4.x3,.int .u8 p4.x4,.int .u8 p4.x5],.lit 33 [.int .i64 p2,.sl 11 41 0 s.1.length false],.lit 52 [.int .i64 0,.int .i64 0,.ro 0 0 true (fun _ _=>.top),.ro 0 0 true (fun _ _=>.top)],.row 71 3 r7.List.length (upc (enR d_TSleeper r7.List) r4.toNat 2 [.sl 8 43 0 (((gd r7.List r4.toNat).Held).length) false]),.dead,.row 73 43 r7.Group.length (enR d_TStored r7.Group),.lit 103 [.sl 12 43 0 s.2.length false,.int .u8 p1.Deliver],.row 30 41 s.1.length (enR d_TFrame s.1),.row 73 43 s.2.length (enR d_TStored s.2)]) (fun e:(List TFrame) × (List TStored)=>(tp 5 (.ptr 0 0 0 0::.top::.top::.ptr 3 0 0 0::.ptr 4 0 0 0::.ptr 5 0 0 0::.ptr 6 0 0 0::.top::.int .i64 r4::.ptr 10 0 0 0::tp 125 []))) (fun e=>[.lit 52 [.int .i64 r7.Limit,.int .i64 r7.Stay,.sl 7 3 0 r7.List.length false,.sl 9 43 0 r7.Group.length false],.dead,.dead,.lit 25 [.int .u8 p3.x0,.int .u8 p3.x1,.int .u8 p3.x2,.int .u8 p3.x3,.int .u8 p3.x4,.int .u8 p3.x5],.lit 25 [.int .u8 p4.x0,.int .u8 p4.x1,.int .u8 p4.x2,.int .u8 p4.x3,.int .u8 p4.x4,.int .u8 p4.x5],.lit 33 [.int .i64 p2,.sl 11 41 0 e.1.length false],.lit 52 [.int .i64 0,.int .i64 0,.ro 0 0 true (fun _ _=>.top),.ro 0 0 true (fun _ _=>.top)],.row 71 3 r7.List.length (upc (enR d_TSleeper r7.List) r4.toNat 2 [.sl 8 43 0 (((gd r7.List r4.toNat).Held).length) false]),.dead,.row 73 43 r7.Group.length (enR d_TStored r7.Group),.lit 103 [.sl 12 43 0 e.2.length false,.int .u8 p1.Deliver],.row 30 41 e.1.length (enR d_TFrame e.1),.row 73 43 e.2.length (enR d_TStored e.2)]) H ?_ (fun s o H hn1_1 hn2_1=>?_) (fun e H=>?_)
   ·refine SubF_of ⟨[some 0,some 1,some 2,some 3,some 4,some 5,some 6,some 7,some 8,some 9,some 10,none,some 8],?_,?_,by rfl,by rfl⟩
    ·simp [CvL,Cv,getM,tp]
    ·exact ⟨(by simp [CvB,CvL,Cv,blkAt,geth,getM]),(by simp [CvB,CvL,Cv,blkAt,geth]),CvB_dead,(by simp [CvB,CvL,Cv,blkAt,geth]),(by simp [CvB,CvL,Cv,blkAt,geth]),(by simp [CvB,CvL,Cv,blkAt,geth]),(by simp [CvB,CvL,Cv,blkAt,geth]),(CvB_focG (i:=r4.toNat) (L:=r7.List) nr_d_TSleeper (fun x y hx=>by simp only [upc_ne hx]) (fun y hy=>match y,hy with|0,_=>by simp [upc_ii,getL,Cv,enR,d_TSleeper,s_TSleeper,List.cons_append,List.nil_append]|1,_=>by simp [upc_ii,getL,Cv,enR,d_TSleeper,s_TSleeper,List.cons_append,List.nil_append]|2,_=>by simp [upc_ii,getL,Cv,getM,enR,d_TSleeper,s_TSleeper,List.cons_append,List.nil_append]|(y+3),h=>absurd h nlt)),CvB_dead,(CvB_same nfA),(by simp [CvB,CvL,Cv,blkAt,geth,getM]),CvB_none,CvB_row nr_d_TStored (by first|rfl|(simp;done)|(simp;omega)) (fun _ _ _ _=>rfl),trivial⟩
   ·obtain ⟨v1_1,v1_2⟩:=s
    unfold F29_L1 at H
    try dsimp only at H ⊢
    try simp only [tp]
    refine seqM ?_
    refine sq ctNo_ok ?_
    simp only [go_sem,Nat.reduceLT,Nat.reduceAdd]
    repeat ((with_reducible refine And.intro ?_ ?_);focus (first|(with_reducible trivial)|omega|(intro g;and_intros<;>first|(with_reducible trivial)|assumption|exact nfc|(intro g2;rw [g,g2];rfl)|(intro g2;assumption)|(simp only [g,Bool.true_and,Bool.and_true,Bool.not_false,Bool.not_true];assumption)|grind)|(and_intros<;>first|(with_reducible trivial)|omega|assumption|exact nfc|first|exact rfl|exact trivial|exact fitI|exact .inr rfl|exact .inl rfl|exact fun x hx=>absurd hx (by omega))|grind))
    refine condM' rfl trivial (fun hc=>?_) (fun hc=>?_)
    ·replace H:=cond_f hc H
     refine rg ctNo_ok ?_
     simp only [go_sem]
     refine ⟨_,(Option.some.inj H).symm,?_⟩
     refine SubF_of ⟨[some 0,some 1,some 2,some 3,some 4,some 5,some 6,some 7,some 8,some 9,some 10,some 11,some 12],?_,?_,by rfl,by rfl⟩
     ·simp [CvL,Cv,getM]
     ·exact ⟨(by simp [CvB,CvL,Cv,blkAt,geth,getM]),CvB_dead,CvB_dead,(by simp [CvB,CvL,Cv,blkAt,geth]),(by simp [CvB,CvL,Cv,blkAt,geth]),(by simp [CvB,CvL,Cv,blkAt,geth,getM]),(by simp [CvB,CvL,Cv,blkAt,geth]),(CvB_focG (i:=r4.toNat) (L:=r7.List) nr_d_TSleeper (fun x y hx=>by simp only [upc_ne hx]) (fun y hy=>match y,hy with|0,_=>by simp [upc_ii,getL,Cv,enR,d_TSleeper,s_TSleeper,List.cons_append,List.nil_append]|1,_=>by simp [upc_ii,getL,Cv,enR,d_TSleeper,s_TSleeper,List.cons_append,List.nil_append]|2,_=>by simp [upc_ii,getL,Cv,getM,enR,d_TSleeper,s_TSleeper,List.cons_append,List.nil_append]|(y+3),h=>absurd h nlt)),CvB_dead,(CvB_same nfA),(by simp [CvB,CvL,Cv,blkAt,geth,getM]),CvB_row nr_d_TFrame (by first|rfl|(simp;done)|(simp;omega)) (fun _ _ _ _=>rfl),CvB_row nr_d_TStored (by first|rfl|(simp;done)|(simp;omega)) (fun _ _ _ _=>rfl),trivial⟩
    replace H:=cond_t hc H
    refine rg ctNo_ok ?_
    simp only [go_sem]
    refine blkM ?_
    refine seqM ?_
    refine regO ?_
    refine cutO shT_ok ctNo_ok 1 ?_
    simp only [kO_normal,List.take_succ_cons,List.take_zero,List.drop_succ_cons,List.drop_zero,go_sem]
    repeat ((with_reducible refine And.intro ?_ ?_);focus (first|(and_intros<;>first|(with_reducible trivial)|omega|assumption|exact nfc|first|exact rfl|exact trivial|exact fitI|exact .inr rfl|exact .inl rfl|exact fun x hx=>absurd hx (by omega))|grind))
    refine inlO (rs:=[.cell 2 30,.tmp 3]) Try.func55 (by kernel_rfl) rfl rfl Try.ntmps55 (caps:=[]) (tc:=[.ptr 10 0 0 0]) rfl (by simp only [go_sem]) rfl ?_
    simp only [List.length_cons,List.length_nil,Nat.reduceAdd,Nat.reduceSub,List.replicate_succ,List.replicate_zero,List.cons_append,List.nil_append]
    refine sq ctNo_ok ?_
    simp only [go_sem,Nat.reduceAdd]
    refine sq ctNo_ok ?_
    simp only [go_sem]
    refine seqM ?_
    refine sq ctNo_ok ?_
    simp only [go_sem,Nat.reduceLeDiff,Nat.reduceLT,Nat.reduceAdd]
    repeat ((with_reducible refine And.intro ?_ ?_);focus (first|(and_intros<;>first|(with_reducible trivial)|omega|assumption|exact nfc|first|exact rfl|exact trivial|exact fitI|exact .inr rfl|exact .inl rfl|exact fun x hx=>absurd hx (by omega))|grind))
    refine blkM ?_
    refine loop_den (fun s:Int × Int=>(.ptr 10 0 0 0::.top::.ptr 13 0 0 0::.top::.int .i64 s.1::tp 6 (.sl 12 43 0 v1_2.length false::.int .i64 (v1_2.length:Nat)::.int .i64 s.2::tp 49 []))) (fun s=>[.lit 52 [.int .i64 r7.Limit,.int .i64 r7.Stay,.sl 7 3 0 r7.List.length false,.sl 9 43 0 r7.Group.length false],.lit 23 [.int .u8 p1.Start,.int .u8 p1.Deliver,.int .i64 p1.Most],.dead,.lit 25 [.int .u8 p3.x0,.int .u8 p3.x1,.int .u8 p3.x2,.int .u8 p3.x3,.int .u8 p3.x4,.int .u8 p3.x5],.lit 25 [.int .u8 p4.x0,.int .u8 p4.x1,.int .u8 p4.x2,.int .u8 p4.x3,.int .u8 p4.x4,.int .u8 p4.x5],.lit 33 [.int .i64 p2,.sl 11 41 0 v1_1.length false],.lit 52 [.int .i64 0,.int .i64 0,.ro 0 0 true (fun _ _=>.top),.ro 0 0 true (fun _ _=>.top)],.row 71 3 r7.List.length (upc (enR d_TSleeper r7.List) r4.toNat 2 [.sl 8 43 0 (((gd r7.List r4.toNat).Held).length) false]),.dead,.row 73 43 r7.Group.length (enR d_TStored r7.Group),.lit 103 [.sl 12 43 0 v1_2.length false,.int .u8 p1.Deliver],.row 30 41 v1_1.length (enR d_TFrame v1_1),.row 73 43 v1_2.length (enR d_TStored v1_2),.lit 30 (.int .u8 0::.int .u8 0::.bool false::.bool false::.bool false::.bool false::.bool false::.bool false::.bool false::.int .i64 0::.int .u8 0::.int .u8 0::.int .u8 0::.int .u8 0::.int .u8 0::.int .u8 0::.int .u8 0::.int .u8 0::.int .u8 0::.int .u8 0::.int .u8 0::.int .u8 0::.int .u8 0::.int .u8 0::.int .u8 0::.int .u8 0::.int .u8 0::.int .u8 0::.int .u8 0::.int .u8 0::.int .u8 0::.int .u8 0::.int .u8 0::.int .u8 0::.int .i64 0::.int .i64 0::.int .i64 0::.int .u8 0::.bool false::.bool false::.ro 0 0 true (fun _ _=>.top)::[])]) (fun e:Int=>(.ptr 10 0 0 0::.top::.ptr 13 0 0 0::.top::.int .i64 e::tp 58 [])) (fun e=>[.lit 52 [.int .i64 r7.Limit,.int .i64 r7.Stay,.sl 7 3 0 r7.List.length false,.sl 9 43 0 r7.Group.length false],.lit 23 [.int .u8 p1.Start,.int .u8 p1.Deliver,.int .i64 p1.Most],.dead,.lit 25 [.int .u8 p3.x0,.int .u8 p3.x1,.int .u8 p3.x2,.int .u8 p3.x3,.int .u8 p3.x4,.int .u8 p3.x5],.lit 25 [.int .u8 p4.x0,.int .u8 p4.x1,.int .u8 p4.x2,.int .u8 p4.x3,.int .u8 p4.x4,.int .u8 p4.x5],.lit 33 [.int .i64 p2,.sl 11 41 0 v1_1.length false],.lit 52 [.int .i64 0,.int .i64 0,.ro 0 0 true (fun _ _=>.top),.ro 0 0 true (fun _ _=>.top)],.row 71 3 r7.List.length (upc (enR d_TSleeper r7.List) r4.toNat 2 [.sl 8 43 0 (((gd r7.List r4.toNat).Held).length) false]),.dead,.row 73 43 r7.Group.length (enR d_TStored r7.Group),.lit 103 [.sl 12 43 0 v1_2.length false,.int .u8 p1.Deliver],.row 30 41 v1_1.length (enR d_TFrame v1_1),.row 73 43 v1_2.length (enR d_TStored v1_2),.lit 30 (.int .u8 0::.int .u8 0::.bool false::.bool false::.bool false::.bool false::.bool false::.bool false::.bool false::.int .i64 0::.int .u8 0::.int .u8 0::.int .u8 0::.int .u8 0::.int .u8 0::.int .u8 0::.int .u8 0::.int .u8 0::.int .u8 0::.int .u8 0::.int .u8 0::.int .u8 0::.int .u8 0::.int .u8 0::.int .u8 0::.int .u8 0::.int .u8 0::.int .u8 0::.int .u8 0::.int .u8 0::.int .u8 0::.int .u8 0::.int .u8 0::.int .u8 0::.int .i64 0::.int .i64 0::.int .i64 0::.int .u8 0::.bool false::.bool false::.ro 0 0 true (fun _ _=>.top)::[])]) H ?_ (fun s o H hn1_2 hn2_2=>?_) (fun w2_3 H=>?_)
    ·refine SubF_of ⟨[some 0,some 1,some 2,some 3,some 4,some 5,some 6,some 7,some 8,some 9,some 10,some 11,some 12,some 13],?_,?_,by rfl,by rfl⟩
     ·simp [CvL,Cv,getM,tp]
     ·exact ⟨(by simp [CvB,CvL,Cv,blkAt,geth,getM]),(by simp [CvB,CvL,Cv,blkAt,geth]),CvB_dead,(by simp [CvB,CvL,Cv,blkAt,geth]),(by simp [CvB,CvL,Cv,blkAt,geth]),(by simp [CvB,CvL,Cv,blkAt,geth,getM]),(by simp [CvB,CvL,Cv,blkAt,geth]),(CvB_focG (i:=r4.toNat) (L:=r7.List) nr_d_TSleeper (fun x y hx=>by simp only [upc_ne hx]) (fun y hy=>match y,hy with|0,_=>by simp [upc_ii,getL,Cv,enR,d_TSleeper,s_TSleeper,List.cons_append,List.nil_append]|1,_=>by simp [upc_ii,getL,Cv,enR,d_TSleeper,s_TSleeper,List.cons_append,List.nil_append]|2,_=>by simp [upc_ii,getL,Cv,getM,enR,d_TSleeper,s_TSleeper,List.cons_append,List.nil_append]|(y+3),h=>absurd h nlt)),CvB_dead,(CvB_same nfA),(by simp [CvB,CvL,Cv,blkAt,geth,getM]),(CvB_same nfA),(CvB_same nfA),(by simp [CvB,CvL,Cv,blkAt,geth]),trivial⟩
    ·obtain ⟨v2_1,v2_2⟩:=s
     unfold F29_L2 at H
     try dsimp only at H ⊢
     try simp only [tp]
     refine sq ctNo_ok ?_
     simp only [go_sem,Nat.reduceAdd]
     refine seqM ?_
     refine condM' rfl trivial (fun hc=>?_) (fun hc=>?_)
     ·replace H:=cond_f hc H
      refine rg ctNo_ok ?_
      simp only [go_sem]
      refine ⟨_,(Option.some.inj H).symm,?_⟩
      refine SubF_of ⟨[some 0,some 1,some 2,some 3,some 4,some 5,some 6,some 7,some 8,some 9,some 10,some 11,some 12,some 13],?_,?_,by rfl,by rfl⟩
      ·simp [CvL,Cv,getM]
      ·exact ⟨(by simp [CvB,CvL,Cv,blkAt,geth,getM]),(by simp [CvB,CvL,Cv,blkAt,geth]),CvB_dead,(by simp [CvB,CvL,Cv,blkAt,geth]),(by simp [CvB,CvL,Cv,blkAt,geth]),(by simp [CvB,CvL,Cv,blkAt,geth,getM]),(by simp [CvB,CvL,Cv,blkAt,geth]),(CvB_focG (i:=r4.toNat) (L:=r7.List) nr_d_TSleeper (fun x y hx=>by simp only [upc_ne hx]) (fun y hy=>match y,hy with|0,_=>by simp [upc_ii,getL,Cv,enR,d_TSleeper,s_TSleeper,List.cons_append,List.nil_append]|1,_=>by simp [upc_ii,getL,Cv,enR,d_TSleeper,s_TSleeper,List.cons_append,List.nil_append]|2,_=>by simp [upc_ii,getL,Cv,getM,enR,d_TSleeper,s_TSleeper,List.cons_append,List.nil_append]|(y+3),h=>absurd h nlt)),CvB_dead,(CvB_same nfA),(by simp [CvB,CvL,Cv,blkAt,geth,getM]),(CvB_same nfA),(CvB_same nfA),(by simp [CvB,CvL,Cv,blkAt,geth]),trivial⟩
     replace H:=cond_t hc H
     refine rg ctNo_ok ?_
     simp only [go_sem]
     refine seqM ?_
     refine blkM ?_
     refine seqM ?_
     obtain ⟨f10,H⟩:=need_some.1 H
     replace f10:=inb_iff.1 f10
     refine rg ctNo_ok ?_
     simp only [go_sem,Nat.reduceLT,Nat.reduceAdd,f10]
     repeat ((with_reducible refine And.intro ?_ ?_);focus (first|(with_reducible trivial)|omega|grind))
     refine seqM ?_
     obtain ⟨r11,e12,H⟩:=bsi H
     obtain ⟨f13,H⟩:=need_some.1 H
     replace f13:=g_iff.1 f13
     replace f13:=fun g=>inb_iff.1 (f13 g)
     refine draw_quiet shT_ok ct29t3_ok (by kernel_rfl) (by kernel_rfl) ?_
     simp only [go_sem,Nat.reduceLeDiff,Nat.reduceLT,Nat.reduceAdd,ct29t3_56,body56_0,e12]
     repeat ((with_reducible refine And.intro ?_ ?_);focus (first|(with_reducible trivial)|omega|exact f13|(intro g;have q:=f13 (by first|exact g|(rw [g];rfl)|simpa using g);first|exact q|exact ⟨q.1,q.2.1⟩|exact q.2.2|omega|exact ⟨g,q⟩|exact ⟨trivial,q⟩|exact ⟨g,q.1,q.2.1⟩|exact ⟨g,q.2.2⟩)|(intro g;(try have q0:=f13 (by first|exact g|(rw [g];rfl)|simpa using g));and_intros<;>first|(with_reducible trivial)|assumption|exact nfc|(intro g2;rw [g,g2];rfl)|(intro g2;assumption)|(simp only [g,Bool.true_and,Bool.and_true,Bool.not_false,Bool.not_true];assumption)|grind)|(and_intros<;>first|(with_reducible trivial)|omega|assumption|exact nfc|first|exact rfl|exact trivial|exact fitI|exact .inr rfl|exact .inl rfl|exact fun x hx=>absurd hx (by omega))|grind))
     refine condM rfl trivial (fun hc=>?_) (fun hc=>?_)
     ·replace H:=cond_t hc H
      refine rg ctNo_ok ?_
      simp only [go_sem]
      refine rg ctNo_ok ?_
      simp only [go_sem]
      refine ⟨_,(Option.some.inj H).symm,?_⟩
      refine SubF_of ⟨[some 0,some 1,some 2,some 3,some 4,some 5,some 6,some 7,some 8,some 9,some 10,some 11,some 12,some 13],?_,?_,by rfl,by rfl⟩
      ·simp [CvL,Cv,getM]
      ·exact ⟨(by simp [CvB,CvL,Cv,blkAt,geth,getM]),(by simp [CvB,CvL,Cv,blkAt,geth]),CvB_dead,(by simp [CvB,CvL,Cv,blkAt,geth]),(by simp [CvB,CvL,Cv,blkAt,geth]),(by simp [CvB,CvL,Cv,blkAt,geth,getM]),(by simp [CvB,CvL,Cv,blkAt,geth]),(CvB_focG (i:=r4.toNat) (L:=r7.List) nr_d_TSleeper (fun x y hx=>by simp only [upc_ne hx]) (fun y hy=>match y,hy with|0,_=>by simp [upc_ii,getL,Cv,enR,d_TSleeper,s_TSleeper,List.cons_append,List.nil_append]|1,_=>by simp [upc_ii,getL,Cv,enR,d_TSleeper,s_TSleeper,List.cons_append,List.nil_append]|2,_=>by simp [upc_ii,getL,Cv,getM,enR,d_TSleeper,s_TSleeper,List.cons_append,List.nil_append]|(y+3),h=>absurd h nlt)),CvB_dead,(CvB_same nfA),(by simp [CvB,CvL,Cv,blkAt,geth,getM]),(CvB_same nfA),(CvB_same nfA),(by simp [CvB,CvL,Cv,blkAt,geth]),trivial⟩
     replace H:=cond_f hc H
     refine rg ctNo_ok ?_
     simp only [go_sem]
     refine rg ctNo_ok ?_
     simp only [go_sem]
     refine ⟨_,(Option.some.inj H).symm,?_⟩
     refine SubF_of ⟨[some 0,some 1,some 2,some 3,some 4,some 5,some 6,some 7,some 8,some 9,some 10,some 11,some 12,some 13],?_,?_,by rfl,by rfl⟩
     ·simp [CvL,Cv,getM]
     ·exact ⟨(by simp [CvB,CvL,Cv,blkAt,geth,getM]),(by simp [CvB,CvL,Cv,blkAt,geth]),CvB_dead,(by simp [CvB,CvL,Cv,blkAt,geth]),(by simp [CvB,CvL,Cv,blkAt,geth]),(by simp [CvB,CvL,Cv,blkAt,geth,getM]),(by simp [CvB,CvL,Cv,blkAt,geth]),(CvB_focG (i:=r4.toNat) (L:=r7.List) nr_d_TSleeper (fun x y hx=>by simp only [upc_ne hx]) (fun y hy=>match y,hy with|0,_=>by simp [upc_ii,getL,Cv,enR,d_TSleeper,s_TSleeper,List.cons_append,List.nil_append]|1,_=>by simp [upc_ii,getL,Cv,enR,d_TSleeper,s_TSleeper,List.cons_append,List.nil_append]|2,_=>by simp [upc_ii,getL,Cv,getM,enR,d_TSleeper,s_TSleeper,List.cons_append,List.nil_append]|(y+3),h=>absurd h nlt)),CvB_dead,(CvB_same nfA),(by simp [CvB,CvL,Cv,blkAt,geth,getM]),(CvB_same nfA),(CvB_same nfA),(by simp [CvB,CvL,Cv,blkAt,geth]),trivial⟩
    ·try dsimp only at H ⊢
     try simp only [tp]
     try simp only [m_normal]
     refine seqM ?_
     refine sq ctNo_ok ?_
     simp only [go_sem]
     refine condM rfl trivial (fun hc=>?_) (fun hc=>?_)
     ·replace H:=cond_t hc H
      refine sq ctNo_ok ?_
      simp only [go_sem,Nat.reduceAdd]
      repeat ((with_reducible refine And.intro ?_ ?_);focus (first|(with_reducible trivial)|omega|grind))
      refine rg ctNo_ok ?_
      simp only [go_sem,Nat.reduceLT,Nat.reduceAdd]
      refine cutO shT_ok ctNo_ok 6 ?_
      simp only [kO_normal,List.take_succ_cons,List.take_zero,List.drop_succ_cons,List.drop_zero,go_sem,Nat.reduceLT,Nat.reduceAdd]
      repeat ((with_reducible refine And.intro ?_ ?_);focus (first|(and_intros<;>first|(with_reducible trivial)|omega|assumption|exact nfc|first|exact rfl|exact trivial|exact fitI|exact .inr rfl|exact .inl rfl|exact fun x hx=>absurd hx (by omega))|grind))
      refine endO ?_
      refine seqM ?_
      refine sq ctNo_ok ?_
      simp only [go_sem]
      refine condM rfl trivial (fun hc=>?_) (fun hc=>?_)
      rotate_left
      ·cases hc
      refine rg ctNo_ok ?_
      simp only [go_sem,Nat.reduceBEq]
      refine ⟨_,(Option.some.inj H).symm,?_⟩
      refine SubF_of ⟨[some 0,some 1,some 2,some 3,some 4,some 5,some 6,some 7,some 8,some 9,some 10,some 11,some 12],?_,?_,by rfl,by rfl⟩
      ·simp [CvL,Cv,getM]
      ·exact ⟨(by simp [CvB,CvL,Cv,blkAt,geth,getM]),CvB_dead,CvB_dead,(by simp [CvB,CvL,Cv,blkAt,geth]),(by simp [CvB,CvL,Cv,blkAt,geth]),(by simp [CvB,CvL,Cv,blkAt,geth,getM]),(by simp [CvB,CvL,Cv,blkAt,geth]),(CvB_focG (i:=r4.toNat) (L:=r7.List) nr_d_TSleeper (fun x y hx=>by simp only [upc_ne hx]) (fun y hy=>match y,hy with|0,_=>by simp [upc_ii,getL,Cv,enR,d_TSleeper,s_TSleeper,List.cons_append,List.nil_append]|1,_=>by simp [upc_ii,getL,Cv,enR,d_TSleeper,s_TSleeper,List.cons_append,List.nil_append]|2,_=>by simp [upc_ii,getL,Cv,getM,enR,d_TSleeper,s_TSleeper,List.cons_append,List.nil_append]|(y+3),h=>absurd h nlt)),CvB_dead,(CvB_same nfA),(by simp [CvB,CvL,Cv,blkAt,geth,getM]),CvB_row nr_d_TFrame (by first|rfl|(simp;done)|(simp;omega)) (fun _ _ _ _=>rfl),CvB_row nr_d_TStored (by first|rfl|(simp;done)|(simp;omega)) (fun _ _ _ _=>rfl),trivial⟩
     replace H:=cond_f hc H
     refine rg ctNo_ok ?_
     simp only [go_sem]
     refine seqM ?_
     obtain ⟨f14,H⟩:=need_some.1 H
     replace f14:=inb_iff.1 f14
     refine rg ctNo_ok ?_
     simp only [go_sem,Nat.reduceLeDiff,Nat.reduceLT,Nat.reduceAdd,reduceCtorEq,f14]
     repeat ((with_reducible refine And.intro ?_ ?_);focus (first|(with_reducible trivial)|omega|grind))
     refine seqM ?_
     obtain ⟨f15,H⟩:=need_some.1 H
     replace f15:=delb_iff.1 f15
     refine rg ct29t4_ok ?_
     simp only [go_sem,Nat.reduceLeDiff,Nat.reduceLT,Nat.reduceAdd,ct29t4_73,delN,f15]
     repeat ((with_reducible refine And.intro ?_ ?_);focus (first|(and_intros<;>first|(with_reducible trivial)|omega|assumption|exact nfc|first|exact rfl|exact trivial|exact fitI|exact .inr rfl|exact .inl rfl|exact fun x hx=>absurd hx (by omega))|grind))
     refine seqM ?_
     obtain ⟨w16,hw17,H⟩:=bsi H
     replace hw17:=Option.some.inj hw17
     have lhw17:w16.length=v1_2.length - ((wr .i64 (w2_3+1)).toNat - w2_3.toNat):=by rw [← hw17];exact (del_len f15 (by first|rfl|(simp;done)|(simp;omega)))
     refine subF_mean (t2:=(.top::.top::.ptr 13 0 0 0::tp 4 (.ptr 14 0 0 0::tp 55 []))) (h2:=[.lit 52 [.int .i64 r7.Limit,.int .i64 r7.Stay,.sl 7 3 0 r7.List.length false,.sl 9 43 0 r7.Group.length false],.lit 23 [.int .u8 p1.Start,.int .u8 p1.Deliver,.int .i64 p1.Most],.dead,.lit 25 [.int .u8 p3.x0,.int .u8 p3.x1,.int .u8 p3.x2,.int .u8 p3.x3,.int .u8 p3.x4,.int .u8 p3.x5],.lit 25 [.int .u8 p4.x0,.int .u8 p4.x1,.int .u8 p4.x2,.int .u8 p4.x3,.int .u8 p4.x4,.int .u8 p4.x5],.lit 33 [.int .i64 p2,.sl 11 41 0 v1_1.length false],.lit 52 [.int .i64 0,.int .i64 0,.ro 0 0 true (fun _ _=>.top),.ro 0 0 true (fun _ _=>.top)],.row 71 3 r7.List.length (upc (enR d_TSleeper r7.List) r4.toNat 2 [.sl 8 43 0 (((gd r7.List r4.toNat).Held).length) false]),.dead,.row 73 43 r7.Group.length (enR d_TStored r7.Group),.lit 103 [.sl 15 43 0 w16.length false,.int .u8 p1.Deliver],.row 30 41 v1_1.length (enR d_TFrame v1_1),.dead,.lit 30 (.int .u8 0::.int .u8 0::.bool false::.bool false::.bool false::.bool false::.bool false::.bool false::.bool false::.int .i64 0::.int .u8 0::.int .u8 0::.int .u8 0::.int .u8 0::.int .u8 0::.int .u8 0::.int .u8 0::.int .u8 0::.int .u8 0::.int .u8 0::.int .u8 0::.int .u8 0::.int .u8 0::.int .u8 0::.int .u8 0::.int .u8 0::.int .u8 0::.int .u8 0::.int .u8 0::.int .u8 0::.int .u8 0::.int .u8 0::.int .u8 0::.int .u8 0::.int .i64 0::.int .i64 0::.int .i64 0::.int .u8 0::.bool false::.bool false::.ro 0 0 true (fun _ _=>.top)::[]),.lit 30 (.int .u8 ((((gd v1_2 w2_3.toNat).Frame).Head).Kind)::.int .u8 ((((gd v1_2 w2_3.toNat).Frame).Head).Sub)::.bool ((((gd v1_2 w2_3.toNat).Frame).Head).ToDs)::.bool ((((gd v1_2 w2_3.toNat).Frame).Head).FromDs)::.bool ((((gd v1_2 w2_3.toNat).Frame).Head).More)::.bool ((((gd v1_2 w2_3.toNat).Frame).Head).Retry)::.bool ((((gd v1_2 w2_3.toNat).Frame).Head).Sleep)::.bool ((((gd v1_2 w2_3.toNat).Frame).Head).MoreData)::.bool ((((gd v1_2 w2_3.toNat).Frame).Head).Protected)::.int .i64 ((((gd v1_2 w2_3.toNat).Frame).Head).Duration)::.int .u8 (((((gd v1_2 w2_3.toNat).Frame).Head).A1).x0)::.int .u8 (((((gd v1_2 w2_3.toNat).Frame).Head).A1).x1)::.int .u8 (((((gd v1_2 w2_3.toNat).Frame).Head).A1).x2)::.int .u8 (((((gd v1_2 w2_3.toNat).Frame).Head).A1).x3)::.int .u8 (((((gd v1_2 w2_3.toNat).Frame).Head).A1).x4)::.int .u8 (((((gd v1_2 w2_3.toNat).Frame).Head).A1).x5)::.int .u8 (((((gd v1_2 w2_3.toNat).Frame).Head).A2).x0)::.int .u8 (((((gd v1_2 w2_3.toNat).Frame).Head).A2).x1)::.int .u8 (((((gd v1_2 w2_3.toNat).Frame).Head).A2).x2)::.int .u8 (((((gd v1_2 w2_3.toNat).Frame).Head).A2).x3)::.int .u8 (((((gd v1_2 w2_3.toNat).Frame).Head).A2).x4)::.int .u8 (((((gd v1_2 w2_3.toNat).Frame).Head).A2).x5)::.int .u8 (((((gd v1_2 w2_3.toNat).Frame).Head).A3).x0)::.int .u8 (((((gd v1_2 w2_3.toNat).Frame).Head).A3).x1)::.int .u8 (((((gd v1_2 w2_3.toNat).Frame).Head).A3).x2)::.int .u8 (((((gd v1_2 w2_3.toNat).Frame).Head).A3).x3)::.int .u8 (((((gd v1_2 w2_3.toNat).Frame).Head).A3).x4)::.int .u8 (((((gd v1_2 w2_3.toNat).Frame).Head).A3).x5)::.int .u8 (((((gd v1_2 w2_3.toNat).Frame).Head).A4).x0)::.int .u8 (((((gd v1_2 w2_3.toNat).Frame).Head).A4).x1)::.int .u8 (((((gd v1_2 w2_3.toNat).Frame).Head).A4).x2)::.int .u8 (((((gd v1_2 w2_3.toNat).Frame).Head).A4).x3)::.int .u8 (((((gd v1_2 w2_3.toNat).Frame).Head).A4).x4)::.int .u8 (((((gd v1_2 w2_3.toNat).Frame).Head).A4).x5)::.int .i64 ((((gd v1_2 w2_3.toNat).Frame).Head).Seq)::.int .i64 ((((gd v1_2 w2_3.toNat).Frame).Head).Frag)::.int .i64 ((((gd v1_2 w2_3.toNat).Frame).Head).Tid)::.int .u8 ((((gd v1_2 w2_3.toNat).Frame).Head).Ack)::.bool ((((gd v1_2 w2_3.toNat).Frame).Head).Amsdu)::.bool ((((gd v1_2 w2_3.toNat).Frame).Head).Eosp)::.ro 1 ((((gd v1_2 w2_3.toNat).Frame).Body).length) false (enR d_u8 (((gd v1_2 w2_3.toNat).Frame).Body))::[]),.row 73 43 w16.length (enR d_TStored w16)]) ?_ ?_
     ·refine SubF_of ⟨[some 0,some 1,some 2,some 3,some 4,some 5,some 6,some 7,some 8,some 9,some 10,some 11,some 12,some 13,some 14,some 15],?_,?_,by rfl,by rfl⟩
      ·simp [CvL,Cv,getM,tp]
      ·exact ⟨(by simp [CvB,CvL,Cv,blkAt,geth,getM]),(by simp [CvB,CvL,Cv,blkAt,geth]),CvB_dead,(by simp [CvB,CvL,Cv,blkAt,geth]),(by simp [CvB,CvL,Cv,blkAt,geth]),(by simp [CvB,CvL,Cv,blkAt,geth,getM]),(by simp [CvB,CvL,Cv,blkAt,geth]),(CvB_focG (i:=r4.toNat) (L:=r7.List) nr_d_TSleeper (fun x y hx=>by simp only [upc_ne hx]) (fun y hy=>match y,hy with|0,_=>by simp [upc_ii,getL,Cv,enR,d_TSleeper,s_TSleeper,List.cons_append,List.nil_append]|1,_=>by simp [upc_ii,getL,Cv,enR,d_TSleeper,s_TSleeper,List.cons_append,List.nil_append]|2,_=>by simp [upc_ii,getL,Cv,getM,enR,d_TSleeper,s_TSleeper,List.cons_append,List.nil_append]|(y+3),h=>absurd h nlt)),CvB_dead,CvB_row nr_d_TStored rfl (fun _ _ _ _=>rfl),(by simp [CvB,CvL,Cv,blkAt,geth,getM,lhw17]),CvB_row nr_d_TFrame rfl (fun _ _ _ _=>rfl),CvB_dead,(by simp [CvB,CvL,Cv,blkAt,geth]),(by simp [CvB,CvL,Cv,blkAt,geth]),CvB_row nr_d_TStored lhw17 (hw17 ▸ (del_row f15 (by first|rfl|(simp;done)|(simp;omega)) (fun _ _ _ _=>rfl))),trivial⟩
     simp only [tp]
     refine rg ctNo_ok ?_
     simp only [go_sem,Nat.reduceLT,Nat.reduceAdd]
     repeat ((with_reducible refine And.intro ?_ ?_);focus (first|(with_reducible trivial)|omega|grind))
     refine rg ctNo_ok ?_
     simp only [go_sem,Nat.reduceLT,Nat.reduceAdd]
     refine cutO shT_ok ctNo_ok 6 ?_
     simp only [kO_normal,List.take_succ_cons,List.take_zero,List.drop_succ_cons,List.drop_zero,go_sem,Nat.reduceLT,Nat.reduceAdd]
     repeat ((with_reducible refine And.intro ?_ ?_);focus (first|(and_intros<;>first|(with_reducible trivial)|omega|assumption|exact nfc|first|exact rfl|exact trivial|exact fitI|exact .inr rfl|exact .inl rfl|exact fun x hx=>absurd hx (by omega))|grind))
     refine endO ?_
     refine seqM ?_
     refine sq ctNo_ok ?_
     simp only [go_sem]
     refine condM rfl trivial (fun hc=>?_) (fun hc=>?_)
     ·cases hc
     refine rg ctNo_ok ?_
     simp only [go_sem]
     refine sq ctNo_ok ?_
     simp only [go_sem,Nat.reduceLeDiff,Nat.reduceAdd,reduceCtorEq]
     repeat ((with_reducible refine And.intro ?_ ?_);focus (first|(with_reducible trivial)|omega|grind))
     obtain ⟨f18,H⟩:=need_some.1 H
     replace f18:=capb_iff.1 f18
     refine rg ctNo_ok ?_
     simp only [go_sem,Nat.reduceLeDiff,Nat.reduceLT,Nat.reduceAdd,Nat.reduceBEq,f18]
     repeat ((with_reducible refine And.intro ?_ ?_);focus (first|(and_intros<;>first|(with_reducible trivial)|omega|assumption|exact nfc|first|exact rfl|exact trivial|exact fitI|exact .inr rfl|exact .inl rfl|exact fun x hx=>absurd hx (by omega)|(intro x hx;(repeat (first|(and_intros<;>(first|exact rfl|exact trivial|exact fitI|exact .inr rfl|exact .inl rfl|exact fun x hx=>absurd hx (by omega)))|(exfalso;omega)|(rcases x with _|x)));done)|(refine Fit_app ?_ ?_<;>first|exact fitI|(intro x hx;(repeat (first|(and_intros<;>(first|exact rfl|exact trivial|exact fitI|exact .inr rfl|exact .inl rfl|exact fun x hx=>absurd hx (by omega)))|(exfalso;omega)|(rcases x with _|x)));done)|(refine Fit_app ?_ ?_<;>first|exact fitI|(intro x hx;(repeat (first|(and_intros<;>(first|exact rfl|exact trivial|exact fitI|exact .inr rfl|exact .inl rfl|exact fun x hx=>absurd hx (by omega)))|(exfalso;omega)|(rcases x with _|x)));done))))|grind))
     refine ⟨_,(Option.some.inj H).symm,?_⟩
     refine SubF_of ⟨[some 0,some 1,some 2,some 3,some 4,some 5,some 6,some 7,some 8,some 9,some 10,some 18,some 15],?_,?_,by rfl,by rfl⟩
     ·simp [CvL,Cv,getM]
     ·exact ⟨(by simp [CvB,CvL,Cv,blkAt,geth,getM]),(by simp [CvB,CvL,Cv,blkAt,geth]),CvB_dead,(by simp [CvB,CvL,Cv,blkAt,geth]),(by simp [CvB,CvL,Cv,blkAt,geth]),(by simp [CvB,CvL,Cv,blkAt,geth,getM]),(by simp [CvB,CvL,Cv,blkAt,geth]),(CvB_focG (i:=r4.toNat) (L:=r7.List) nr_d_TSleeper (fun x y hx=>by simp only [upc_ne hx]) (fun y hy=>match y,hy with|0,_=>by simp [upc_ii,getL,Cv,enR,d_TSleeper,s_TSleeper,List.cons_append,List.nil_append]|1,_=>by simp [upc_ii,getL,Cv,enR,d_TSleeper,s_TSleeper,List.cons_append,List.nil_append]|2,_=>by simp [upc_ii,getL,Cv,getM,enR,d_TSleeper,s_TSleeper,List.cons_append,List.nil_append]|(y+3),h=>absurd h nlt)),CvB_dead,(CvB_same nfA),(by simp [CvB,CvL,Cv,blkAt,geth,getM]),CvB_row nr_d_TFrame (by first|rfl|(simp;done)|(simp;omega)) (app_row (f:=d_TFrame) v1_1 [(TFrame.mk (THeader.mk ((((gd v1_2 w2_3.toNat).Frame).Head).Kind) ((((gd v1_2 w2_3.toNat).Frame).Head).Sub) ((((gd v1_2 w2_3.toNat).Frame).Head).ToDs) ((((gd v1_2 w2_3.toNat).Frame).Head).FromDs) ((((gd v1_2 w2_3.toNat).Frame).Head).More) ((((gd v1_2 w2_3.toNat).Frame).Head).Retry) ((((gd v1_2 w2_3.toNat).Frame).Head).Sleep) true ((((gd v1_2 w2_3.toNat).Frame).Head).Protected) ((((gd v1_2 w2_3.toNat).Frame).Head).Duration) (A6u8.mk (((((gd v1_2 w2_3.toNat).Frame).Head).A1).x0) (((((gd v1_2 w2_3.toNat).Frame).Head).A1).x1) (((((gd v1_2 w2_3.toNat).Frame).Head).A1).x2) (((((gd v1_2 w2_3.toNat).Frame).Head).A1).x3) (((((gd v1_2 w2_3.toNat).Frame).Head).A1).x4) (((((gd v1_2 w2_3.toNat).Frame).Head).A1).x5)) (A6u8.mk (((((gd v1_2 w2_3.toNat).Frame).Head).A2).x0) (((((gd v1_2 w2_3.toNat).Frame).Head).A2).x1) (((((gd v1_2 w2_3.toNat).Frame).Head).A2).x2) (((((gd v1_2 w2_3.toNat).Frame).Head).A2).x3) (((((gd v1_2 w2_3.toNat).Frame).Head).A2).x4) (((((gd v1_2 w2_3.toNat).Frame).Head).A2).x5)) (A6u8.mk (((((gd v1_2 w2_3.toNat).Frame).Head).A3).x0) (((((gd v1_2 w2_3.toNat).Frame).Head).A3).x1) (((((gd v1_2 w2_3.toNat).Frame).Head).A3).x2) (((((gd v1_2 w2_3.toNat).Frame).Head).A3).x3) (((((gd v1_2 w2_3.toNat).Frame).Head).A3).x4) (((((gd v1_2 w2_3.toNat).Frame).Head).A3).x5)) (A6u8.mk (((((gd v1_2 w2_3.toNat).Frame).Head).A4).x0) (((((gd v1_2 w2_3.toNat).Frame).Head).A4).x1) (((((gd v1_2 w2_3.toNat).Frame).Head).A4).x2) (((((gd v1_2 w2_3.toNat).Frame).Head).A4).x3) (((((gd v1_2 w2_3.toNat).Frame).Head).A4).x4) (((((gd v1_2 w2_3.toNat).Frame).Head).A4).x5)) ((((gd v1_2 w2_3.toNat).Frame).Head).Seq) ((((gd v1_2 w2_3.toNat).Frame).Head).Frag) ((((gd v1_2 w2_3.toNat).Frame).Head).Tid) ((((gd v1_2 w2_3.toNat).Frame).Head).Ack) ((((gd v1_2 w2_3.toNat).Frame).Head).Amsdu) false) (((gd v1_2 w2_3.toNat).Frame).Body))] (fun _ _ _ _=>rfl) (dS ds_TFrame (lit_row (f:=s_TFrame) [(TFrame.mk (THeader.mk ((((gd v1_2 w2_3.toNat).Frame).Head).Kind) ((((gd v1_2 w2_3.toNat).Frame).Head).Sub) ((((gd v1_2 w2_3.toNat).Frame).Head).ToDs) ((((gd v1_2 w2_3.toNat).Frame).Head).FromDs) ((((gd v1_2 w2_3.toNat).Frame).Head).More) ((((gd v1_2 w2_3.toNat).Frame).Head).Retry) ((((gd v1_2 w2_3.toNat).Frame).Head).Sleep) true ((((gd v1_2 w2_3.toNat).Frame).Head).Protected) ((((gd v1_2 w2_3.toNat).Frame).Head).Duration) (A6u8.mk (((((gd v1_2 w2_3.toNat).Frame).Head).A1).x0) (((((gd v1_2 w2_3.toNat).Frame).Head).A1).x1) (((((gd v1_2 w2_3.toNat).Frame).Head).A1).x2) (((((gd v1_2 w2_3.toNat).Frame).Head).A1).x3) (((((gd v1_2 w2_3.toNat).Frame).Head).A1).x4) (((((gd v1_2 w2_3.toNat).Frame).Head).A1).x5)) (A6u8.mk (((((gd v1_2 w2_3.toNat).Frame).Head).A2).x0) (((((gd v1_2 w2_3.toNat).Frame).Head).A2).x1) (((((gd v1_2 w2_3.toNat).Frame).Head).A2).x2) (((((gd v1_2 w2_3.toNat).Frame).Head).A2).x3) (((((gd v1_2 w2_3.toNat).Frame).Head).A2).x4) (((((gd v1_2 w2_3.toNat).Frame).Head).A2).x5)) (A6u8.mk (((((gd v1_2 w2_3.toNat).Frame).Head).A3).x0) (((((gd v1_2 w2_3.toNat).Frame).Head).A3).x1) (((((gd v1_2 w2_3.toNat).Frame).Head).A3).x2) (((((gd v1_2 w2_3.toNat).Frame).Head).A3).x3) (((((gd v1_2 w2_3.toNat).Frame).Head).A3).x4) (((((gd v1_2 w2_3.toNat).Frame).Head).A3).x5)) (A6u8.mk (((((gd v1_2 w2_3.toNat).Frame).Head).A4).x0) (((((gd v1_2 w2_3.toNat).Frame).Head).A4).x1) (((((gd v1_2 w2_3.toNat).Frame).Head).A4).x2) (((((gd v1_2 w2_3.toNat).Frame).Head).A4).x3) (((((gd v1_2 w2_3.toNat).Frame).Head).A4).x4) (((((gd v1_2 w2_3.toNat).Frame).Head).A4).x5)) ((((gd v1_2 w2_3.toNat).Frame).Head).Seq) ((((gd v1_2 w2_3.toNat).Frame).Head).Frag) ((((gd v1_2 w2_3.toNat).Frame).Head).Tid) ((((gd v1_2 w2_3.toNat).Frame).Head).Ack) ((((gd v1_2 w2_3.toNat).Frame).Head).Amsdu) false) (((gd v1_2 w2_3.toNat).Frame).Body))] (fun _ _=>rfl) rfl))),CvB_row nr_d_TStored (by first|rfl|(simp;done)|(simp;omega)) (fun _ _ _ _=>rfl),trivial⟩
   ·obtain ⟨w1_5,w1_6⟩:=e
    try dsimp only at H ⊢
    try simp only [tp]
    try simp only [m_normal]
    refine seqM ?_
    obtain ⟨f19,H⟩:=need_some.1 H
    replace f19:=inb_iff.1 f19
    refine draw_rule shT_ok ctNo_ok 0 (by kernel_rfl) (by kernel_rfl) ?_
    intro an han
    simp only [d_nil,d_cons,nxtD,xrD,xoD,roEq,minL,List.append_nil,refsOp,refs,mask,maskF,place,placeF,okLog,pairOk,hit,inL,slotsF,nrH,nrB,List.replicate_zero,Nat.sub_self,Nat.add_zero,Nat.zero_add,Nat.reduceSub,Nat.lt_add_one,go_sem,Nat.reduceLeDiff,Nat.reduceLT,Nat.reduceAdd,Nat.reduceSub,Nat.reduceBEq,f19]
    repeat ((with_reducible refine And.intro ?_ ?_);focus (and_intros<;>first|(with_reducible trivial)|(show anB _ _ _=true;subst han;kernel_rfl)|(show (anB _ _ _ && _)=true;subst han;kernel_rfl)|omega|assumption|exact nrc|exact nfc|first|exact rfl|exact trivial|exact fitI|exact .inr rfl|exact .inl rfl|exact fun x hx=>absurd hx (by omega)))
    refine seqM ?_
    obtain ⟨r20,e21,H⟩:=bsi H
    refine rg ct29t5_ok ?_
    simp only [go_sem,Nat.reduceLeDiff,Nat.reduceLT,Nat.reduceAdd,ct29t5_49,body49_0,e21]
    repeat ((with_reducible refine And.intro ?_ ?_);focus (first|(and_intros<;>first|(with_reducible trivial)|omega|assumption|exact nfc|first|exact rfl|exact trivial|exact fitI|exact .inr rfl|exact .inl rfl|exact fun x hx=>absurd hx (by omega))|grind))
    refine seqM ?_
    refine sq ctNo_ok ?_
    simp only [go_sem,Nat.reduceLT,Nat.reduceAdd]
    repeat ((with_reducible refine And.intro ?_ ?_);focus (first|(and_intros<;>first|(with_reducible trivial)|omega|assumption|exact nfc|first|exact rfl|exact trivial|exact fitI|exact .inr rfl|exact .inl rfl|exact fun x hx=>absurd hx (by omega))|grind))
    refine condM' rfl trivial (fun hc=>?_) (fun hc=>?_)
    ·replace H:=cond_f hc H
     refine rg ctNo_ok ?_
     simp only [go_sem]
     refine seqM ?_
     obtain ⟨f29,H⟩:=need_some.1 H
     replace f29:=inb_iff.1 f29
     refine rg ctNo_ok ?_
     simp only [go_sem,Nat.reduceLT,Nat.reduceAdd,reduceCtorEq,f29]
     repeat ((with_reducible refine And.intro ?_ ?_);focus (first|(and_intros<;>first|(with_reducible trivial)|omega|assumption|exact nfc|first|exact rfl|exact trivial|exact fitI|exact .inr rfl|exact .inl rfl|exact fun x hx=>absurd hx (by omega))|grind))
     refine sq ctNo_ok ?_
     simp only [go_sem,Nat.reduceLeDiff,Nat.reduceAdd]
     repeat ((with_reducible refine And.intro ?_ ?_);focus (first|(with_reducible trivial)|omega|grind))
     refine seqM ?_
     refine draw_rule shT_ok ctNo_ok 0 (by kernel_rfl) (by kernel_rfl) ?_
     intro an han
     simp only [d_nil,d_cons,nxtD,xrD,xoD,roEq,minL,List.append_nil,refsOp,refs,mask,maskF,place,placeF,okLog,pairOk,hit,inL,slotsF,nrH,nrB,nrL,nr,List.replicate_zero,Nat.sub_self,Nat.add_zero,Nat.zero_add,Nat.reduceSub,Nat.lt_add_one,go_sem,Nat.reduceLeDiff,Nat.reduceLT,Nat.reduceAdd,Nat.reduceSub,Nat.reduceBEq]
     repeat ((with_reducible refine And.intro ?_ ?_);focus (and_intros<;>first|(with_reducible trivial)|(show anB _ _ _=true;subst han;kernel_rfl)|(show (anB _ _ _ && _)=true;subst han;kernel_rfl)|omega|assumption|exact nrc|exact nfc|first|exact rfl|exact trivial|exact fitI|exact .inr rfl|exact .inl rfl|exact fun x hx=>absurd hx (by omega)))
     refine fz2_mean [12] [7] ?_ ?_
     ·simp only [go_sem,Nat.reduceBEq,Nat.reduceAdd,fzObHF2,fzObB2]
      first|exact (foc_ob (L:=r7.List) (i:=r4.toNat) (fun a y=>nrefL_getL (nr_d_TSleeper a) y) (fun x y hx=>by simp only [upc_ne hx]) (fun y hy=>match y,hy with|0,_=>(by (simp [upc_ii,getL,fzOb,inL,geth,rowOb,enR,d_TSleeper,s_TSleeper,List.cons_append,List.nil_append];all_goals (first|(with_reducible trivial)|(intros;exact nrefL_getL (NRf.h _) _)|(intros;exact nfc))))|1,_=>(by (simp [upc_ii,getL,fzOb,inL,geth,rowOb,enR,d_TSleeper,s_TSleeper,List.cons_append,List.nil_append];all_goals (first|(with_reducible trivial)|(intros;exact nrefL_getL (NRf.h _) _)|(intros;exact nfc))))|2,_=>(by (simp [upc_ii,getL,fzOb,inL,geth,rowOb,enR,d_TSleeper,s_TSleeper,List.cons_append,List.nil_append];all_goals (first|(with_reducible trivial)|(intros;exact nrefL_getL (NRf.h _) _)|(intros;exact nfc))))|(y+3),h=>absurd h nlt))|(and_intros<;>first|exact (foc_ob (L:=r7.List) (i:=r4.toNat) (fun a y=>nrefL_getL (nr_d_TSleeper a) y) (fun x y hx=>by simp only [upc_ne hx]) (fun y hy=>match y,hy with|0,_=>(by (simp [upc_ii,getL,fzOb,enR,d_TSleeper,s_TSleeper,List.cons_append,List.nil_append];all_goals (first|(with_reducible trivial)|(intros;exact nrefL_getL (NRf.h _) _)|(intros;exact nfc))))|1,_=>(by (simp [upc_ii,getL,fzOb,enR,d_TSleeper,s_TSleeper,List.cons_append,List.nil_append];all_goals (first|(with_reducible trivial)|(intros;exact nrefL_getL (NRf.h _) _)|(intros;exact nfc))))|2,_=>(by (simp [upc_ii,getL,fzOb,inL,geth,rowOb,enR,d_TSleeper,s_TSleeper,List.cons_append,List.nil_append];all_goals (first|(with_reducible trivial)|(intros;exact nrefL_getL (NRf.h _) _)|(intros;exact nfc))))|(y+3),h=>absurd h nlt))|(with_reducible trivial)|omega|exact nfc|trivial)
     simp only [go_sem,Nat.reduceBEq,Nat.reduceAdd,fzH2,fzHF2,fzB2]
     obtain ⟨w30,hw31,H⟩:=bsi H
     replace hw31:=Option.some.inj hw31
     have lhw31:w30.length=r7.List.length:=by rw [← hw31];exact (by simp only [List.length_set])
     obtain ⟨w32,hw33,H⟩:=bsi H
     replace hw33:=Option.some.inj hw33
     have lhw33:w32.length=w1_5.length:=by rw [← hw33];exact (by first|rfl|(simp;done)|(simp;omega))
     refine subF_mean (t2:=(tp 10 (.ptr 5 0 0 0::.ptr 6 0 0 0::.int .i64 0::tp 127 []))) (h2:=[.lit 52 [.int .i64 r7.Limit,.int .i64 r7.Stay,.sl 7 3 0 w30.length false,.sl 9 43 0 r7.Group.length false],.dead,.dead,.lit 25 [.int .u8 p3.x0,.int .u8 p3.x1,.int .u8 p3.x2,.int .u8 p3.x3,.int .u8 p3.x4,.int .u8 p3.x5],.lit 25 [.int .u8 p4.x0,.int .u8 p4.x1,.int .u8 p4.x2,.int .u8 p4.x3,.int .u8 p4.x4,.int .u8 p4.x5],.lit 33 [.int .i64 p2,.sl 11 41 0 w32.length false],.lit 52 [.int .i64 r7.Limit,.int .i64 r7.Stay,.sl 7 3 0 w30.length false,.sl 9 43 0 r7.Group.length false],.row 71 3 w30.length (enR d_TSleeper w30),.dead,.row 73 43 r7.Group.length (enR d_TStored r7.Group),.lit 103 [.ro 43 w1_6.length false (enR d_TStored w1_6),.int .u8 p1.Deliver],.row 30 41 w32.length (enR d_TFrame w32),.dead]) ?_ ?_
     ·refine SubF_of ⟨[some 0,some 1,some 2,some 3,some 4,some 5,some 6,some 7,some 8,some 9,some 10,some 11,some 12],?_,?_,by rfl,by rfl⟩
      ·simp [CvL,Cv,getM,tp]
      ·exact ⟨(by simp [CvB,CvL,Cv,blkAt,geth,getM,lhw31]),CvB_dead,CvB_dead,(by simp [CvB,CvL,Cv,blkAt,geth]),(by simp [CvB,CvL,Cv,blkAt,geth]),(by simp [CvB,CvL,Cv,blkAt,geth,getM,lhw33]),(by simp [CvB,CvL,Cv,blkAt,geth,getM,lhw31]),CvB_row nr_d_TSleeper lhw31 (hw31 ▸ (foc_row (L:=r7.List) (i:=r4.toNat) (fun a y=>nrefL_getL (nr_d_TSleeper a) y) (fun x y hx=>by simp only [upc_ne hx]) (fun y hy=>match y,hy with|0,_=>by simp [upc_ii,getL,fzV,enR,d_TSleeper,s_TSleeper,List.cons_append,List.nil_append]|1,_=>by simp [upc_ii,getL,fzV,enR,d_TSleeper,s_TSleeper,List.cons_append,List.nil_append]|2,_=>by simp [upc_ii,getL,fzV,inL,geth,enR,d_TSleeper,s_TSleeper,List.cons_append,List.nil_append,sub_enR0]|(y+3),h=>absurd h nlt))),CvB_dead,CvB_row nr_d_TStored rfl (fun _ _ _ _=>rfl),(by simp [CvB,CvL,Cv,blkAt,geth]),CvB_row nr_d_TFrame lhw33 (hw33 ▸ (upc_row (f:=d_TFrame) (w1_5.set ((wr .i64 ((w1_5.length:Nat) - 1)).toNat) (TFrame.mk (THeader.mk (((gd w1_5 ((wr .i64 ((w1_5.length:Nat) - 1)).toNat)).Head).Kind) (((gd w1_5 ((wr .i64 ((w1_5.length:Nat) - 1)).toNat)).Head).Sub) (((gd w1_5 ((wr .i64 ((w1_5.length:Nat) - 1)).toNat)).Head).ToDs) (((gd w1_5 ((wr .i64 ((w1_5.length:Nat) - 1)).toNat)).Head).FromDs) (((gd w1_5 ((wr .i64 ((w1_5.length:Nat) - 1)).toNat)).Head).More) (((gd w1_5 ((wr .i64 ((w1_5.length:Nat) - 1)).toNat)).Head).Retry) (((gd w1_5 ((wr .i64 ((w1_5.length:Nat) - 1)).toNat)).Head).Sleep) (((gd w1_5 ((wr .i64 ((w1_5.length:Nat) - 1)).toNat)).Head).MoreData) (((gd w1_5 ((wr .i64 ((w1_5.length:Nat) - 1)).toNat)).Head).Protected) (((gd w1_5 ((wr .i64 ((w1_5.length:Nat) - 1)).toNat)).Head).Duration) (A6u8.mk ((((gd w1_5 ((wr .i64 ((w1_5.length:Nat) - 1)).toNat)).Head).A1).x0) ((((gd w1_5 ((wr .i64 ((w1_5.length:Nat) - 1)).toNat)).Head).A1).x1) ((((gd w1_5 ((wr .i64 ((w1_5.length:Nat) - 1)).toNat)).Head).A1).x2) ((((gd w1_5 ((wr .i64 ((w1_5.length:Nat) - 1)).toNat)).Head).A1).x3) ((((gd w1_5 ((wr .i64 ((w1_5.length:Nat) - 1)).toNat)).Head).A1).x4) ((((gd w1_5 ((wr .i64 ((w1_5.length:Nat) - 1)).toNat)).Head).A1).x5)) (A6u8.mk ((((gd w1_5 ((wr .i64 ((w1_5.length:Nat) - 1)).toNat)).Head).A2).x0) ((((gd w1_5 ((wr .i64 ((w1_5.length:Nat) - 1)).toNat)).Head).A2).x1) ((((gd w1_5 ((wr .i64 ((w1_5.length:Nat) - 1)).toNat)).Head).A2).x2) ((((gd w1_5 ((wr .i64 ((w1_5.length:Nat) - 1)).toNat)).Head).A2).x3) ((((gd w1_5 ((wr .i64 ((w1_5.length:Nat) - 1)).toNat)).Head).A2).x4) ((((gd w1_5 ((wr .i64 ((w1_5.length:Nat) - 1)).toNat)).Head).A2).x5)) (A6u8.mk ((((gd w1_5 ((wr .i64 ((w1_5.length:Nat) - 1)).toNat)).Head).A3).x0) ((((gd w1_5 ((wr .i64 ((w1_5.length:Nat) - 1)).toNat)).Head).A3).x1) ((((gd w1_5 ((wr .i64 ((w1_5.length:Nat) - 1)).toNat)).Head).A3).x2) ((((gd w1_5 ((wr .i64 ((w1_5.length:Nat) - 1)).toNat)).Head).A3).x3) ((((gd w1_5 ((wr .i64 ((w1_5.length:Nat) - 1)).toNat)).Head).A3).x4) ((((gd w1_5 ((wr .i64 ((w1_5.length:Nat) - 1)).toNat)).Head).A3).x5)) (A6u8.mk ((((gd w1_5 ((wr .i64 ((w1_5.length:Nat) - 1)).toNat)).Head).A4).x0) ((((gd w1_5 ((wr .i64 ((w1_5.length:Nat) - 1)).toNat)).Head).A4).x1) ((((gd w1_5 ((wr .i64 ((w1_5.length:Nat) - 1)).toNat)).Head).A4).x2) ((((gd w1_5 ((wr .i64 ((w1_5.length:Nat) - 1)).toNat)).Head).A4).x3) ((((gd w1_5 ((wr .i64 ((w1_5.length:Nat) - 1)).toNat)).Head).A4).x4) ((((gd w1_5 ((wr .i64 ((w1_5.length:Nat) - 1)).toNat)).Head).A4).x5)) (((gd w1_5 ((wr .i64 ((w1_5.length:Nat) - 1)).toNat)).Head).Seq) (((gd w1_5 ((wr .i64 ((w1_5.length:Nat) - 1)).toNat)).Head).Frag) (((gd w1_5 ((wr .i64 ((w1_5.length:Nat) - 1)).toNat)).Head).Tid) (((gd w1_5 ((wr .i64 ((w1_5.length:Nat) - 1)).toNat)).Head).Ack) (((gd w1_5 ((wr .i64 ((w1_5.length:Nat) - 1)).toNat)).Head).Amsdu) true) ((gd w1_5 ((wr .i64 ((w1_5.length:Nat) - 1)).toNat)).Body))) ((wr .i64 ((w1_5.length:Nat) - 1)).toNat) 7 ((fun qq29=>(TFrame.mk (THeader.mk qq29.Head.Kind qq29.Head.Sub qq29.Head.ToDs qq29.Head.FromDs qq29.Head.More qq29.Head.Retry qq29.Head.Sleep r20 qq29.Head.Protected qq29.Head.Duration (A6u8.mk qq29.Head.A1.x0 qq29.Head.A1.x1 qq29.Head.A1.x2 qq29.Head.A1.x3 qq29.Head.A1.x4 qq29.Head.A1.x5) (A6u8.mk qq29.Head.A2.x0 qq29.Head.A2.x1 qq29.Head.A2.x2 qq29.Head.A2.x3 qq29.Head.A2.x4 qq29.Head.A2.x5) (A6u8.mk qq29.Head.A3.x0 qq29.Head.A3.x1 qq29.Head.A3.x2 qq29.Head.A3.x3 qq29.Head.A3.x4 qq29.Head.A3.x5) (A6u8.mk qq29.Head.A4.x0 qq29.Head.A4.x1 qq29.Head.A4.x2 qq29.Head.A4.x3 qq29.Head.A4.x4 qq29.Head.A4.x5) qq29.Head.Seq qq29.Head.Frag qq29.Head.Tid qq29.Head.Ack qq29.Head.Amsdu qq29.Head.Eosp) qq29.Body)) (gd (w1_5.set ((wr .i64 ((w1_5.length:Nat) - 1)).toNat) (TFrame.mk (THeader.mk (((gd w1_5 ((wr .i64 ((w1_5.length:Nat) - 1)).toNat)).Head).Kind) (((gd w1_5 ((wr .i64 ((w1_5.length:Nat) - 1)).toNat)).Head).Sub) (((gd w1_5 ((wr .i64 ((w1_5.length:Nat) - 1)).toNat)).Head).ToDs) (((gd w1_5 ((wr .i64 ((w1_5.length:Nat) - 1)).toNat)).Head).FromDs) (((gd w1_5 ((wr .i64 ((w1_5.length:Nat) - 1)).toNat)).Head).More) (((gd w1_5 ((wr .i64 ((w1_5.length:Nat) - 1)).toNat)).Head).Retry) (((gd w1_5 ((wr .i64 ((w1_5.length:Nat) - 1)).toNat)).Head).Sleep) (((gd w1_5 ((wr .i64 ((w1_5.length:Nat) - 1)).toNat)).Head).MoreData) (((gd w1_5 ((wr .i64 ((w1_5.length:Nat) - 1)).toNat)).Head).Protected) (((gd w1_5 ((wr .i64 ((w1_5.length:Nat) - 1)).toNat)).Head).Duration) (A6u8.mk ((((gd w1_5 ((wr .i64 ((w1_5.length:Nat) - 1)).toNat)).Head).A1).x0) ((((gd w1_5 ((wr .i64 ((w1_5.length:Nat) - 1)).toNat)).Head).A1).x1) ((((gd w1_5 ((wr .i64 ((w1_5.length:Nat) - 1)).toNat)).Head).A1).x2) ((((gd w1_5 ((wr .i64 ((w1_5.length:Nat) - 1)).toNat)).Head).A1).x3) ((((gd w1_5 ((wr .i64 ((w1_5.length:Nat) - 1)).toNat)).Head).A1).x4) ((((gd w1_5 ((wr .i64 ((w1_5.length:Nat) - 1)).toNat)).Head).A1).x5)) (A6u8.mk ((((gd w1_5 ((wr .i64 ((w1_5.length:Nat) - 1)).toNat)).Head).A2).x0) ((((gd w1_5 ((wr .i64 ((w1_5.length:Nat) - 1)).toNat)).Head).A2).x1) ((((gd w1_5 ((wr .i64 ((w1_5.length:Nat) - 1)).toNat)).Head).A2).x2) ((((gd w1_5 ((wr .i64 ((w1_5.length:Nat) - 1)).toNat)).Head).A2).x3) ((((gd w1_5 ((wr .i64 ((w1_5.length:Nat) - 1)).toNat)).Head).A2).x4) ((((gd w1_5 ((wr .i64 ((w1_5.length:Nat) - 1)).toNat)).Head).A2).x5)) (A6u8.mk ((((gd w1_5 ((wr .i64 ((w1_5.length:Nat) - 1)).toNat)).Head).A3).x0) ((((gd w1_5 ((wr .i64 ((w1_5.length:Nat) - 1)).toNat)).Head).A3).x1) ((((gd w1_5 ((wr .i64 ((w1_5.length:Nat) - 1)).toNat)).Head).A3).x2) ((((gd w1_5 ((wr .i64 ((w1_5.length:Nat) - 1)).toNat)).Head).A3).x3) ((((gd w1_5 ((wr .i64 ((w1_5.length:Nat) - 1)).toNat)).Head).A3).x4) ((((gd w1_5 ((wr .i64 ((w1_5.length:Nat) - 1)).toNat)).Head).A3).x5)) (A6u8.mk ((((gd w1_5 ((wr .i64 ((w1_5.length:Nat) - 1)).toNat)).Head).A4).x0) ((((gd w1_5 ((wr .i64 ((w1_5.length:Nat) - 1)).toNat)).Head).A4).x1) ((((gd w1_5 ((wr .i64 ((w1_5.length:Nat) - 1)).toNat)).Head).A4).x2) ((((gd w1_5 ((wr .i64 ((w1_5.length:Nat) - 1)).toNat)).Head).A4).x3) ((((gd w1_5 ((wr .i64 ((w1_5.length:Nat) - 1)).toNat)).Head).A4).x4) ((((gd w1_5 ((wr .i64 ((w1_5.length:Nat) - 1)).toNat)).Head).A4).x5)) (((gd w1_5 ((wr .i64 ((w1_5.length:Nat) - 1)).toNat)).Head).Seq) (((gd w1_5 ((wr .i64 ((w1_5.length:Nat) - 1)).toNat)).Head).Frag) (((gd w1_5 ((wr .i64 ((w1_5.length:Nat) - 1)).toNat)).Head).Tid) (((gd w1_5 ((wr .i64 ((w1_5.length:Nat) - 1)).toNat)).Head).Ack) (((gd w1_5 ((wr .i64 ((w1_5.length:Nat) - 1)).toNat)).Head).Amsdu) true) ((gd w1_5 ((wr .i64 ((w1_5.length:Nat) - 1)).toNat)).Body))) ((wr .i64 ((w1_5.length:Nat) - 1)).toNat))) (upc_row (f:=d_TFrame) w1_5 ((wr .i64 ((w1_5.length:Nat) - 1)).toNat) 39 (TFrame.mk (THeader.mk (((gd w1_5 ((wr .i64 ((w1_5.length:Nat) - 1)).toNat)).Head).Kind) (((gd w1_5 ((wr .i64 ((w1_5.length:Nat) - 1)).toNat)).Head).Sub) (((gd w1_5 ((wr .i64 ((w1_5.length:Nat) - 1)).toNat)).Head).ToDs) (((gd w1_5 ((wr .i64 ((w1_5.length:Nat) - 1)).toNat)).Head).FromDs) (((gd w1_5 ((wr .i64 ((w1_5.length:Nat) - 1)).toNat)).Head).More) (((gd w1_5 ((wr .i64 ((w1_5.length:Nat) - 1)).toNat)).Head).Retry) (((gd w1_5 ((wr .i64 ((w1_5.length:Nat) - 1)).toNat)).Head).Sleep) (((gd w1_5 ((wr .i64 ((w1_5.length:Nat) - 1)).toNat)).Head).MoreData) (((gd w1_5 ((wr .i64 ((w1_5.length:Nat) - 1)).toNat)).Head).Protected) (((gd w1_5 ((wr .i64 ((w1_5.length:Nat) - 1)).toNat)).Head).Duration) (A6u8.mk ((((gd w1_5 ((wr .i64 ((w1_5.length:Nat) - 1)).toNat)).Head).A1).x0) ((((gd w1_5 ((wr .i64 ((w1_5.length:Nat) - 1)).toNat)).Head).A1).x1) ((((gd w1_5 ((wr .i64 ((w1_5.length:Nat) - 1)).toNat)).Head).A1).x2) ((((gd w1_5 ((wr .i64 ((w1_5.length:Nat) - 1)).toNat)).Head).A1).x3) ((((gd w1_5 ((wr .i64 ((w1_5.length:Nat) - 1)).toNat)).Head).A1).x4) ((((gd w1_5 ((wr .i64 ((w1_5.length:Nat) - 1)).toNat)).Head).A1).x5)) (A6u8.mk ((((gd w1_5 ((wr .i64 ((w1_5.length:Nat) - 1)).toNat)).Head).A2).x0) ((((gd w1_5 ((wr .i64 ((w1_5.length:Nat) - 1)).toNat)).Head).A2).x1) ((((gd w1_5 ((wr .i64 ((w1_5.length:Nat) - 1)).toNat)).Head).A2).x2) ((((gd w1_5 ((wr .i64 ((w1_5.length:Nat) - 1)).toNat)).Head).A2).x3) ((((gd w1_5 ((wr .i64 ((w1_5.length:Nat) - 1)).toNat)).Head).A2).x4) ((((gd w1_5 ((wr .i64 ((w1_5.length:Nat) - 1)).toNat)).Head).A2).x5)) (A6u8.mk ((((gd w1_5 ((wr .i64 ((w1_5.length:Nat) - 1)).toNat)).Head).A3).x0) ((((gd w1_5 ((wr .i64 ((w1_5.length:Nat) - 1)).toNat)).Head).A3).x1) ((((gd w1_5 ((wr .i64 ((w1_5.length:Nat) - 1)).toNat)).Head).A3).x2) ((((gd w1_5 ((wr .i64 ((w1_5.length:Nat) - 1)).toNat)).Head).A3).x3) ((((gd w1_5 ((wr .i64 ((w1_5.length:Nat) - 1)).toNat)).Head).A3).x4) ((((gd w1_5 ((wr .i64 ((w1_5.length:Nat) - 1)).toNat)).Head).A3).x5)) (A6u8.mk ((((gd w1_5 ((wr .i64 ((w1_5.length:Nat) - 1)).toNat)).Head).A4).x0) ((((gd w1_5 ((wr .i64 ((w1_5.length:Nat) - 1)).toNat)).Head).A4).x1) ((((gd w1_5 ((wr .i64 ((w1_5.length:Nat) - 1)).toNat)).Head).A4).x2) ((((gd w1_5 ((wr .i64 ((w1_5.length:Nat) - 1)).toNat)).Head).A4).x3) ((((gd w1_5 ((wr .i64 ((w1_5.length:Nat) - 1)).toNat)).Head).A4).x4) ((((gd w1_5 ((wr .i64 ((w1_5.length:Nat) - 1)).toNat)).Head).A4).x5)) (((gd w1_5 ((wr .i64 ((w1_5.length:Nat) - 1)).toNat)).Head).Seq) (((gd w1_5 ((wr .i64 ((w1_5.length:Nat) - 1)).toNat)).Head).Frag) (((gd w1_5 ((wr .i64 ((w1_5.length:Nat) - 1)).toNat)).Head).Tid) (((gd w1_5 ((wr .i64 ((w1_5.length:Nat) - 1)).toNat)).Head).Ack) (((gd w1_5 ((wr .i64 ((w1_5.length:Nat) - 1)).toNat)).Head).Amsdu) true) ((gd w1_5 ((wr .i64 ((w1_5.length:Nat) - 1)).toNat)).Body)) (fun _ _ _ _=>rfl) (fun y hy=>match y,hy with|0,_=>rfl|1,_=>rfl|2,_=>rfl|3,_=>rfl|4,_=>rfl|5,_=>rfl|6,_=>rfl|7,_=>rfl|8,_=>rfl|9,_=>rfl|10,_=>rfl|11,_=>rfl|12,_=>rfl|13,_=>rfl|14,_=>rfl|15,_=>rfl|16,_=>rfl|17,_=>rfl|18,_=>rfl|19,_=>rfl|20,_=>rfl|21,_=>rfl|22,_=>rfl|23,_=>rfl|24,_=>rfl|25,_=>rfl|26,_=>rfl|27,_=>rfl|28,_=>rfl|29,_=>rfl|30,_=>rfl|31,_=>rfl|32,_=>rfl|33,_=>rfl|34,_=>rfl|35,_=>rfl|36,_=>rfl|37,_=>rfl|38,_=>rfl|39,_=>rfl|40,_=>rfl|(y+41),h=>absurd h nlt)) (fun y hy=>match y,hy with|0,_=>rfl|1,_=>rfl|2,_=>rfl|3,_=>rfl|4,_=>rfl|5,_=>rfl|6,_=>rfl|7,_=>rfl|8,_=>rfl|9,_=>rfl|10,_=>rfl|11,_=>rfl|12,_=>rfl|13,_=>rfl|14,_=>rfl|15,_=>rfl|16,_=>rfl|17,_=>rfl|18,_=>rfl|19,_=>rfl|20,_=>rfl|21,_=>rfl|22,_=>rfl|23,_=>rfl|24,_=>rfl|25,_=>rfl|26,_=>rfl|27,_=>rfl|28,_=>rfl|29,_=>rfl|30,_=>rfl|31,_=>rfl|32,_=>rfl|33,_=>rfl|34,_=>rfl|35,_=>rfl|36,_=>rfl|37,_=>rfl|38,_=>rfl|39,_=>rfl|40,_=>rfl|(y+41),h=>absurd h nlt))),CvB_dead,trivial⟩
     simp only [tp]
     refine rg ctNo_ok ?_
     simp only [go_sem,Nat.reduceLT,Nat.reduceAdd]
     obtain rfl:=Option.some.inj H
     refine ⟨[11,7,9,0,3,4,5,6,10],?_,?_,[],?_,?_,rfl⟩
     ·simp only [go_sem,Nat.reduceBEq]
      try (and_intros<;>first|(with_reducible trivial)|omega|exact nfc|trivial)
     ·simp only [go_sem,Nat.reduceBEq]
      try (and_intros<;>first|(with_reducible trivial)|omega|exact nfc|trivial)
     ·simp only [go_sem,Nat.reduceBEq]
      exact Cv_tup (CvL_cons (Cv_agg (CvL_cons Cv_int (CvL_cons (ro_row (by first|rfl|simp) (fun _ _ _ _=>rfl)) CvL_nil))) (CvL_cons (Cv_agg (CvL_cons Cv_int (CvL_cons Cv_int (CvL_cons (ro_row (by first|rfl|simp) (fun _ _ _ _=>rfl)) (CvL_cons (ro_row (by first|rfl|simp) (fun _ _ _ _=>rfl)) CvL_nil))))) (CvL_cons Cv_int CvL_nil)))
     ·simp only [go_sem,CvH]
    replace H:=cond_t hc H
    refine regO ?_
    obtain ⟨r22,e23,H⟩:=bsi H
    refine cutO shT_ok ct29t6_ok 3 ?_
    simp only [kO_normal,List.take_succ_cons,List.take_zero,List.drop_succ_cons,List.drop_zero,go_sem,Nat.reduceLT,Nat.reduceAdd,ct29t6_57,body57,e23]
    repeat ((with_reducible refine And.intro ?_ ?_);focus (first|(and_intros<;>first|(with_reducible trivial)|omega|assumption|exact nfc|first|exact rfl|exact trivial|exact fitI|exact .inr rfl|exact .inl rfl|exact fun x hx=>absurd hx (by omega)|(intro x hx;(repeat (first|(and_intros<;>(first|exact rfl|exact trivial|exact fitI|exact .inr rfl|exact .inl rfl|exact fun x hx=>absurd hx (by omega)))|(exfalso;omega)|(rcases x with _|x)));done))|grind))
    refine fzO [13] ?_ ?_
    ·simp only [go_sem,Nat.reduceBEq]
     try (and_intros<;>first|(with_reducible trivial)|omega|exact nfc|trivial)
    simp only [go_sem,Nat.reduceBEq,Nat.reduceAdd]
    refine cutO shT_ok ctNo_ok 4 ?_
    simp only [kO_normal,List.take_succ_cons,List.take_zero,List.drop_succ_cons,List.drop_zero,go_sem,Nat.reduceLeDiff,Nat.reduceAdd]
    repeat ((with_reducible refine And.intro ?_ ?_);focus (first|(and_intros<;>first|(with_reducible trivial)|omega|assumption|exact nfc|first|exact rfl|exact trivial|exact fitI|exact .inr rfl|exact .inl rfl|exact fun x hx=>absurd hx (by omega)|(intro x hx;(repeat (first|(and_intros<;>(first|exact rfl|exact trivial|exact fitI|exact .inr rfl|exact .inl rfl|exact fun x hx=>absurd hx (by omega)))|(exfalso;omega)|(rcases x with _|x)));done))|grind))
    refine endO ?_
    refine seqM ?_
    obtain ⟨f24,H⟩:=need_some.1 H
    replace f24:=inb_iff.1 f24
    refine rg ctNo_ok ?_
    simp only [go_sem,Nat.reduceLT,Nat.reduceAdd,reduceCtorEq,(by decide:wr IntKind.i64 ((1:Int) - 1)=0),f24]
    repeat ((with_reducible refine And.intro ?_ ?_);focus (first|(and_intros<;>first|(with_reducible trivial)|omega|assumption|exact nfc|first|exact rfl|exact trivial|exact fitI|exact .inr rfl|exact .inl rfl|exact fun x hx=>absurd hx (by omega)|(intro x hx;(repeat (first|(and_intros<;>(first|exact rfl|exact trivial|exact fitI|exact .inr rfl|exact .inl rfl|exact fun x hx=>absurd hx (by omega)))|(exfalso;omega)|(rcases x with _|x)));done))|grind))
    refine sq ctNo_ok ?_
    simp only [go_sem,Nat.reduceLeDiff,Nat.reduceLT,Nat.reduceAdd]
    repeat ((with_reducible refine And.intro ?_ ?_);focus (first|(with_reducible trivial)|omega|grind))
    refine seqM ?_
    refine draw_rule shT_ok ctNo_ok 0 (by kernel_rfl) (by kernel_rfl) ?_
    intro an han
    simp only [d_nil,d_cons,nxtD,xrD,xoD,roEq,minL,List.append_nil,refsOp,refs,mask,maskF,place,placeF,okLog,pairOk,hit,inL,slotsF,nrH,nrB,nrL,nr,List.replicate_zero,Nat.sub_self,Nat.add_zero,Nat.zero_add,Nat.reduceSub,Nat.lt_add_one,go_sem,Nat.reduceLeDiff,Nat.reduceLT,Nat.reduceAdd,Nat.reduceSub,Nat.reduceBEq]
    repeat ((with_reducible refine And.intro ?_ ?_);focus (and_intros<;>first|(with_reducible trivial)|(show anB _ _ _=true;subst han;kernel_rfl)|(show (anB _ _ _ && _)=true;subst han;kernel_rfl)|omega|assumption|exact nrc|exact nfc|first|exact rfl|exact trivial|exact fitI|exact .inr rfl|exact .inl rfl|exact fun x hx=>absurd hx (by omega)|(intro x hx;(repeat (first|(and_intros<;>(first|exact rfl|exact trivial|exact fitI|exact .inr rfl|exact .inl rfl|exact fun x hx=>absurd hx (by omega)))|(exfalso;omega)|(rcases x with _|x)));done)))
    refine fz2_mean [12] [7] ?_ ?_
    ·simp only [go_sem,Nat.reduceBEq,Nat.reduceAdd,fzObHF2,fzObB2]
     first|exact (foc_ob (L:=r7.List) (i:=r4.toNat) (fun a y=>nrefL_getL (nr_d_TSleeper a) y) (fun x y hx=>by simp only [upc_ne hx]) (fun y hy=>match y,hy with|0,_=>(by (simp [upc_ii,getL,fzOb,inL,geth,rowOb,enR,d_TSleeper,s_TSleeper,List.cons_append,List.nil_append];all_goals (first|(with_reducible trivial)|(intros;exact nrefL_getL (NRf.h _) _)|(intros;exact nfc))))|1,_=>(by (simp [upc_ii,getL,fzOb,inL,geth,rowOb,enR,d_TSleeper,s_TSleeper,List.cons_append,List.nil_append];all_goals (first|(with_reducible trivial)|(intros;exact nrefL_getL (NRf.h _) _)|(intros;exact nfc))))|2,_=>(by (simp [upc_ii,getL,fzOb,inL,geth,rowOb,enR,d_TSleeper,s_TSleeper,List.cons_append,List.nil_append];all_goals (first|(with_reducible trivial)|(intros;exact nrefL_getL (NRf.h _) _)|(intros;exact nfc))))|(y+3),h=>absurd h nlt))|(and_intros<;>first|exact (foc_ob (L:=r7.List) (i:=r4.toNat) (fun a y=>nrefL_getL (nr_d_TSleeper a) y) (fun x y hx=>by simp only [upc_ne hx]) (fun y hy=>match y,hy with|0,_=>(by (simp [upc_ii,getL,fzOb,enR,d_TSleeper,s_TSleeper,List.cons_append,List.nil_append];all_goals (first|(with_reducible trivial)|(intros;exact nrefL_getL (NRf.h _) _)|(intros;exact nfc))))|1,_=>(by (simp [upc_ii,getL,fzOb,enR,d_TSleeper,s_TSleeper,List.cons_append,List.nil_append];all_goals (first|(with_reducible trivial)|(intros;exact nrefL_getL (NRf.h _) _)|(intros;exact nfc))))|2,_=>(by (simp [upc_ii,getL,fzOb,inL,geth,rowOb,enR,d_TSleeper,s_TSleeper,List.cons_append,List.nil_append];all_goals (first|(with_reducible trivial)|(intros;exact nrefL_getL (NRf.h _) _)|(intros;exact nfc))))|(y+3),h=>absurd h nlt))|(with_reducible trivial)|omega|exact nfc|trivial)
    simp only [go_sem,Nat.reduceBEq,Nat.reduceAdd,fzH2,fzHF2,fzB2]
    obtain ⟨w25,hw26,H⟩:=bsi H
    replace hw26:=Option.some.inj hw26
    have lhw26:w25.length=r7.List.length:=by rw [← hw26];exact (by simp only [List.length_set])
    obtain ⟨w27,hw28,H⟩:=bsi H
    replace hw28:=Option.some.inj hw28
    have lhw28:w27.length=1:=by rw [← hw28];exact (by first|rfl|(simp;done)|(simp;omega))
    refine subF_mean (t2:=(tp 10 (.ptr 5 0 0 0::.ptr 6 0 0 0::.int .i64 0::tp 127 []))) (h2:=[.lit 52 [.int .i64 r7.Limit,.int .i64 r7.Stay,.sl 7 3 0 w25.length false,.sl 9 43 0 r7.Group.length false],.dead,.dead,.lit 25 [.int .u8 p3.x0,.int .u8 p3.x1,.int .u8 p3.x2,.int .u8 p3.x3,.int .u8 p3.x4,.int .u8 p3.x5],.lit 25 [.int .u8 p4.x0,.int .u8 p4.x1,.int .u8 p4.x2,.int .u8 p4.x3,.int .u8 p4.x4,.int .u8 p4.x5],.lit 33 [.int .i64 p2,.sl 14 41 0 w27.length false],.lit 52 [.int .i64 r7.Limit,.int .i64 r7.Stay,.sl 7 3 0 w25.length false,.sl 9 43 0 r7.Group.length false],.row 71 3 w25.length (enR d_TSleeper w25),.dead,.row 73 43 r7.Group.length (enR d_TStored r7.Group),.lit 103 [.ro 43 w1_6.length false (enR d_TStored w1_6),.int .u8 p1.Deliver],.row 30 41 w1_5.length (enR d_TFrame w1_5),.dead,.dead,.row 30 41 w27.length (enR d_TFrame w27)]) ?_ ?_
    ·refine SubF_of ⟨[some 0,some 1,some 2,some 3,some 4,some 5,some 6,some 7,some 8,some 9,some 10,some 11,some 12,some 13,some 14],?_,?_,by rfl,by rfl⟩
     ·simp [CvL,Cv,getM,tp]
     ·exact ⟨(by simp [CvB,CvL,Cv,blkAt,geth,getM,lhw26]),CvB_dead,CvB_dead,(by simp [CvB,CvL,Cv,blkAt,geth]),(by simp [CvB,CvL,Cv,blkAt,geth]),(by simp [CvB,CvL,Cv,blkAt,geth,getM,lhw28]),(by simp [CvB,CvL,Cv,blkAt,geth,getM,lhw26]),CvB_row nr_d_TSleeper lhw26 (hw26 ▸ (foc_row (L:=r7.List) (i:=r4.toNat) (fun a y=>nrefL_getL (nr_d_TSleeper a) y) (fun x y hx=>by simp only [upc_ne hx]) (fun y hy=>match y,hy with|0,_=>by simp [upc_ii,getL,fzV,enR,d_TSleeper,s_TSleeper,List.cons_append,List.nil_append]|1,_=>by simp [upc_ii,getL,fzV,enR,d_TSleeper,s_TSleeper,List.cons_append,List.nil_append]|2,_=>by simp [upc_ii,getL,fzV,inL,geth,enR,d_TSleeper,s_TSleeper,List.cons_append,List.nil_append,sub_enR0]|(y+3),h=>absurd h nlt))),CvB_dead,CvB_row nr_d_TStored rfl (fun _ _ _ _=>rfl),(by simp [CvB,CvL,Cv,blkAt,geth]),CvB_row nr_d_TFrame rfl (fun _ _ _ _=>rfl),CvB_dead,CvB_dead,CvB_row nr_d_TFrame lhw28 (hw28 ▸ (upc_row (f:=d_TFrame) ([r22].set 0 (TFrame.mk (THeader.mk (((gd [r22] 0).Head).Kind) (((gd [r22] 0).Head).Sub) (((gd [r22] 0).Head).ToDs) (((gd [r22] 0).Head).FromDs) (((gd [r22] 0).Head).More) (((gd [r22] 0).Head).Retry) (((gd [r22] 0).Head).Sleep) (((gd [r22] 0).Head).MoreData) (((gd [r22] 0).Head).Protected) (((gd [r22] 0).Head).Duration) (A6u8.mk ((((gd [r22] 0).Head).A1).x0) ((((gd [r22] 0).Head).A1).x1) ((((gd [r22] 0).Head).A1).x2) ((((gd [r22] 0).Head).A1).x3) ((((gd [r22] 0).Head).A1).x4) ((((gd [r22] 0).Head).A1).x5)) (A6u8.mk ((((gd [r22] 0).Head).A2).x0) ((((gd [r22] 0).Head).A2).x1) ((((gd [r22] 0).Head).A2).x2) ((((gd [r22] 0).Head).A2).x3) ((((gd [r22] 0).Head).A2).x4) ((((gd [r22] 0).Head).A2).x5)) (A6u8.mk ((((gd [r22] 0).Head).A3).x0) ((((gd [r22] 0).Head).A3).x1) ((((gd [r22] 0).Head).A3).x2) ((((gd [r22] 0).Head).A3).x3) ((((gd [r22] 0).Head).A3).x4) ((((gd [r22] 0).Head).A3).x5)) (A6u8.mk ((((gd [r22] 0).Head).A4).x0) ((((gd [r22] 0).Head).A4).x1) ((((gd [r22] 0).Head).A4).x2) ((((gd [r22] 0).Head).A4).x3) ((((gd [r22] 0).Head).A4).x4) ((((gd [r22] 0).Head).A4).x5)) (((gd [r22] 0).Head).Seq) (((gd [r22] 0).Head).Frag) (((gd [r22] 0).Head).Tid) (((gd [r22] 0).Head).Ack) (((gd [r22] 0).Head).Amsdu) true) ((gd [r22] 0).Body))) 0 7 ((fun qq24=>(TFrame.mk (THeader.mk qq24.Head.Kind qq24.Head.Sub qq24.Head.ToDs qq24.Head.FromDs qq24.Head.More qq24.Head.Retry qq24.Head.Sleep false qq24.Head.Protected qq24.Head.Duration (A6u8.mk qq24.Head.A1.x0 qq24.Head.A1.x1 qq24.Head.A1.x2 qq24.Head.A1.x3 qq24.Head.A1.x4 qq24.Head.A1.x5) (A6u8.mk qq24.Head.A2.x0 qq24.Head.A2.x1 qq24.Head.A2.x2 qq24.Head.A2.x3 qq24.Head.A2.x4 qq24.Head.A2.x5) (A6u8.mk qq24.Head.A3.x0 qq24.Head.A3.x1 qq24.Head.A3.x2 qq24.Head.A3.x3 qq24.Head.A3.x4 qq24.Head.A3.x5) (A6u8.mk qq24.Head.A4.x0 qq24.Head.A4.x1 qq24.Head.A4.x2 qq24.Head.A4.x3 qq24.Head.A4.x4 qq24.Head.A4.x5) qq24.Head.Seq qq24.Head.Frag qq24.Head.Tid qq24.Head.Ack qq24.Head.Amsdu qq24.Head.Eosp) qq24.Body)) (gd ([r22].set 0 (TFrame.mk (THeader.mk (((gd [r22] 0).Head).Kind) (((gd [r22] 0).Head).Sub) (((gd [r22] 0).Head).ToDs) (((gd [r22] 0).Head).FromDs) (((gd [r22] 0).Head).More) (((gd [r22] 0).Head).Retry) (((gd [r22] 0).Head).Sleep) (((gd [r22] 0).Head).MoreData) (((gd [r22] 0).Head).Protected) (((gd [r22] 0).Head).Duration) (A6u8.mk ((((gd [r22] 0).Head).A1).x0) ((((gd [r22] 0).Head).A1).x1) ((((gd [r22] 0).Head).A1).x2) ((((gd [r22] 0).Head).A1).x3) ((((gd [r22] 0).Head).A1).x4) ((((gd [r22] 0).Head).A1).x5)) (A6u8.mk ((((gd [r22] 0).Head).A2).x0) ((((gd [r22] 0).Head).A2).x1) ((((gd [r22] 0).Head).A2).x2) ((((gd [r22] 0).Head).A2).x3) ((((gd [r22] 0).Head).A2).x4) ((((gd [r22] 0).Head).A2).x5)) (A6u8.mk ((((gd [r22] 0).Head).A3).x0) ((((gd [r22] 0).Head).A3).x1) ((((gd [r22] 0).Head).A3).x2) ((((gd [r22] 0).Head).A3).x3) ((((gd [r22] 0).Head).A3).x4) ((((gd [r22] 0).Head).A3).x5)) (A6u8.mk ((((gd [r22] 0).Head).A4).x0) ((((gd [r22] 0).Head).A4).x1) ((((gd [r22] 0).Head).A4).x2) ((((gd [r22] 0).Head).A4).x3) ((((gd [r22] 0).Head).A4).x4) ((((gd [r22] 0).Head).A4).x5)) (((gd [r22] 0).Head).Seq) (((gd [r22] 0).Head).Frag) (((gd [r22] 0).Head).Tid) (((gd [r22] 0).Head).Ack) (((gd [r22] 0).Head).Amsdu) true) ((gd [r22] 0).Body))) 0)) (upc_row (f:=d_TFrame) [r22] 0 39 (TFrame.mk (THeader.mk (((gd [r22] 0).Head).Kind) (((gd [r22] 0).Head).Sub) (((gd [r22] 0).Head).ToDs) (((gd [r22] 0).Head).FromDs) (((gd [r22] 0).Head).More) (((gd [r22] 0).Head).Retry) (((gd [r22] 0).Head).Sleep) (((gd [r22] 0).Head).MoreData) (((gd [r22] 0).Head).Protected) (((gd [r22] 0).Head).Duration) (A6u8.mk ((((gd [r22] 0).Head).A1).x0) ((((gd [r22] 0).Head).A1).x1) ((((gd [r22] 0).Head).A1).x2) ((((gd [r22] 0).Head).A1).x3) ((((gd [r22] 0).Head).A1).x4) ((((gd [r22] 0).Head).A1).x5)) (A6u8.mk ((((gd [r22] 0).Head).A2).x0) ((((gd [r22] 0).Head).A2).x1) ((((gd [r22] 0).Head).A2).x2) ((((gd [r22] 0).Head).A2).x3) ((((gd [r22] 0).Head).A2).x4) ((((gd [r22] 0).Head).A2).x5)) (A6u8.mk ((((gd [r22] 0).Head).A3).x0) ((((gd [r22] 0).Head).A3).x1) ((((gd [r22] 0).Head).A3).x2) ((((gd [r22] 0).Head).A3).x3) ((((gd [r22] 0).Head).A3).x4) ((((gd [r22] 0).Head).A3).x5)) (A6u8.mk ((((gd [r22] 0).Head).A4).x0) ((((gd [r22] 0).Head).A4).x1) ((((gd [r22] 0).Head).A4).x2) ((((gd [r22] 0).Head).A4).x3) ((((gd [r22] 0).Head).A4).x4) ((((gd [r22] 0).Head).A4).x5)) (((gd [r22] 0).Head).Seq) (((gd [r22] 0).Head).Frag) (((gd [r22] 0).Head).Tid) (((gd [r22] 0).Head).Ack) (((gd [r22] 0).Head).Amsdu) true) ((gd [r22] 0).Body)) (dS ds_TFrame (lit_row (f:=s_TFrame) [r22] (fun _ _=>rfl) rfl)) (fun y hy=>match y,hy with|0,_=>rfl|1,_=>rfl|2,_=>rfl|3,_=>rfl|4,_=>rfl|5,_=>rfl|6,_=>rfl|7,_=>rfl|8,_=>rfl|9,_=>rfl|10,_=>rfl|11,_=>rfl|12,_=>rfl|13,_=>rfl|14,_=>rfl|15,_=>rfl|16,_=>rfl|17,_=>rfl|18,_=>rfl|19,_=>rfl|20,_=>rfl|21,_=>rfl|22,_=>rfl|23,_=>rfl|24,_=>rfl|25,_=>rfl|26,_=>rfl|27,_=>rfl|28,_=>rfl|29,_=>rfl|30,_=>rfl|31,_=>rfl|32,_=>rfl|33,_=>rfl|34,_=>rfl|35,_=>rfl|36,_=>rfl|37,_=>rfl|38,_=>rfl|39,_=>rfl|40,_=>rfl|(y+41),h=>absurd h nlt)) (fun y hy=>match y,hy with|0,_=>rfl|1,_=>rfl|2,_=>rfl|3,_=>rfl|4,_=>rfl|5,_=>rfl|6,_=>rfl|7,_=>rfl|8,_=>rfl|9,_=>rfl|10,_=>rfl|11,_=>rfl|12,_=>rfl|13,_=>rfl|14,_=>rfl|15,_=>rfl|16,_=>rfl|17,_=>rfl|18,_=>rfl|19,_=>rfl|20,_=>rfl|21,_=>rfl|22,_=>rfl|23,_=>rfl|24,_=>rfl|25,_=>rfl|26,_=>rfl|27,_=>rfl|28,_=>rfl|29,_=>rfl|30,_=>rfl|31,_=>rfl|32,_=>rfl|33,_=>rfl|34,_=>rfl|35,_=>rfl|36,_=>rfl|37,_=>rfl|38,_=>rfl|39,_=>rfl|40,_=>rfl|(y+41),h=>absurd h nlt))),trivial⟩
    simp only [tp]
    refine rg ctNo_ok ?_
    simp only [go_sem,Nat.reduceLT,Nat.reduceAdd]
    obtain rfl:=Option.some.inj H
    refine ⟨[14,7,9,0,3,4,5,6,10],?_,?_,[],?_,?_,rfl⟩
    ·simp only [go_sem,Nat.reduceBEq]
     try (and_intros<;>first|(with_reducible trivial)|omega|exact nfc|trivial)
    ·simp only [go_sem,Nat.reduceBEq]
     try (and_intros<;>first|(with_reducible trivial)|omega|exact nfc|trivial)
    ·simp only [go_sem,Nat.reduceBEq]
     exact Cv_tup (CvL_cons (Cv_agg (CvL_cons Cv_int (CvL_cons (ro_row (by first|rfl|simp) (fun _ _ _ _=>rfl)) CvL_nil))) (CvL_cons (Cv_agg (CvL_cons Cv_int (CvL_cons Cv_int (CvL_cons (ro_row (by first|rfl|simp) (fun _ _ _ _=>rfl)) (CvL_cons (ro_row (by first|rfl|simp) (fun _ _ _ _=>rfl)) CvL_nil))))) (CvL_cons Cv_int CvL_nil)))
    ·simp only [go_sem,CvH]
  ·cases hb
 ·unfold body29 at hb
  split at hb<;>cases hb
end Go.Proofs.Ytnclkplbeenmdaa
