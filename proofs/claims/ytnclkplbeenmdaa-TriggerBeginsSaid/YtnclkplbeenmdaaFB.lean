/-
  Contracts of functions: each computes its partial function.
-/
import Derived.Test.YtnclkplbeenmdaaFA
namespace Go.Proofs.Ytnclkplbeenmdaa
open Go.Am
set_option maxHeartbeats 4000000
set_option maxRecDepth 20000
set_option linter.unusedVariables false
set_option linter.unusedSimpArgs false
noncomputable def F44 (p0:TFrame):Option (TFrame) :=
 need (capb 1 p0.Body.length) <| some (TFrame.mk (THeader.mk p0.Head.Kind p0.Head.Sub p0.Head.ToDs p0.Head.FromDs p0.Head.More p0.Head.Retry p0.Head.Sleep p0.Head.MoreData p0.Head.Protected p0.Head.Duration (A6u8.mk p0.Head.A1.x0 p0.Head.A1.x1 p0.Head.A1.x2 p0.Head.A1.x3 p0.Head.A1.x4 p0.Head.A1.x5) (A6u8.mk p0.Head.A2.x0 p0.Head.A2.x1 p0.Head.A2.x2 p0.Head.A2.x3 p0.Head.A2.x4 p0.Head.A2.x5) (A6u8.mk p0.Head.A3.x0 p0.Head.A3.x1 p0.Head.A3.x2 p0.Head.A3.x3 p0.Head.A3.x4 p0.Head.A3.x5) (A6u8.mk p0.Head.A4.x0 p0.Head.A4.x1 p0.Head.A4.x2 p0.Head.A4.x3 p0.Head.A4.x4 p0.Head.A4.x5) p0.Head.Seq p0.Head.Frag p0.Head.Tid p0.Head.Ack p0.Head.Amsdu p0.Head.Eosp) ([] ++ p0.Body))
noncomputable def body44:List AV->List ABlk->ED
 | [v0],h=>.ed [] (aK 41 k_TFrame (roD (deadL h []) v0)/\roDOb (deadL h []) v0/\(F44 (g_TFrame (aL (roD (deadL h []) v0)))).isSome=true) (.agg (.int .u8 (((gt (F44 (g_TFrame (aL (roD (deadL h []) v0))))).Head).Kind)::.int .u8 (((gt (F44 (g_TFrame (aL (roD (deadL h []) v0))))).Head).Sub)::.bool (((gt (F44 (g_TFrame (aL (roD (deadL h []) v0))))).Head).ToDs)::.bool (((gt (F44 (g_TFrame (aL (roD (deadL h []) v0))))).Head).FromDs)::.bool (((gt (F44 (g_TFrame (aL (roD (deadL h []) v0))))).Head).More)::.bool (((gt (F44 (g_TFrame (aL (roD (deadL h []) v0))))).Head).Retry)::.bool (((gt (F44 (g_TFrame (aL (roD (deadL h []) v0))))).Head).Sleep)::.bool (((gt (F44 (g_TFrame (aL (roD (deadL h []) v0))))).Head).MoreData)::.bool (((gt (F44 (g_TFrame (aL (roD (deadL h []) v0))))).Head).Protected)::.int .i64 (((gt (F44 (g_TFrame (aL (roD (deadL h []) v0))))).Head).Duration)::.int .u8 ((((gt (F44 (g_TFrame (aL (roD (deadL h []) v0))))).Head).A1).x0)::.int .u8 ((((gt (F44 (g_TFrame (aL (roD (deadL h []) v0))))).Head).A1).x1)::.int .u8 ((((gt (F44 (g_TFrame (aL (roD (deadL h []) v0))))).Head).A1).x2)::.int .u8 ((((gt (F44 (g_TFrame (aL (roD (deadL h []) v0))))).Head).A1).x3)::.int .u8 ((((gt (F44 (g_TFrame (aL (roD (deadL h []) v0))))).Head).A1).x4)::.int .u8 ((((gt (F44 (g_TFrame (aL (roD (deadL h []) v0))))).Head).A1).x5)::.int .u8 ((((gt (F44 (g_TFrame (aL (roD (deadL h []) v0))))).Head).A2).x0)::.int .u8 ((((gt (F44 (g_TFrame (aL (roD (deadL h []) v0))))).Head).A2).x1)::.int .u8 ((((gt (F44 (g_TFrame (aL (roD (deadL h []) v0))))).Head).A2).x2)::.int .u8 ((((gt (F44 (g_TFrame (aL (roD (deadL h []) v0))))).Head).A2).x3)::.int .u8 ((((gt (F44 (g_TFrame (aL (roD (deadL h []) v0))))).Head).A2).x4)::.int .u8 ((((gt (F44 (g_TFrame (aL (roD (deadL h []) v0))))).Head).A2).x5)::.int .u8 ((((gt (F44 (g_TFrame (aL (roD (deadL h []) v0))))).Head).A3).x0)::.int .u8 ((((gt (F44 (g_TFrame (aL (roD (deadL h []) v0))))).Head).A3).x1)::.int .u8 ((((gt (F44 (g_TFrame (aL (roD (deadL h []) v0))))).Head).A3).x2)::.int .u8 ((((gt (F44 (g_TFrame (aL (roD (deadL h []) v0))))).Head).A3).x3)::.int .u8 ((((gt (F44 (g_TFrame (aL (roD (deadL h []) v0))))).Head).A3).x4)::.int .u8 ((((gt (F44 (g_TFrame (aL (roD (deadL h []) v0))))).Head).A3).x5)::.int .u8 ((((gt (F44 (g_TFrame (aL (roD (deadL h []) v0))))).Head).A4).x0)::.int .u8 ((((gt (F44 (g_TFrame (aL (roD (deadL h []) v0))))).Head).A4).x1)::.int .u8 ((((gt (F44 (g_TFrame (aL (roD (deadL h []) v0))))).Head).A4).x2)::.int .u8 ((((gt (F44 (g_TFrame (aL (roD (deadL h []) v0))))).Head).A4).x3)::.int .u8 ((((gt (F44 (g_TFrame (aL (roD (deadL h []) v0))))).Head).A4).x4)::.int .u8 ((((gt (F44 (g_TFrame (aL (roD (deadL h []) v0))))).Head).A4).x5)::.int .i64 (((gt (F44 (g_TFrame (aL (roD (deadL h []) v0))))).Head).Seq)::.int .i64 (((gt (F44 (g_TFrame (aL (roD (deadL h []) v0))))).Head).Frag)::.int .i64 (((gt (F44 (g_TFrame (aL (roD (deadL h []) v0))))).Head).Tid)::.int .u8 (((gt (F44 (g_TFrame (aL (roD (deadL h []) v0))))).Head).Ack)::.bool (((gt (F44 (g_TFrame (aL (roD (deadL h []) v0))))).Head).Amsdu)::.bool (((gt (F44 (g_TFrame (aL (roD (deadL h []) v0))))).Head).Eosp)::.sl 0 1 0 (((gt (F44 (g_TFrame (aL (roD (deadL h []) v0))))).Body).length) false::[])) [.row 5 1 (((gt (F44 (g_TFrame (aL (roD (deadL h []) v0))))).Body).length) (enR d_u8 ((gt (F44 (g_TFrame (aL (roD (deadL h []) v0))))).Body))]
 | _,_=>.fail
theorem ok44:FnOk Try.prog 44 (edC body44):=by
 refine edit_fnV body44 (rs:=[.cell 2 30]) Try.func44 (by kernel_rfl) rfl rfl ?_
 intro l h bs ob q0 g0 hb hob
 unfold body44 at hb
 split at hb
 ·rename_i v0
  injection hb with q1 q2 q3 q4;subst q1 q2 q3 q4
  obtain ⟨hk0_0,hk0_1,hob⟩:=hob
  obtain ⟨r,H⟩:=Option.isSome_iff_exists.1 hob
  rw [H,gt_some]
  have hw0:=wA_TFrame hk0_0
  obtain ⟨p0,hp_p0⟩:∃ p0,p0=g_TFrame (aL (roD (deadL h []) v0)):=⟨_,rfl⟩
  rw [← hp_p0] at H hw0
  refine ⟨[.agg (.int .u8 p0.Head.Kind::.int .u8 p0.Head.Sub::.bool p0.Head.ToDs::.bool p0.Head.FromDs::.bool p0.Head.More::.bool p0.Head.Retry::.bool p0.Head.Sleep::.bool p0.Head.MoreData::.bool p0.Head.Protected::.int .i64 p0.Head.Duration::.int .u8 p0.Head.A1.x0::.int .u8 p0.Head.A1.x1::.int .u8 p0.Head.A1.x2::.int .u8 p0.Head.A1.x3::.int .u8 p0.Head.A1.x4::.int .u8 p0.Head.A1.x5::.int .u8 p0.Head.A2.x0::.int .u8 p0.Head.A2.x1::.int .u8 p0.Head.A2.x2::.int .u8 p0.Head.A2.x3::.int .u8 p0.Head.A2.x4::.int .u8 p0.Head.A2.x5::.int .u8 p0.Head.A3.x0::.int .u8 p0.Head.A3.x1::.int .u8 p0.Head.A3.x2::.int .u8 p0.Head.A3.x3::.int .u8 p0.Head.A3.x4::.int .u8 p0.Head.A3.x5::.int .u8 p0.Head.A4.x0::.int .u8 p0.Head.A4.x1::.int .u8 p0.Head.A4.x2::.int .u8 p0.Head.A4.x3::.int .u8 p0.Head.A4.x4::.int .u8 p0.Head.A4.x5::.int .i64 p0.Head.Seq::.int .i64 p0.Head.Frag::.int .i64 p0.Head.Tid::.int .u8 p0.Head.Ack::.bool p0.Head.Amsdu::.bool p0.Head.Eosp::.ro 1 p0.Body.length false (enR c_u8 p0.Body)::[])],[],rfl,⟨(EW_view hk0_1 hw0),trivial⟩,trivial,trivial,⟨(nfB_en nr_d_u8),trivial⟩,⟨noroB_en,trivial⟩,(by first|(simp only [noro,noroL,and_self];done)|(simp only [noro,noroL];and_intros<;>first|trivial|exact noro_bif (by simp only [noro]) (by simp only [noro])|(simp only [noro,noroL,and_self]))),?_⟩
  rw [Try.ntmps44]
  simp only [List.length_cons,List.length_nil,Nat.reduceAdd,Nat.reduceSub,List.replicate_succ,List.replicate_zero,List.cons_append,List.nil_append]
  unfold F44 at H
  try dsimp only at H
  refine sq ctNo_ok ?_
  simp only [go_sem]
  refine seqM ?_
  obtain ⟨f1,H⟩:=need_some.1 H
  replace f1:=capb_iff.1 f1
  refine rg ctNo_ok ?_
  simp only [go_sem,Nat.reduceLeDiff,Nat.reduceLT,Nat.reduceAdd,f1]
  repeat ((with_reducible refine And.intro ?_ ?_);focus (first|(and_intros<;>first|(with_reducible trivial)|omega|assumption|exact nfc|first|exact rfl|exact trivial|exact fitI|exact .inr rfl|exact .inl rfl|exact fun x hx=>absurd hx (by omega)|(intro x hx;(repeat (first|(and_intros<;>(first|exact rfl|exact trivial|exact fitI|exact .inr rfl|exact .inl rfl|exact fun x hx=>absurd hx (by omega)))|(exfalso;omega)|(rcases x with _|x)));done)|(refine Fit_app ?_ ?_<;>first|exact fitI|(intro x hx;(repeat (first|(and_intros<;>(first|exact rfl|exact trivial|exact fitI|exact .inr rfl|exact .inl rfl|exact fun x hx=>absurd hx (by omega)))|(exfalso;omega)|(rcases x with _|x)));done)|(refine Fit_app ?_ ?_<;>first|exact fitI|(intro x hx;(repeat (first|(and_intros<;>(first|exact rfl|exact trivial|exact fitI|exact .inr rfl|exact .inl rfl|exact fun x hx=>absurd hx (by omega)))|(exfalso;omega)|(rcases x with _|x)));done))))|grind))
  refine sq ctNo_ok ?_
  simp only [go_sem,Nat.reduceLT,Nat.reduceAdd]
  repeat ((with_reducible refine And.intro ?_ ?_);focus (first|(with_reducible trivial)|omega|grind))
  refine rg ctNo_ok ?_
  simp only [go_sem,Nat.reduceLT,Nat.reduceAdd]
  obtain rfl:=Option.some.inj H
  refine RetE_mk [] [some 3] ?_ ?_ ?_ ?_ (by rfl) (by rfl)
  ·simp only [go_sem]
   try (and_intros<;>first|(with_reducible trivial)|omega|exact nfc|trivial)
  ·simp only [go_sem]
   try (and_intros<;>first|(with_reducible trivial)|omega|exact nfc|trivial)
  ·simp only [go_sem]
   exact (by first|(simp [Cv,CvL,getM];done)|(simp [Cv,CvL,getM,gt_some];omega))
  ·simp only [go_sem,CvH]
   exact CvB_row nr_d_u8 (by first|rfl|(simp;done)|(simp;omega)) (app_row (f:=d_u8) [] p0.Body (dS ds_u8 (lit_row (f:=s_u8) [] (fun _ _=>rfl) rfl)) (fun x y _ hy=>match y,hy with|0,_=>rfl|y+1,h=>absurd h (by omega)))
 ·cases hb
noncomputable def ct71t0:Ct:=tab [(44,edC body44)]
theorem ct71t0_ok:CtOk Try.prog ct71t0:=tab_cons ok44 <| tab_nil
theorem ct71t0_44 (l:List AV) (h:List ABlk):ct71t0 44 l h=edC body44 l h:=rfl
noncomputable def F71_L1 (p0:List TStored) (v1_1:List TStored) (v1_2:Int):Option (Lp ((List TStored) × Int) ((List TStored) ⊕ (List TStored))) :=
 bif (bLt v1_2 (p0.length:Nat)) then (need (inb v1_2 p0.length) <| (F44 (TFrame.mk (THeader.mk ((((gd p0 v1_2.toNat).Frame).Head).Kind) ((((gd p0 v1_2.toNat).Frame).Head).Sub) ((((gd p0 v1_2.toNat).Frame).Head).ToDs) ((((gd p0 v1_2.toNat).Frame).Head).FromDs) ((((gd p0 v1_2.toNat).Frame).Head).More) ((((gd p0 v1_2.toNat).Frame).Head).Retry) ((((gd p0 v1_2.toNat).Frame).Head).Sleep) ((((gd p0 v1_2.toNat).Frame).Head).MoreData) ((((gd p0 v1_2.toNat).Frame).Head).Protected) ((((gd p0 v1_2.toNat).Frame).Head).Duration) (A6u8.mk (((((gd p0 v1_2.toNat).Frame).Head).A1).x0) (((((gd p0 v1_2.toNat).Frame).Head).A1).x1) (((((gd p0 v1_2.toNat).Frame).Head).A1).x2) (((((gd p0 v1_2.toNat).Frame).Head).A1).x3) (((((gd p0 v1_2.toNat).Frame).Head).A1).x4) (((((gd p0 v1_2.toNat).Frame).Head).A1).x5)) (A6u8.mk (((((gd p0 v1_2.toNat).Frame).Head).A2).x0) (((((gd p0 v1_2.toNat).Frame).Head).A2).x1) (((((gd p0 v1_2.toNat).Frame).Head).A2).x2) (((((gd p0 v1_2.toNat).Frame).Head).A2).x3) (((((gd p0 v1_2.toNat).Frame).Head).A2).x4) (((((gd p0 v1_2.toNat).Frame).Head).A2).x5)) (A6u8.mk (((((gd p0 v1_2.toNat).Frame).Head).A3).x0) (((((gd p0 v1_2.toNat).Frame).Head).A3).x1) (((((gd p0 v1_2.toNat).Frame).Head).A3).x2) (((((gd p0 v1_2.toNat).Frame).Head).A3).x3) (((((gd p0 v1_2.toNat).Frame).Head).A3).x4) (((((gd p0 v1_2.toNat).Frame).Head).A3).x5)) (A6u8.mk (((((gd p0 v1_2.toNat).Frame).Head).A4).x0) (((((gd p0 v1_2.toNat).Frame).Head).A4).x1) (((((gd p0 v1_2.toNat).Frame).Head).A4).x2) (((((gd p0 v1_2.toNat).Frame).Head).A4).x3) (((((gd p0 v1_2.toNat).Frame).Head).A4).x4) (((((gd p0 v1_2.toNat).Frame).Head).A4).x5)) ((((gd p0 v1_2.toNat).Frame).Head).Seq) ((((gd p0 v1_2.toNat).Frame).Head).Frag) ((((gd p0 v1_2.toNat).Frame).Head).Tid) ((((gd p0 v1_2.toNat).Frame).Head).Ack) ((((gd p0 v1_2.toNat).Frame).Head).Amsdu) ((((gd p0 v1_2.toNat).Frame).Head).Eosp)) (((gd p0 v1_2.toNat).Frame).Body))).bind fun r2=>need (capb 120 (v1_1.length+1)) <| some (.next ((v1_1 ++ [(TStored.mk ((gd p0 v1_2.toNat).Cat) ((gd p0 v1_2.toNat).At) (TFrame.mk (THeader.mk r2.Head.Kind r2.Head.Sub r2.Head.ToDs r2.Head.FromDs r2.Head.More r2.Head.Retry r2.Head.Sleep r2.Head.MoreData r2.Head.Protected r2.Head.Duration (A6u8.mk r2.Head.A1.x0 r2.Head.A1.x1 r2.Head.A1.x2 r2.Head.A1.x3 r2.Head.A1.x4 r2.Head.A1.x5) (A6u8.mk r2.Head.A2.x0 r2.Head.A2.x1 r2.Head.A2.x2 r2.Head.A2.x3 r2.Head.A2.x4 r2.Head.A2.x5) (A6u8.mk r2.Head.A3.x0 r2.Head.A3.x1 r2.Head.A3.x2 r2.Head.A3.x3 r2.Head.A3.x4 r2.Head.A3.x5) (A6u8.mk r2.Head.A4.x0 r2.Head.A4.x1 r2.Head.A4.x2 r2.Head.A4.x3 r2.Head.A4.x4 r2.Head.A4.x5) r2.Head.Seq r2.Head.Frag r2.Head.Tid r2.Head.Ack r2.Head.Amsdu r2.Head.Eosp) r2.Body))]),wr .i64 (v1_2+1)))) else (some (.done (.inl v1_1)))
noncomputable def F71 (p0:List TStored):Option (List TStored) :=
 lp (loopD (fun s=>F71_L1 p0 s.1 s.2) ([],0)) (fun w1_3=>some w1_3) some
noncomputable def body71:List AV->Nat->AR
 | [v0],s=>.heap (lK k_TStored 43 v0/\(F71 (lA g_TStored v0)).isSome=true) (.sl s 43 0 ((gt (F71 (lA g_TStored v0))).length) false) [.row 73 43 ((gt (F71 (lA g_TStored v0))).length) (enR d_TStored (gt (F71 (lA g_TStored v0))))]
 | _,_=>.fail
theorem ok71:FnOk Try.prog 71 (genC body71):=by
 refine gen_fn body71 (rs:=[.tmp 2]) Try.func71 (by kernel_rfl) rfl rfl ?_
 intro l s ob v ns hb hob
 rcases hb with ⟨hb,rfl⟩|hb
 ·unfold body71 at hb
  split at hb<;>cases hb
 ·unfold body71 at hb
  split at hb
  ·rename_i v0
   injection hb with q1 q2 q3;subst q1 q2 q3
   obtain ⟨hk0_0,hob⟩:=hob
   obtain ⟨r,H⟩:=Option.isSome_iff_exists.1 hob
   rw [H,gt_some]
   have hw0:=lK_wk (fun r h=>w_TStored h) hk0_0
   generalize lA g_TStored v0=p0 at H hw0
   refine ⟨[.ro 43 p0.length false (enR c_TStored p0)],.sl 0 43 0 r.length false,[.row 73 43 r.length (enR d_TStored r)],(fun E vs F=>FR_wk1 hw0.1 F (fun vs F=>F)),by simp only [ren,rnN_0],⟨RenB_row nr_d_TStored,trivial⟩,?_⟩
   rw [Try.ntmps71]
   simp only [List.length_cons,List.length_nil,Nat.reduceAdd,Nat.reduceSub,List.replicate_succ,List.replicate_zero,List.cons_append,List.nil_append]
   unfold F71 at H
   try dsimp only at H
   refine sq ctNo_ok ?_
   simp only [go_sem]
   refine seqM ?_
   refine sq ctNo_ok ?_
   simp only [go_sem]
   repeat ((with_reducible refine And.intro ?_ ?_);focus (first|(and_intros<;>first|(with_reducible trivial)|omega|assumption|exact nfc|first|exact rfl|exact trivial|exact fitI|exact .inr rfl|exact .inl rfl|exact fun x hx=>absurd hx (by omega))|grind))
   refine blkM ?_
   refine loop_den (fun s:(List TStored) × Int=>(.top::.top::.sl 0 43 0 s.1.length false::.top::.top::.ro 43 p0.length false (enR c_TStored p0)::.int .i64 (p0.length:Nat)::.int .i64 s.2::tp 13 [])) (fun s=>[.row 73 43 s.1.length (enR d_TStored s.1)]) (fun e:List TStored=>(.top::.top::.sl 0 43 0 e.length false::tp 18 [])) (fun e=>[.row 73 43 e.length (enR d_TStored e)]) H ?_ (fun s o H hn1_1 hn2_1=>?_) (fun w1_3 H=>?_)
   ·refine SubF_of ⟨[none],?_,?_,by rfl,by rfl⟩
    ·simp [CvL,Cv,tp]
    ·exact ⟨CvB_none,trivial⟩
   ·obtain ⟨v1_1,v1_2⟩:=s
    unfold F71_L1 at H
    try dsimp only at H ⊢
    try simp only [tp]
    refine sq ctNo_ok ?_
    simp only [go_sem]
    refine seqM ?_
    refine condM' rfl trivial (fun hc=>?_) (fun hc=>?_)
    ·replace H:=cond_f hc H
     refine rg ctNo_ok ?_
     simp only [go_sem]
     refine ⟨_,(Option.some.inj H).symm,?_⟩
     refine SubF_of ⟨[some 0],?_,?_,by rfl,by rfl⟩
     ·simp [CvL,Cv,getM]
     ·exact ⟨CvB_row nr_d_TStored (by first|rfl|(simp;done)|(simp;omega)) (fun _ _ _ _=>rfl),trivial⟩
    replace H:=cond_t hc H
    refine rg ctNo_ok ?_
    simp only [go_sem]
    refine seqM ?_
    refine blkM ?_
    refine seqM ?_
    obtain ⟨f1,H⟩:=need_some.1 H
    replace f1:=inb_iff.1 f1
    refine rg ctNo_ok ?_
    simp only [go_sem,Nat.reduceLT,Nat.reduceAdd,f1]
    repeat ((with_reducible refine And.intro ?_ ?_);focus (first|(with_reducible trivial)|omega|grind))
    refine seqM ?_
    obtain ⟨r2,e3,H⟩:=bsi H
    refine rg ct71t0_ok ?_
    simp only [go_sem,Nat.reduceLT,Nat.reduceAdd,reduceCtorEq,ct71t0_44,body44,e3]
    repeat ((with_reducible refine And.intro ?_ ?_);focus (first|(and_intros<;>first|(with_reducible trivial)|omega|assumption|exact nfc|first|exact rfl|exact trivial|exact fitI|exact .inr rfl|exact .inl rfl|exact fun x hx=>absurd hx (by omega))|grind))
    refine regO ?_
    refine cutO shT_ok ctNo_ok 2 ?_
    simp only [kO_normal,List.take_succ_cons,List.take_zero,List.drop_succ_cons,List.drop_zero,go_sem,Nat.reduceLT,Nat.reduceAdd]
    repeat ((with_reducible refine And.intro ?_ ?_);focus (first|(and_intros<;>first|(with_reducible trivial)|omega|assumption|exact nfc|first|exact rfl|exact trivial|exact fitI|exact .inr rfl|exact .inl rfl|exact fun x hx=>absurd hx (by omega)|(intro x hx;(repeat (first|(and_intros<;>(first|exact rfl|exact trivial|exact fitI|exact .inr rfl|exact .inl rfl|exact fun x hx=>absurd hx (by omega)))|(exfalso;omega)|(rcases x with _|x)));done))|grind))
    refine fzO [2] ?_ ?_
    ·simp only [go_sem,Nat.reduceBEq]
     try (and_intros<;>first|(with_reducible trivial)|omega|exact nfc|trivial)
    simp only [go_sem,Nat.reduceBEq,Nat.reduceAdd]
    obtain ⟨f4,H⟩:=need_some.1 H
    replace f4:=capb_iff.1 f4
    refine cutO shT_ok ctNo_ok 3 ?_
    simp only [kO_normal,List.take_succ_cons,List.take_zero,List.drop_succ_cons,List.drop_zero,go_sem,Nat.reduceLeDiff,Nat.reduceAdd,Nat.reduceBEq,f4]
    repeat ((with_reducible refine And.intro ?_ ?_);focus (first|(and_intros<;>first|(with_reducible trivial)|omega|assumption|exact nfc|first|exact rfl|exact trivial|exact fitI|exact .inr rfl|exact .inl rfl|exact fun x hx=>absurd hx (by omega)|(intro x hx;(repeat (first|(and_intros<;>(first|exact rfl|exact trivial|exact fitI|exact .inr rfl|exact .inl rfl|exact fun x hx=>absurd hx (by omega)))|(exfalso;omega)|(rcases x with _|x)));done)|(refine Fit_app ?_ ?_<;>first|exact fitI|(intro x hx;(repeat (first|(and_intros<;>(first|exact rfl|exact trivial|exact fitI|exact .inr rfl|exact .inl rfl|exact fun x hx=>absurd hx (by omega)))|(exfalso;omega)|(rcases x with _|x)));done)|(refine Fit_app ?_ ?_<;>first|exact fitI|(intro x hx;(repeat (first|(and_intros<;>(first|exact rfl|exact trivial|exact fitI|exact .inr rfl|exact .inl rfl|exact fun x hx=>absurd hx (by omega)))|(exfalso;omega)|(rcases x with _|x)));done))))|grind))
    refine endO ?_
    refine rg ctNo_ok ?_
    simp only [go_sem]
    refine ⟨_,(Option.some.inj H).symm,?_⟩
    refine SubF_of ⟨[some 4],?_,?_,by rfl,by rfl⟩
    ·simp [CvL,Cv,getM]
    ·exact ⟨CvB_row nr_d_TStored (by first|rfl|(simp;done)|(simp;omega)) (app_row (f:=d_TStored) v1_1 [(TStored.mk ((gd p0 v1_2.toNat).Cat) ((gd p0 v1_2.toNat).At) (TFrame.mk (THeader.mk r2.Head.Kind r2.Head.Sub r2.Head.ToDs r2.Head.FromDs r2.Head.More r2.Head.Retry r2.Head.Sleep r2.Head.MoreData r2.Head.Protected r2.Head.Duration (A6u8.mk r2.Head.A1.x0 r2.Head.A1.x1 r2.Head.A1.x2 r2.Head.A1.x3 r2.Head.A1.x4 r2.Head.A1.x5) (A6u8.mk r2.Head.A2.x0 r2.Head.A2.x1 r2.Head.A2.x2 r2.Head.A2.x3 r2.Head.A2.x4 r2.Head.A2.x5) (A6u8.mk r2.Head.A3.x0 r2.Head.A3.x1 r2.Head.A3.x2 r2.Head.A3.x3 r2.Head.A3.x4 r2.Head.A3.x5) (A6u8.mk r2.Head.A4.x0 r2.Head.A4.x1 r2.Head.A4.x2 r2.Head.A4.x3 r2.Head.A4.x4 r2.Head.A4.x5) r2.Head.Seq r2.Head.Frag r2.Head.Tid r2.Head.Ack r2.Head.Amsdu r2.Head.Eosp) r2.Body))] (fun _ _ _ _=>rfl) (dS ds_TStored (lit_row (f:=s_TStored) [(TStored.mk ((gd p0 v1_2.toNat).Cat) ((gd p0 v1_2.toNat).At) (TFrame.mk (THeader.mk r2.Head.Kind r2.Head.Sub r2.Head.ToDs r2.Head.FromDs r2.Head.More r2.Head.Retry r2.Head.Sleep r2.Head.MoreData r2.Head.Protected r2.Head.Duration (A6u8.mk r2.Head.A1.x0 r2.Head.A1.x1 r2.Head.A1.x2 r2.Head.A1.x3 r2.Head.A1.x4 r2.Head.A1.x5) (A6u8.mk r2.Head.A2.x0 r2.Head.A2.x1 r2.Head.A2.x2 r2.Head.A2.x3 r2.Head.A2.x4 r2.Head.A2.x5) (A6u8.mk r2.Head.A3.x0 r2.Head.A3.x1 r2.Head.A3.x2 r2.Head.A3.x3 r2.Head.A3.x4 r2.Head.A3.x5) (A6u8.mk r2.Head.A4.x0 r2.Head.A4.x1 r2.Head.A4.x2 r2.Head.A4.x3 r2.Head.A4.x4 r2.Head.A4.x5) r2.Head.Seq r2.Head.Frag r2.Head.Tid r2.Head.Ack r2.Head.Amsdu r2.Head.Eosp) r2.Body))] (fun _ _=>rfl) rfl))),trivial⟩
   ·try dsimp only at H ⊢
    try simp only [tp]
    try simp only [m_normal]
    refine sq ctNo_ok ?_
    simp only [go_sem]
    refine rg ctNo_ok ?_
    simp only [go_sem]
    obtain rfl:=Option.some.inj H
    refine ⟨[],?_,?_,[some 0],?_,?_,by rfl⟩
    ·simp only [go_sem]
    ·simp only [go_sem]
    ·simp [fzV,inL,Cv,getM]
     all_goals first|exact (by first|rfl|(simp;done)|(simp;omega))
    ·simp only [go_sem,CvH]
     exact CvB_row nr_d_TStored (by first|rfl|(simp;done)|(simp;omega)) (fun _ _ _ _=>rfl)
  ·cases hb
noncomputable def ct71_0t0:Ct:=tab [(44,edC body44)]
theorem ct71_0t0_ok:CtOk Try.prog ct71_0t0:=tab_cons ok44 <| tab_nil
theorem ct71_0t0_44 (l:List AV) (h:List ABlk):ct71_0t0 44 l h=edC body44 l h:=rfl
noncomputable def F71_0_L1 (p0:List TStored) (v1_1:List TStored) (v1_2:Int):Option (Lp ((List TStored) × Int) ((List TStored) ⊕ (List TStored))) :=
 bif (bLt v1_2 (p0.length:Nat)) then (need (inb v1_2 p0.length) <| (F44 (TFrame.mk (THeader.mk ((((gd p0 v1_2.toNat).Frame).Head).Kind) ((((gd p0 v1_2.toNat).Frame).Head).Sub) ((((gd p0 v1_2.toNat).Frame).Head).ToDs) ((((gd p0 v1_2.toNat).Frame).Head).FromDs) ((((gd p0 v1_2.toNat).Frame).Head).More) ((((gd p0 v1_2.toNat).Frame).Head).Retry) ((((gd p0 v1_2.toNat).Frame).Head).Sleep) ((((gd p0 v1_2.toNat).Frame).Head).MoreData) ((((gd p0 v1_2.toNat).Frame).Head).Protected) ((((gd p0 v1_2.toNat).Frame).Head).Duration) (A6u8.mk (((((gd p0 v1_2.toNat).Frame).Head).A1).x0) (((((gd p0 v1_2.toNat).Frame).Head).A1).x1) (((((gd p0 v1_2.toNat).Frame).Head).A1).x2) (((((gd p0 v1_2.toNat).Frame).Head).A1).x3) (((((gd p0 v1_2.toNat).Frame).Head).A1).x4) (((((gd p0 v1_2.toNat).Frame).Head).A1).x5)) (A6u8.mk (((((gd p0 v1_2.toNat).Frame).Head).A2).x0) (((((gd p0 v1_2.toNat).Frame).Head).A2).x1) (((((gd p0 v1_2.toNat).Frame).Head).A2).x2) (((((gd p0 v1_2.toNat).Frame).Head).A2).x3) (((((gd p0 v1_2.toNat).Frame).Head).A2).x4) (((((gd p0 v1_2.toNat).Frame).Head).A2).x5)) (A6u8.mk (((((gd p0 v1_2.toNat).Frame).Head).A3).x0) (((((gd p0 v1_2.toNat).Frame).Head).A3).x1) (((((gd p0 v1_2.toNat).Frame).Head).A3).x2) (((((gd p0 v1_2.toNat).Frame).Head).A3).x3) (((((gd p0 v1_2.toNat).Frame).Head).A3).x4) (((((gd p0 v1_2.toNat).Frame).Head).A3).x5)) (A6u8.mk (((((gd p0 v1_2.toNat).Frame).Head).A4).x0) (((((gd p0 v1_2.toNat).Frame).Head).A4).x1) (((((gd p0 v1_2.toNat).Frame).Head).A4).x2) (((((gd p0 v1_2.toNat).Frame).Head).A4).x3) (((((gd p0 v1_2.toNat).Frame).Head).A4).x4) (((((gd p0 v1_2.toNat).Frame).Head).A4).x5)) ((((gd p0 v1_2.toNat).Frame).Head).Seq) ((((gd p0 v1_2.toNat).Frame).Head).Frag) ((((gd p0 v1_2.toNat).Frame).Head).Tid) ((((gd p0 v1_2.toNat).Frame).Head).Ack) ((((gd p0 v1_2.toNat).Frame).Head).Amsdu) ((((gd p0 v1_2.toNat).Frame).Head).Eosp)) (((gd p0 v1_2.toNat).Frame).Body))).bind fun r2=>need (capb 120 (v1_1.length+1)) <| some (.next ((v1_1 ++ [(TStored.mk ((gd p0 v1_2.toNat).Cat) ((gd p0 v1_2.toNat).At) (TFrame.mk (THeader.mk r2.Head.Kind r2.Head.Sub r2.Head.ToDs r2.Head.FromDs r2.Head.More r2.Head.Retry r2.Head.Sleep r2.Head.MoreData r2.Head.Protected r2.Head.Duration (A6u8.mk r2.Head.A1.x0 r2.Head.A1.x1 r2.Head.A1.x2 r2.Head.A1.x3 r2.Head.A1.x4 r2.Head.A1.x5) (A6u8.mk r2.Head.A2.x0 r2.Head.A2.x1 r2.Head.A2.x2 r2.Head.A2.x3 r2.Head.A2.x4 r2.Head.A2.x5) (A6u8.mk r2.Head.A3.x0 r2.Head.A3.x1 r2.Head.A3.x2 r2.Head.A3.x3 r2.Head.A3.x4 r2.Head.A3.x5) (A6u8.mk r2.Head.A4.x0 r2.Head.A4.x1 r2.Head.A4.x2 r2.Head.A4.x3 r2.Head.A4.x4 r2.Head.A4.x5) r2.Head.Seq r2.Head.Frag r2.Head.Tid r2.Head.Ack r2.Head.Amsdu r2.Head.Eosp) r2.Body))]),wr .i64 (v1_2+1)))) else (some (.done (.inl v1_1)))
noncomputable def F71_0 (p0:List TStored):Option (List TStored) :=
 lp (loopD (fun s=>F71_0_L1 p0 s.1 s.2) ([],0)) (fun w1_3=>some w1_3) some
noncomputable def body71_0:List AV->Nat->AR
 | [v0],_=>.pure (lK k_TStored 43 v0/\(F71_0 (lA g_TStored v0)).isSome=true) (.ro 43 ((gt (F71_0 (lA g_TStored v0))).length) false (enR d_TStored (gt (F71_0 (lA g_TStored v0)))))
 | _,_=>.fail
theorem ok71_0:FnOk Try.prog 71 (genC body71_0):=by
 refine gen_fn body71_0 (rs:=[.tmp 2]) Try.func71 (by kernel_rfl) rfl rfl ?_
 intro l s ob v ns hb hob
 rcases hb with ⟨hb,rfl⟩|hb
 ·unfold body71_0 at hb
  split at hb
  ·rename_i v0
   injection hb with q1 q2;subst q1 q2
   obtain ⟨hk0_0,hob⟩:=hob
   obtain ⟨r,H⟩:=Option.isSome_iff_exists.1 hob
   rw [H,gt_some]
   have hw0:=lK_wk (fun r h=>w_TStored h) hk0_0
   generalize lA g_TStored v0=p0 at H hw0
   refine ⟨[.ro 43 p0.length false (enR c_TStored p0)],.ro 43 r.length false (enR d_TStored r),[],(fun E vs F=>FR_wk1 hw0.1 F (fun vs F=>F)),by simp only [ren],trivial,?_⟩
   rw [Try.ntmps71]
   simp only [List.length_cons,List.length_nil,Nat.reduceAdd,Nat.reduceSub,List.replicate_succ,List.replicate_zero,List.cons_append,List.nil_append]
   unfold F71_0 at H
   try dsimp only at H
   refine sq ctNo_ok ?_
   simp only [go_sem]
   refine seqM ?_
   refine sq ctNo_ok ?_
   simp only [go_sem]
   repeat ((with_reducible refine And.intro ?_ ?_);focus (first|(and_intros<;>first|(with_reducible trivial)|omega|assumption|exact nfc|first|exact rfl|exact trivial|exact fitI|exact .inr rfl|exact .inl rfl|exact fun x hx=>absurd hx (by omega))|grind))
   refine blkM ?_
   refine loop_den (fun s:(List TStored) × Int=>(.top::.top::.sl 0 43 0 s.1.length false::.top::.top::.ro 43 p0.length false (enR c_TStored p0)::.int .i64 (p0.length:Nat)::.int .i64 s.2::tp 13 [])) (fun s=>[.row 73 43 s.1.length (enR d_TStored s.1)]) (fun e:List TStored=>(.top::.top::.sl 0 43 0 e.length false::tp 18 [])) (fun e=>[.row 73 43 e.length (enR d_TStored e)]) H ?_ (fun s o H hn1_1 hn2_1=>?_) (fun w1_3 H=>?_)
   ·refine SubF_of ⟨[none],?_,?_,by rfl,by rfl⟩
    ·simp [CvL,Cv,tp]
    ·exact ⟨CvB_none,trivial⟩
   ·obtain ⟨v1_1,v1_2⟩:=s
    unfold F71_0_L1 at H
    try dsimp only at H ⊢
    try simp only [tp]
    refine sq ctNo_ok ?_
    simp only [go_sem]
    refine seqM ?_
    refine condM' rfl trivial (fun hc=>?_) (fun hc=>?_)
    ·replace H:=cond_f hc H
     refine rg ctNo_ok ?_
     simp only [go_sem]
     refine ⟨_,(Option.some.inj H).symm,?_⟩
     refine SubF_of ⟨[some 0],?_,?_,by rfl,by rfl⟩
     ·simp [CvL,Cv,getM]
     ·exact ⟨CvB_row nr_d_TStored (by first|rfl|(simp;done)|(simp;omega)) (fun _ _ _ _=>rfl),trivial⟩
    replace H:=cond_t hc H
    refine rg ctNo_ok ?_
    simp only [go_sem]
    refine seqM ?_
    refine blkM ?_
    refine seqM ?_
    obtain ⟨f1,H⟩:=need_some.1 H
    replace f1:=inb_iff.1 f1
    refine rg ctNo_ok ?_
    simp only [go_sem,Nat.reduceLT,Nat.reduceAdd,f1]
    repeat ((with_reducible refine And.intro ?_ ?_);focus (first|(with_reducible trivial)|omega|grind))
    refine seqM ?_
    obtain ⟨r2,e3,H⟩:=bsi H
    refine rg ct71_0t0_ok ?_
    simp only [go_sem,Nat.reduceLT,Nat.reduceAdd,reduceCtorEq,ct71_0t0_44,body44,e3]
    repeat ((with_reducible refine And.intro ?_ ?_);focus (first|(and_intros<;>first|(with_reducible trivial)|omega|assumption|exact nfc|first|exact rfl|exact trivial|exact fitI|exact .inr rfl|exact .inl rfl|exact fun x hx=>absurd hx (by omega))|grind))
    refine regO ?_
    refine cutO shT_ok ctNo_ok 2 ?_
    simp only [kO_normal,List.take_succ_cons,List.take_zero,List.drop_succ_cons,List.drop_zero,go_sem,Nat.reduceLT,Nat.reduceAdd]
    repeat ((with_reducible refine And.intro ?_ ?_);focus (first|(and_intros<;>first|(with_reducible trivial)|omega|assumption|exact nfc|first|exact rfl|exact trivial|exact fitI|exact .inr rfl|exact .inl rfl|exact fun x hx=>absurd hx (by omega)|(intro x hx;(repeat (first|(and_intros<;>(first|exact rfl|exact trivial|exact fitI|exact .inr rfl|exact .inl rfl|exact fun x hx=>absurd hx (by omega)))|(exfalso;omega)|(rcases x with _|x)));done))|grind))
    refine fzO [2] ?_ ?_
    ·simp only [go_sem,Nat.reduceBEq]
     try (and_intros<;>first|(with_reducible trivial)|omega|exact nfc|trivial)
    simp only [go_sem,Nat.reduceBEq,Nat.reduceAdd]
    obtain ⟨f4,H⟩:=need_some.1 H
    replace f4:=capb_iff.1 f4
    refine cutO shT_ok ctNo_ok 3 ?_
    simp only [kO_normal,List.take_succ_cons,List.take_zero,List.drop_succ_cons,List.drop_zero,go_sem,Nat.reduceLeDiff,Nat.reduceAdd,Nat.reduceBEq,f4]
    repeat ((with_reducible refine And.intro ?_ ?_);focus (first|(and_intros<;>first|(with_reducible trivial)|omega|assumption|exact nfc|first|exact rfl|exact trivial|exact fitI|exact .inr rfl|exact .inl rfl|exact fun x hx=>absurd hx (by omega)|(intro x hx;(repeat (first|(and_intros<;>(first|exact rfl|exact trivial|exact fitI|exact .inr rfl|exact .inl rfl|exact fun x hx=>absurd hx (by omega)))|(exfalso;omega)|(rcases x with _|x)));done)|(refine Fit_app ?_ ?_<;>first|exact fitI|(intro x hx;(repeat (first|(and_intros<;>(first|exact rfl|exact trivial|exact fitI|exact .inr rfl|exact .inl rfl|exact fun x hx=>absurd hx (by omega)))|(exfalso;omega)|(rcases x with _|x)));done)|(refine Fit_app ?_ ?_<;>first|exact fitI|(intro x hx;(repeat (first|(and_intros<;>(first|exact rfl|exact trivial|exact fitI|exact .inr rfl|exact .inl rfl|exact fun x hx=>absurd hx (by omega)))|(exfalso;omega)|(rcases x with _|x)));done))))|grind))
    refine endO ?_
    refine rg ctNo_ok ?_
    simp only [go_sem]
    refine ⟨_,(Option.some.inj H).symm,?_⟩
    refine SubF_of ⟨[some 4],?_,?_,by rfl,by rfl⟩
    ·simp [CvL,Cv,getM]
    ·exact ⟨CvB_row nr_d_TStored (by first|rfl|(simp;done)|(simp;omega)) (app_row (f:=d_TStored) v1_1 [(TStored.mk ((gd p0 v1_2.toNat).Cat) ((gd p0 v1_2.toNat).At) (TFrame.mk (THeader.mk r2.Head.Kind r2.Head.Sub r2.Head.ToDs r2.Head.FromDs r2.Head.More r2.Head.Retry r2.Head.Sleep r2.Head.MoreData r2.Head.Protected r2.Head.Duration (A6u8.mk r2.Head.A1.x0 r2.Head.A1.x1 r2.Head.A1.x2 r2.Head.A1.x3 r2.Head.A1.x4 r2.Head.A1.x5) (A6u8.mk r2.Head.A2.x0 r2.Head.A2.x1 r2.Head.A2.x2 r2.Head.A2.x3 r2.Head.A2.x4 r2.Head.A2.x5) (A6u8.mk r2.Head.A3.x0 r2.Head.A3.x1 r2.Head.A3.x2 r2.Head.A3.x3 r2.Head.A3.x4 r2.Head.A3.x5) (A6u8.mk r2.Head.A4.x0 r2.Head.A4.x1 r2.Head.A4.x2 r2.Head.A4.x3 r2.Head.A4.x4 r2.Head.A4.x5) r2.Head.Seq r2.Head.Frag r2.Head.Tid r2.Head.Ack r2.Head.Amsdu r2.Head.Eosp) r2.Body))] (fun _ _ _ _=>rfl) (dS ds_TStored (lit_row (f:=s_TStored) [(TStored.mk ((gd p0 v1_2.toNat).Cat) ((gd p0 v1_2.toNat).At) (TFrame.mk (THeader.mk r2.Head.Kind r2.Head.Sub r2.Head.ToDs r2.Head.FromDs r2.Head.More r2.Head.Retry r2.Head.Sleep r2.Head.MoreData r2.Head.Protected r2.Head.Duration (A6u8.mk r2.Head.A1.x0 r2.Head.A1.x1 r2.Head.A1.x2 r2.Head.A1.x3 r2.Head.A1.x4 r2.Head.A1.x5) (A6u8.mk r2.Head.A2.x0 r2.Head.A2.x1 r2.Head.A2.x2 r2.Head.A2.x3 r2.Head.A2.x4 r2.Head.A2.x5) (A6u8.mk r2.Head.A3.x0 r2.Head.A3.x1 r2.Head.A3.x2 r2.Head.A3.x3 r2.Head.A3.x4 r2.Head.A3.x5) (A6u8.mk r2.Head.A4.x0 r2.Head.A4.x1 r2.Head.A4.x2 r2.Head.A4.x3 r2.Head.A4.x4 r2.Head.A4.x5) r2.Head.Seq r2.Head.Frag r2.Head.Tid r2.Head.Ack r2.Head.Amsdu r2.Head.Eosp) r2.Body))] (fun _ _=>rfl) rfl))),trivial⟩
   ·try dsimp only at H ⊢
    try simp only [tp]
    try simp only [m_normal]
    refine sq ctNo_ok ?_
    simp only [go_sem]
    refine rg ctNo_ok ?_
    simp only [go_sem]
    obtain rfl:=Option.some.inj H
    refine ⟨[0],?_,?_,[],?_,?_,rfl⟩
    ·simp only [go_sem]
     try (and_intros<;>first|(with_reducible trivial)|omega|exact nfc|trivial)
    ·simp only [go_sem]
     try (and_intros<;>first|(with_reducible trivial)|omega|exact nfc|trivial)
    ·simp only [go_sem]
     exact (ro_row (by first|rfl|simp) (fun _ _ _ _=>rfl))
    ·simp only [go_sem,CvH]
  ·cases hb
 ·unfold body71_0 at hb
  split at hb<;>cases hb
end Go.Proofs.Ytnclkplbeenmdaa
