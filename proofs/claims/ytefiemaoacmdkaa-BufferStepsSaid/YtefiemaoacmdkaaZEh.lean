/-
  Contracts of functions: each computes its partial function.
-/
import Derived.Test.YtefiemaoacmdkaaDU
import Derived.Test.YtefiemaoacmdkaaGU
namespace Go.Proofs.Ytefiemaoacmdkaa
open Go.Am
abbrev eF (x:TFrame):TFrame:=TFrame.mk (THeader.mk x.Head.Kind x.Head.Sub x.Head.ToDs x.Head.FromDs x.Head.More x.Head.Retry x.Head.Sleep x.Head.MoreData x.Head.Protected x.Head.Duration (A6u8.mk x.Head.A1.x0 x.Head.A1.x1 x.Head.A1.x2 x.Head.A1.x3 x.Head.A1.x4 x.Head.A1.x5) (A6u8.mk x.Head.A2.x0 x.Head.A2.x1 x.Head.A2.x2 x.Head.A2.x3 x.Head.A2.x4 x.Head.A2.x5) (A6u8.mk x.Head.A3.x0 x.Head.A3.x1 x.Head.A3.x2 x.Head.A3.x3 x.Head.A3.x4 x.Head.A3.x5) (A6u8.mk x.Head.A4.x0 x.Head.A4.x1 x.Head.A4.x2 x.Head.A4.x3 x.Head.A4.x4 x.Head.A4.x5) x.Head.Seq x.Head.Frag x.Head.Tid x.Head.Ack x.Head.Amsdu x.Head.Eosp) x.Body
attribute [go_sem] eF
abbrev hC (a:THeader) (l:List AV):List AV:=.int .u8 a.Kind::.int .u8 a.Sub::.bool a.ToDs::.bool a.FromDs::.bool a.More::.bool a.Retry::.bool a.Sleep::.bool a.MoreData::.bool a.Protected::.int .i64 a.Duration::.int .u8 a.A1.x0::.int .u8 a.A1.x1::.int .u8 a.A1.x2::.int .u8 a.A1.x3::.int .u8 a.A1.x4::.int .u8 a.A1.x5::.int .u8 a.A2.x0::.int .u8 a.A2.x1::.int .u8 a.A2.x2::.int .u8 a.A2.x3::.int .u8 a.A2.x4::.int .u8 a.A2.x5::.int .u8 a.A3.x0::.int .u8 a.A3.x1::.int .u8 a.A3.x2::.int .u8 a.A3.x3::.int .u8 a.A3.x4::.int .u8 a.A3.x5::.int .u8 a.A4.x0::.int .u8 a.A4.x1::.int .u8 a.A4.x2::.int .u8 a.A4.x3::.int .u8 a.A4.x4::.int .u8 a.A4.x5::.int .i64 a.Seq::.int .i64 a.Frag::.int .i64 a.Tid::.int .u8 a.Ack::.bool a.Amsdu::.bool a.Eosp::l
attribute [simp] hC
attribute [go_sem] hC
abbrev hZ (l:List AV):List AV:=.int .u8 0::.int .u8 0::.bool false::.bool false::.bool false::.bool false::.bool false::.bool false::.bool false::.int .i64 0::.int .u8 0::.int .u8 0::.int .u8 0::.int .u8 0::.int .u8 0::.int .u8 0::.int .u8 0::.int .u8 0::.int .u8 0::.int .u8 0::.int .u8 0::.int .u8 0::.int .u8 0::.int .u8 0::.int .u8 0::.int .u8 0::.int .u8 0::.int .u8 0::.int .u8 0::.int .u8 0::.int .u8 0::.int .u8 0::.int .u8 0::.int .u8 0::.int .i64 0::.int .i64 0::.int .i64 0::.int .u8 0::.bool false::.bool false::l
attribute [simp] hZ
attribute [go_sem] hZ
set_option linter.unusedVariables false
set_option linter.unusedSimpArgs false
theorem an0 {A:Prop} (a:A:=by first|(and_intros<;>first|(with_reducible trivial)|omega|assumption|exact nfc|first|exact rfl|exact trivial|exact uQ|exact .inr rfl|exact .inl rfl|exact fun x hx=>absurd hx (by omega))|grind):A:=a
theorem an1 {A:Prop} (a:A:=by first|(and_intros<;>first|(with_reducible trivial)|omega|assumption|exact nfc|first|exact rfl|exact trivial|exact uQ|exact .inr rfl|exact .inl rfl|exact fun x hx=>absurd hx (by omega)|(intro x hx;(repeat (first|(and_intros<;>(first|exact rfl|exact trivial|exact uQ|exact .inr rfl|exact .inl rfl|exact fun x hx=>absurd hx (by omega)))|(exfalso;omega)|(rcases x with _|x)));done)|(refine fO ?_ ?_<;>first|exact uQ|(intro x hx;(repeat (first|(and_intros<;>(first|exact rfl|exact trivial|exact uQ|exact .inr rfl|exact .inl rfl|exact fun x hx=>absurd hx (by omega)))|(exfalso;omega)|(rcases x with _|x)));done)|(refine fO ?_ ?_<;>first|exact uQ|(intro x hx;(repeat (first|(and_intros<;>(first|exact rfl|exact trivial|exact uQ|exact .inr rfl|exact .inl rfl|exact fun x hx=>absurd hx (by omega)))|(exfalso;omega)|(rcases x with _|x)));done))))|grind):A:=a
theorem an2 {A:Prop} (a:A:=by and_intros<;>first|(with_reducible trivial)|(show anB _ _ _=true;subst han;kernel_rfl)|(show (anB _ _ _ && _)=true;subst han;kernel_rfl)|omega|assumption|exact nrc|exact nfc|first|exact rfl|exact trivial|exact uQ|exact .inr rfl|exact .inl rfl|exact fun x hx=>absurd hx (by omega)|(intro x hx;(repeat (first|(and_intros<;>(first|exact rfl|exact trivial|exact uQ|exact .inr rfl|exact .inl rfl|exact fun x hx=>absurd hx (by omega)))|(exfalso;omega)|(rcases x with _|x)));done)|(refine fO ?_ ?_<;>first|exact uQ|(intro x hx;(repeat (first|(and_intros<;>(first|exact rfl|exact trivial|exact uQ|exact .inr rfl|exact .inl rfl|exact fun x hx=>absurd hx (by omega)))|(exfalso;omega)|(rcases x with _|x)));done)|(refine fO ?_ ?_<;>first|exact uQ|(intro x hx;(repeat (first|(and_intros<;>(first|exact rfl|exact trivial|exact uQ|exact .inr rfl|exact .inl rfl|exact fun x hx=>absurd hx (by omega)))|(exfalso;omega)|(rcases x with _|x)));done)))):A:=a
theorem an3 {A:Prop} (a:A:=by and_intros<;>first|(with_reducible trivial)|(show anB _ _ _=true;subst han;kernel_rfl)|(show (anB _ _ _ && _)=true;subst han;kernel_rfl)|omega|assumption|exact nrc|exact nfc|first|exact rfl|exact trivial|exact uQ|exact .inr rfl|exact .inl rfl|exact fun x hx=>absurd hx (by omega)):A:=a
theorem an4 {A:Prop} (a:A:=by first|(and_intros<;>first|(with_reducible trivial)|omega|assumption|exact nfc|first|exact rfl|exact trivial|exact uQ|exact .inr rfl|exact .inl rfl|exact fun x hx=>absurd hx (by omega)|(intro x hx;(repeat (first|(and_intros<;>(first|exact rfl|exact trivial|exact uQ|exact .inr rfl|exact .inl rfl|exact fun x hx=>absurd hx (by omega)))|(exfalso;omega)|(rcases x with _|x)));done))|grind):A:=a
theorem an5 {A:Prop} (a:A:=by first|(with_reducible trivial)|omega|grind):A:=a
theorem an6 {A:Prop} (a:A:=by and_intros<;>first|(with_reducible trivial)|(show anB _ _ _=true;subst han;kernel_rfl)|(show (anB _ _ _ && _)=true;subst han;kernel_rfl)|omega|assumption|exact nrc|exact nfc|first|exact rfl|exact trivial|exact uQ|exact .inr rfl|exact .inl rfl|exact fun x hx=>absurd hx (by omega)|(intro x hx;(repeat (first|(and_intros<;>(first|exact rfl|exact trivial|exact uQ|exact .inr rfl|exact .inl rfl|exact fun x hx=>absurd hx (by omega)))|(exfalso;omega)|(rcases x with _|x)));done)):A:=a
theorem at0 {A:Prop} (a:A:=by and_intros<;>first|(with_reducible trivial)|omega|exact nfc|trivial):A:=a
theorem cv {A:Prop} (a:A:=by simp [CvB,CvL,Cv,yN,geth,zQ]):A:=a
theorem cl {A:Prop} (a:A:=by first|rfl|(simp;done)|(simp;omega)):A:=a
theorem rbW {c:Code} {rs':List ResultVar} {v:AV} {t:List AV} {h:List ABlk} (e:up (rs v)=v) (hm:Mean Try.prog c (kY Try.prog rs' (bL (rs v) [])) (rsL t) (rsH h)):Mean Try.prog c (kY Try.prog rs' (bL v [])) t h:=by
 have:=reb hm
 rwa [e] at this
section
variable {a:AV} {l:List AV} {h:List ABlk} {b:ABlk} {e es es2 k n i j z:Nat} {nl:Bool}
theorem rL0:rsL []=[]:=rfl
theorem rL1:rsL (a::l)=rs a::rsL l:=rfl
theorem rH0:rsH []=[]:=rfl
theorem rH1:rsH (b::h)=rsB b::rsH h:=rfl
theorem rB0:rsB .dead = .dead:=rfl
theorem rBl:rsB (.lit e l) = .lit e (rsL l):=rfl
theorem dE:rs .top = .top:=rfl
theorem bH {q:IntKind} {m:Int}:rs (.int q m) = .int q m:=rfl
theorem cU {q:Bool}:rs (.bool q) = .bool q:=rfl
theorem bI:rs (.ptr e es i j) = .ptr e es i j:=rfl
theorem r_rptr {c:Nat->Nat->AV}:rs (.rptr es n i j c) = .top:=rfl
theorem r_sl:rs (.sl e es i n nl) = .sl e es i n nl:=rfl
theorem bG:rs (.agg l) = .agg (rsL l):=rfl
theorem bJ:rs (.tup l) = .tup (rsL l):=rfl
theorem r_fn:rs (.fn e l) = .fn e (rsL l):=rfl
theorem r_nilp:rs .nilp = .nilp:=rfl
theorem r_opt:rs (.opt nl a) = .opt nl (rs a):=rfl
theorem r_z:rs (.ro 0 0 nl (fun _ _=>.top)) = .ro 0 0 nl (fun _ _=>.top):=rfl
theorem u_int {q:IntKind} {m:Int}:up (.int q m) = .int q m:=rfl
theorem u_bool {q:Bool}:up (.bool q) = .bool q:=rfl
theorem u_agg:up (.agg l) = .agg (upL l):=rfl
theorem u_tup:up (.tup l) = .tup (upL l):=rfl
theorem uL0:upL []=[]:=rfl
theorem uL1:upL (a::l)=up a::upL l:=rfl
theorem rtp:rsL (tp n l)=tp n (rsL l):=by
 induction n with
 | zero=>rfl
 | succ n ih=>simp only [tp,rL1,dE,ih]
theorem rBn {α:Type} [Inhabited α] {c d:α->List AV} {z:Nat} (hl:∀ a,(c a).length=z) (h:∀ a,rsL (d a)=c a ++ [.emp]) (L:List α):rsB (.row e z n (enR d L)) = .row e z n (enR c L):=by
 have g:∀ x y,rs (enR d L x y)=zL (c (gd L x) ++ [.emp]) y:=fun x y=>by
  rw [← h];simp only [enR]
  generalize d (gd L x)=l
  induction l generalizing y with
  | nil=>rfl
  | cons a l ih=>cases y with
   | zero=>rfl
   | succ y=>exact ih y
 simp only [rsB]
 congr 1
 funext x y
 rcases Nat.lt_trichotomy y z with q|rfl|q
 ·rw [show (y == z)=false from by simp;omega,cond_false,g,qN (by rw [hl];exact q)];rfl
 ·rw [beq_self_eq_true,cond_true];simp only [enR];rw [hY (by rw [hl];exact Nat.le_refl _)]
 ·rw [show (y == z)=false from by simp;omega,cond_false,g,hY (by simp [hl];omega)];simp only [enR];rw [hY (by rw [hl];omega)]
theorem rBs {L:List TSleeper}:rsB (.row e 3 n (enR zT L)) = .row e 3 n (enR zC L):=rBn bZ rd_TSleeper L
theorem rBq {L:List TStored}:rsB (.row e 43 n (enR zJ L)) = .row e 43 n (enR zD L):=rBn gQ rd_TStored L
theorem rBf {L:List TFrame}:rsB (.row e 41 n (enR yD L)) = .row e 41 n (enR zI L):=rBn kU rd_TFrame L
theorem rBu {L:List Int}:rsB (.row e 1 n (enR qD L)) = .row e 1 n (enR xA L):=rBn cl_u8 rd_u8 L
theorem rBo {L:List TSleeper} (hi:j < 3):rsB (.row e 3 n (upc (enR zT L) i j [.sl k es2 0 z nl])) = .row e 3 n (upc (enR zC L) i j [.sl k es2 0 z nl]):=by
 have q:=rBs (e:=e) (n:=n) (L:=L)
 simp only [rsB,ABlk.row.injEq,true_and] at q ⊢
 funext x y
 have q:=congrFun (congrFun q x) y
 rw [wH,wH]
 by_cases w:x=i/\y=j
 ·rw [if_pos w,if_pos w,show (y == 3)=false from by simp;omega];rfl
 ·rw [if_neg w,if_neg w];exact q
theorem rBo2 {L:List TSleeper}:rsB (.row e 3 n (upc (enR zT L) i 2 [.sl k es2 0 z nl])) = .row e 3 n (upc (enR zC L) i 2 [.sl k es2 0 z nl]):=rBo (by decide)
end
theorem rb {c:Code} {rs':List ResultVar} {v:AV} {t:List AV} {h:List ABlk} (hm:Mean Try.prog c (kY Try.prog rs' (bL (rs v) [])) (rsL t) (rsH h)) (e:up (rs v)=v:=by simp only [rL0,rL1,rH0,rH1,rB0,rBl,dE,bH,cU,bI,r_rptr,r_sl,bG,bJ,r_fn,r_nilp,r_opt,r_z,rtp,rBs,rBq,rBf,rBu,rBo2,rs_r_u8,vJ,xP,xW,rs_a_u8,fZ,wQ,wE,u_int,u_bool,u_agg,u_tup,uL0,uL1,up_r_u8,eC,up_r_TStored,up_r_TSleeper]):Mean Try.prog c (kY Try.prog rs' (bL v [])) t h:=rbW e hm
attribute [go_sem] w_skip w_label w_goto w_scope k_goto b_goto l_goto s_normal s_exit s_ret s_goto w_region w_draw w_seq w_cond w_block w_exit w_ret w_loop k_normal k_exit k_ret b_normal b_exit b_ret l_normal l_exit l_ret wJ m_exit m_ret m_goto kL_normal kL_exit kL_ret kJ_normal kJ_exit kJ_ret kJR_normal kJR_ret kS_normal kS_exit kS_ret kS_goto r_normal r_ret o_nil o_cons q_nil q_cons nxt gval gvd gvl gvw dstOf evO vS ogC og ogL ogP ogO rho rhoO strip optOk zL kG wW absC absV absL pO hO jT ldB geth seth evStore stRes stB evBox evAlloc uZ cH wA eK binI binB binNR binU nilR_isEmpty nilR_t nilR_0 nilR_s evInt evStr evUn evConv cvO evPick mrg evExtract evNil evCall kE eU evLen2 vcells vcOk atom tabF cnd cV resFin resL resA resC resCons fT gU eP jU fillA cJ putL getP nxtQ pureC_eq pureR genC_eq genR roV roL wU jN roW roWL roWOb roWObL nref zX binA binN bM eqRes jZ evIndex2 evIndexS evSlice evSlice2 eX yO evConv2 cvS uK eJ qO evMake qY repL evFn evMin evMax freshC freshR dP jE gV qF tM lenS cutS Bool.or_false Bool.false_or Bool.or_true Bool.true_or Bool.and_false Bool.false_and Option.map_some Option.map_none Option.getD_some Option.getD_none Option.bind_some Option.bind_none Option.or_some Option.or_none Option.none_or Option.isSome_none Option.isNone_none Option.isNone_some aN aC List.append_nil cond_true cond_false lCl lNl beq_self_eq_true Bool.and_true Bool.true_and Bool.not_true Bool.not_false true_and and_true and_self true_implies implies_true ne_eq not_false_eq_true Bool.false_eq_true Bool.true_eq_false false_implies Nat.lt_irrefl Nat.le_refl Nat.succ_ne_self imp_self Bool.cond_false_right Bool.cond_true_left decide_true decide_false Bool.not_eq_true' Bool.not_eq_false' Bool.not_not Nat.zero_mul Nat.zero_add Nat.add_zero Nat.mul_one Nat.one_mul Bool.cond_self tsz3 tagg3 tint3 tnoint3 tany3 tintk3 tsz4 tagg4 tbool4 tsz5 tby5 tagg5 tzero5 tzn5 tany5 tstr9 tsz22 tagg22 tslice22 tarr22 tstr22 tnoint22 tintk22 tsz23 tagg23 tslice23 tarr23 tstr23 tnoint23 tintk23 tsz25 tagg25 tarr25 tzero25 tplaces25 tfld25_0 tfld25_1 tfld25_2 tfld25_3 tsz30 tagg30 tfld30_7 tsz31 tagg31 tslice31 tarr31 tstr31 tnoint31 tintk31 tbytes31 tsz33 tby33 tagg33 tarr33 tzero33 tzn33 tplaces33 tfld33_0 tfld33_1 tsz52 tagg52 tslice52 tarr52 tzero52 tstr52 tnoint52 tintk52 tsz57 tby57 tagg57 tarr57 tzero57 tzn57 tplaces57 tfld57_0 tfld57_1 tfld57_2 tsz61 tby61 tagg61 tarr61 tzero61 tzn61 tplaces61 tfld61_0 tfld61_1 tfld61_2 tsz70 tagg70 tfld70_0 tfld70_1 tfld70_2 tfld70_3 tfld70_4 tint124 tany124 e_u8_0 fit_u8 de_u8 g_u8 k_u8 e_i64_0 g_i64 k_i64 eta_A6u8 eta_THeader e_TFrame_0 e_TFrame_1 e_TFrame_2 e_TFrame_3 e_TFrame_4 e_TFrame_5 e_TFrame_6 e_TFrame_7 e_TFrame_8 e_TFrame_9 e_TFrame_10 e_TFrame_11 e_TFrame_12 e_TFrame_13 e_TFrame_14 e_TFrame_15 e_TFrame_16 e_TFrame_17 e_TFrame_18 e_TFrame_19 e_TFrame_20 e_TFrame_21 e_TFrame_22 e_TFrame_23 e_TFrame_24 e_TFrame_25 e_TFrame_26 e_TFrame_27 e_TFrame_28 e_TFrame_29 e_TFrame_30 e_TFrame_31 e_TFrame_32 e_TFrame_33 e_TFrame_34 e_TFrame_35 e_TFrame_36 e_TFrame_37 e_TFrame_38 e_TFrame_39 e_TFrame_40 fit_TFrame de_TFrame yF wI eta_TFrame e_TStored_0 e_TStored_1 e_TStored_2 e_TStored_3 e_TStored_4 e_TStored_5 e_TStored_6 e_TStored_7 e_TStored_8 e_TStored_9 e_TStored_10 e_TStored_11 e_TStored_12 e_TStored_13 e_TStored_14 e_TStored_15 e_TStored_16 e_TStored_17 e_TStored_18 e_TStored_19 e_TStored_20 e_TStored_21 e_TStored_22 e_TStored_23 e_TStored_24 e_TStored_25 e_TStored_26 e_TStored_27 e_TStored_28 e_TStored_29 e_TStored_30 e_TStored_31 e_TStored_32 e_TStored_33 e_TStored_34 e_TStored_35 e_TStored_36 e_TStored_37 e_TStored_38 e_TStored_39 e_TStored_40 e_TStored_41 e_TStored_42 fit_TStored de_TStored xC wB eta_TStored e_TSleeper_0 e_TSleeper_1 e_TSleeper_2 fit_TSleeper de_TSleeper yS xU eta_TSleeper zY uA eta_TBuffer cK fV eta_TStep Nat.sub_zero ctNo_at deR_0 deR_1 deR_2 deR_3 deR_4 deR_5 deR_6 deR_7 deR_8 deR_9 deR_10 deR_11 deR_12 litC_x0 litC_x1 litC_x2 litC_x3 litC_x4 litC_x5 litC_x6 litC_x7 litC_x8 litC_x9 litC_x10 litC_x11 strE_u8 Fit_0 Option.isSome_some gt_some gd_one evCopyL tabR sub_enR dZ xrD xoD qT uC rK rG aL aK iK bK sK lK iA bA sA lA or_true true_or Int.toNat_natCast shT_28 shT_30 Int.toNat_zero Int.cast_ofNat_Int xY fC kLP_exit pcC_lt yA aLs roD roDOb uY edC edR fG rnm rnmL rnmB rnmC_en rnmC_upc rnmH rnm_bif rnmB_bif putH gS bO ptB slN litL celL pK isLit oS isRow inL fzV fzL yL vO fzH fzHF fzB bC uT vR
attribute [go_sem] frC obR fzL fzV fzH fzHF fzB yL vO uT bC vR vC refs inL yA
theorem bsj {α β:Type} {x:α} {f:α->Option β} {r:β} (h:(some x).bind f=some r):∃ w,x=w/\f w=some r:=⟨x,rfl,h⟩
theorem nI {α:Type} {q:Int} {n:Nat} {k:Option α} {r:α} (h:need (inb q n) k=some r):(0 <= q/\q < n/\q.toNat < n)/\k=some r:=⟨xD.1 (zN.1 h).1,(zN.1 h).2⟩
theorem nC {α:Type} {b n:Nat} {k:Option α} {r:α} (h:need (capb b n) k=some r):((n:Int) * b <= 140737488355328/\n <= 140737488355328)/\k=some r:=⟨capb_iff.1 (zN.1 h).1,(zN.1 h).2⟩
theorem nS {α:Type} {p q:Int} {n:Nat} {k:Option α} {r:α} (h:need (slb p q n) k=some r):(0 <= p/\p <= q/\q <= n)/\k=some r:=⟨slb_iff.1 (zN.1 h).1,(zN.1 h).2⟩
theorem nM {α:Type} {b:Nat} {p q:Int} {k:Option α} {r:α} (h:need (mkb b p q) k=some r):(0 <= p/\p <= q/\(b:Int) * q <= 140737488355328/\q <= 140737488355328)/\k=some r:=⟨mkb_iff.1 (zN.1 h).1,(zN.1 h).2⟩
theorem nD {α:Type} {p q:Int} {n:Nat} {k:Option α} {r:α} (h:need (delb p q n) k=some r):(0 <= p/\p < q/\q <= n)/\k=some r:=⟨delb_iff.1 (zN.1 h).1,(zN.1 h).2⟩
theorem nJ {α:Type} {p:Int} {n:Nat} {k:Option α} {r:α} (h:need (insb p n) k=some r):(0 <= p/\p <= n/\n+1 <= 1000000)/\k=some r:=⟨insb_iff.1 (zN.1 h).1,(zN.1 h).2⟩
theorem nG {α:Type} {c b:Bool} {k:Option α} {r:α} (h:need (bif c then b else true) k=some r):(c=true->b=true)/\k=some r:=⟨g_iff.1 (zN.1 h).1,(zN.1 h).2⟩
theorem nB {α:Type} {b:Bool} {k:Option α} {r:α} (h:need b k=some r):b=true/\k=some r:= zN.1 h
theorem cTt {α:Type} {c:Bool} {A B:Option α} {x:α} (H:(bif c then A else B)=some x) (h:c=true):A=some x:=xH h H
theorem cTf {α:Type} {c:Bool} {A B:Option α} {x:α} (H:(bif c then A else B)=some x) (h:c=false):B=some x:=yM h H
theorem tabH {k:FuncId} {c:List AV->List ABlk->AR} {m:List (FuncId × (List AV->List ABlk->AR))} {j:FuncId} {l:List AV} {h:List ABlk}:tab ((k,c)::m) j l h=bif j == k then c l h else tab m j l h:=by
 show (bif k == j then c l h else tab m j l h)=_;rw [show (k == j)=(j == k) from Bool.eq_iff_iff.2 (by simp only [beq_iff_eq];exact eq_comm)]
theorem tabN {j:FuncId} {l:List AV} {h:List ABlk}:tab [] j l h = .fail:=rfl
attribute [go_sem] tabH tabN cond_true cond_false
section
variable {ct:Ct} {K:Kt} {t:List AV} {h:List ABlk} {k:Nat} {ops:Array Oper} {b:Code}
theorem sqR (C:wO Try.prog ct) (hw:wpC Try.prog shT ct (.region k ops false) (kM Try.prog b K) t h):Mean Try.prog (.seq (.region k ops false) b) K t h:=sq C hw
theorem rgR (C:wO Try.prog ct) (hw:wpC Try.prog shT ct (.region k ops false) K t h):Mean Try.prog (.region k ops false) K t h:=rg C hw
theorem rgK (hw:wpC Try.prog shT ctNo .skip K t h):Mean Try.prog .skip K t h:=rg zA hw
theorem rgE {i:Nat} (hw:wpC Try.prog shT ctNo (.exit i) K t h):Mean Try.prog (.exit i) K t h:=rg zA hw
theorem rgT (hw:wpC Try.prog shT ctNo .ret K t h):Mean Try.prog .ret K t h:=rg zA hw
theorem CvB_rowI {α:Type} [Inhabited α] {f:α->List AV} [i:NRf f] {μ:Mu} {e es n k:Nat} {m:Nat} {L:List α} {c:Nat->Nat->AV} (hk:L.length=k) (hn:k=n) (h:∀ x y,x < L.length->y < es->enR f L x y=c x y) :
  CvB μ (.row e es k (enR f L)) (some m) (.row e es n c):=by
 subst hk;exact zW i.h hn h
theorem CvB_uK {μ:Mu} {e es N N' m i j j':Nat} {C:Nat->Nat->AV} {vs vs':List AV} (hN:N=N') (hC:∀ x y,nref (C x y)) (h3:∀ y,y < es->Cv μ (upc C i j vs i y) (upc C i j' vs' i y)):CvB μ (.row e es N (upc C i j vs)) (some m) (.row e es N' (upc C i j' vs')):=tX hN hC (fun _ _ hx=>yP hx) (fun _ _ hx=>yP hx) h3
theorem Cv_r0 {μ:Mu} {es es':Nat} {nl:Bool} {c c':Nat->Nat->AV}:Cv μ (.ro es 0 false c) (.ro es' 0 nl c'):=by
 simp only [Cv]
 exact ⟨.inl trivial,trivial,(fun h=>by cases h),.inl trivial,fun x y hx=>by omega⟩
theorem ro_rI {α:Type} [Inhabited α] {f:α->List AV} {μ:Mu} {es n k:Nat} {nl:Bool} {L:List α} {c:Nat->Nat->AV} (hk:L.length=k) (hn:k=n) (hu:(∀ q,zL (f q) es = .top) ∨ Fl es c) (h:∀ x y,x < L.length->y < es->enR f L x y=c x y):Cv μ (.ro es k false (enR f L)) (.ro es n nl c):=by
 subst hk;exact vT hn h hu
theorem sW {n:Nat} {t2:List AV} {h2:List ABlk} (a:qR n t h t2 h2):qR n t h t2 h2:=a
class LT {S A R:Type} (step:S->Option (Lp S (A ⊕ R))) where
 T:List AV->List ABlk->S->List AV
 M:List AV->List ABlk->S->List ABlk
 TB:List AV->List ABlk->A->List AV
 MB:List AV->List ABlk->A->List ABlk
 U:S->Option (Lp S (A ⊕ R))
 u:∀ s,step s=U s
theorem loopI {S A R X:Type} {id:Nat} {c:Code} {step:S->Option (Lp S (A ⊕ R))} {s0:S} {k:A->Option X} {j:R->Option X} {x:X} [i:LT step]
  (hd:lp (loopD step s0) k j=some x) (init:qR h.length t h (i.T t h s0) (i.M t h s0))
  (round:∀ s o,i.U s=some o->(∀ e,o = .done (.inl e)->k e=some x)->(∀ r,o = .done (.inr r)->j r=some x)->Mean Try.prog c (kL Try.prog id h.length o (i.T t h) (i.M t h) (i.TB t h) (i.MB t h) K) (i.T t h s) (i.M t h s))
  (hrest:∀ e,k e=some x->K .normal (i.TB t h e) (i.MB t h e)):Mean Try.prog (.loop c) (eO id K) t h :=
 wX (i.T t h) (i.M t h) (i.TB t h) (i.MB t h) hd init (fun s o e=>round s o (by rw [← i.u];exact e)) hrest
theorem hnx {S A R X:Type} {o:Lp S (A ⊕ R)} {r:R} {j:R->Option X} {x:X} (q : .done (.inr r)=o) (hn:∀ r,o = .done (.inr r)->j r=some x):j r=some x:=hn r q.symm
def inK:Oper->Bool
 | ⟨_,.call ⟨.value (.func k),_,_⟩,_,_,_,_⟩=>k == 51 || k == 54 || k == 55 || k == 64 || k == 89
 | _=>false
def cI:List Oper->Nat
 | []=>0
 | o::l=>bif inK o then 0 else cI l+1
class FI (k:FuncId) where
 fn:Func
 code:Code
 rs:List ResultVar
 n:Nat
 hf:Try.prog.funcs[k]? = some fn
 hn:(fn.name == "runtime.NumGoroutine")=false
 hb:fn.body=some code
 hr:fn.results.toList=rs
 ht:fn.ntmps=n
theorem regI (e:ops.toList.any inK=true) (hm:tU Try.prog ops ops.toList K t h):Mean Try.prog (.region k ops false) K t h:=jB hm
theorem sqI (e:ops.toList.any inK=true) (hm:tU Try.prog ops ops.toList (kM Try.prog b K) t h):Mean Try.prog (.seq (.region k ops false) b) K t h:=zZ (jB hm)
theorem cutI (C:wO Try.prog ct) {m:Nat} {l:List Oper} (e:cI l=m) (hw:wpO Try.prog shT ct ops.toList (kO Try.prog ops (l.drop m) K) (l.take m) t h):tU Try.prog ops l K t h:=xS zO C m hw
theorem inlI {k:FuncId} [i:FI k] {dst:Option Nat} {ty:TypeId} {pos:String} {after:Array Edge} {f:Operand} {args:Array Operand} {argTypes:Array TypeId} {l:List Oper} {caps tc:List AV}
  (hfn:rho t f = .fn k caps) (hog:og t f/\ogL t args.toList) (htc:kE t args.toList ++ caps=tc)
  (hm:Mean Try.prog i.code (kY Try.prog i.rs fun v h'=>tU Try.prog ops l K (wW t dst v) h') (tc ++ List.replicate (i.n - tc.length) .top) h):tU Try.prog ops (⟨dst,.call ⟨.value f,args,argTypes⟩,ty,pos,after,none⟩::l) K t h :=
 cM i.hf i.hn i.hb i.hr i.ht hfn hog htc hm
theorem exN {S B:Type} {o:Lp S B} {s:S} {Q:S->Prop} (H:some (.next s)=some o) (q:Q s):∃ s',o = .next s'/\Q s':=⟨s,(Option.some.inj H).symm,q⟩
theorem exD {S A R:Type} {o:Lp S (A ⊕ R)} {s:A} {Q:A->Prop} (H:some (.done (.inl s))=some o) (q:Q s):∃ s',o = .done (.inl s')/\Q s':=⟨s,(Option.some.inj H).symm,q⟩
end
mutual
def pV:AV->AV->List (Nat × Nat)
 | .ptr b _ _ _,.ptr c _ _ _=>[(b,c)]
 | .sl b _ _ _ _,.sl c _ _ _ _=>[(b,c)]
 | .isl b _ _ _ _ _,.isl c _ _ _ _ _=>[(b,c)]
 | .agg l,.agg m=>pL l m
 | .tup l,.tup m=>pL l m
 | .fn _ l,.fn _ m=>pL l m
 | _,_=>[]
def pL:List AV->List AV->List (Nat × Nat)
 | a::l,b::m=>pV a b ++ pL l m
 | _,_=>[]
end
def pB:ABlk->ABlk->List (Nat × Nat)
 | .lit _ l,.lit _ m=>pL l m
 | _,_=>[]
def lk:List (Nat × Nat)->Nat->Option Nat
 | [],_=>none
 | (a,b)::l,x=>if a=x then some b else lk l x
def pS (h2 h:List ABlk):List (Nat × Nat)->List (Nat × Nat)
 | []=>[]
 | (b,c)::l=>pB (geth h2 b) (geth h c) ++ pS h2 h l
def mT:List ABlk->Nat->Nat->List (Nat × Nat)->Mu
 | [],_,_,_=>[]
 | _::l,i,n,P=>(if i < n then some i else lk P i)::mT l (i+1) n P
def inf (n:Nat) (t:List AV) (h:List ABlk) (t2:List AV) (h2:List ABlk):Mu :=
 (fun P=>(fun P2=>mT h2 0 n (P2 ++ pS h2 h P2)) (P ++ pS h2 h P)) (pL t2 t)
theorem SI {n:Nat} {t:List AV} {h:List ABlk} {t2:List AV} {h2:List ABlk} {m:Mu} (e:inf n t h t2 h2=m) (a:CvL m t2 t) (b:CvH m h h2 m) (c:injM (kK m h2)=true) (d:idM 0 n m=true):qR n t h t2 h2:=yH ⟨m,a,b,c,d⟩
theorem sI {A:Prop} (a:A:=by
 refine SI (by simp only [inf,pL,pV,pS,pB,mT,lk,tp,List.append_eq,aN,aC,List.append_nil,geth,lCl,lNl,Nat.reduceAdd,Nat.reduceLT,Nat.reduceEqDiff,ite_true,ite_false,reduceCtorEq,if_true,if_false,go_sem];rfl) (by simp [CvL,Cv,zQ,tp]) ?_ (by rfl) (by rfl)
 repeat (first|exact trivial|refine ⟨by first|exact zH|exact yI nfA|((refine CvB_rowI ?_ ?_ ?_);(focus rfl);(focus (first|rfl|(simp;done)|(simp;omega)|fail));(focus (repeat (first|(exact fun _ _ _ _=>rfl)|refine vQ _ _ ?_ ?_|exact xR _ (fun _ _=>rfl) rfl|exact dS kV (xR (f:=vL) _ (fun _ _=>rfl) rfl)|exact (fun x y _ hy=>match y,hy with|0,_=>rfl|y+1,h=>absurd h (by omega))|refine cY _ _ _ _ ?_ (by intro y hy;repeat (first|(exfalso;omega)|(rcases y with _|y;focus rfl)))|refine bW (by simp) _ _ ?_ ?_ rfl|fail))))|exact qU|exact CvB_focI NRf.h (by first|rfl|(simp [zQ];done)) (by first|rfl|(simp;done)) (by first|rfl|(simp;done))|((refine CvB_uK ?_ ?_ ?_);(focus (first|rfl|(simp;done)));(focus (first|exact nfA|exact yC NRf.h));(focus (intro y hy;repeat (first|(exfalso;omega)|(rcases y with _|y;focus (first|(simp [yA,zL,Cv,zQ,enR,zC];done)|(simp only [wH,true_and,and_true,and_false,if_true,if_false,Nat.reduceEqDiff,reduceCtorEq];first|exact yJ _ (yC NRf.h _ _)|(simp [Cv,zQ];done)|(simp [Cv,zQ];omega))))))))|exact CvB_pcs NRf.h|(simp [CvB,CvL,Cv,yN,geth,zQ];done)|fail,?_⟩)):A:=a
mutual
def rV:AV->List Nat
 | .ptr b _ _ _=>[b]
 | .sl b _ _ _ _=>[b]
 | .isl b _ _ _ _ _=>[b]
 | .agg l=>rL l
 | .tup l=>rL l
 | _=>[]
def rL:List AV->List Nat
 | []=>[]
 | a::l=>rV a ++ rL l
end
theorem gE {v v':AV} {hf:List ABlk} (a:yL hf (rV v') v') (b:uT hf (rV v') hf) (c:Cv [] v (fzV hf (rV v') v')):bL v [] v' hf:=⟨rV v',a,b,[],c,by cases hf<;>trivial,rfl⟩
theorem gH {v v':AV} {ns hf:List ABlk} {m:Mu} (e:mT ns 0 0 (pV v v' ++ pS ns hf (pV v v'))=m) (a:Cv m v v') (b:CvH m hf ns m) (c:injM (kK m ns)=true):bL v ns v' hf:=⟨[],(fU hf v').2,(gW hf hf 0).2,m,by rw [(fU hf v').1];exact a,by rw [show fzH hf []=hf from (gW hf hf 0).1];exact b,c⟩
theorem gY {A:Prop} (a:A:=by
 refine gH (by simp only [pL,pV,pS,pB,mT,lk,List.append_eq,aN,aC,List.append_nil,geth,Nat.reduceAdd,Nat.reduceLT,Nat.reduceEqDiff,ite_true,ite_false,reduceCtorEq,if_true,if_false,Nat.not_lt_zero,go_sem];rfl) (by simp [CvL,Cv,zQ]) ?_ (by rfl)
 repeat (first|exact trivial|refine ⟨by first|exact zH|exact yI nfA|((refine CvB_rowI ?_ ?_ ?_);(focus rfl);(focus (first|rfl|(simp;done)|(simp;omega)|fail));(focus (repeat (first|(exact fun _ _ _ _=>rfl)|refine vQ _ _ ?_ ?_|exact xR _ (fun _ _=>rfl) rfl|exact dS kV (xR (f:=vL) _ (fun _ _=>rfl) rfl)|exact (fun x y _ hy=>match y,hy with|0,_=>rfl|y+1,h=>absurd h (by omega))|refine cY _ _ _ _ ?_ (by intro y hy;repeat (first|(exfalso;omega)|(rcases y with _|y;focus rfl)))|refine bW (by simp) _ _ ?_ ?_ rfl|fail))))|exact qU|exact CvB_focI NRf.h (by first|rfl|(simp [zQ];done)) (by first|rfl|(simp;done)) (by first|rfl|(simp;done))|((refine CvB_uK ?_ ?_ ?_);(focus (first|rfl|(simp;done)));(focus (first|exact nfA|exact yC NRf.h));(focus (intro y hy;repeat (first|(exfalso;omega)|(rcases y with _|y;focus (first|(simp [yA,zL,Cv,zQ,enR,zC];done)|(simp only [wH,true_and,and_true,and_false,if_true,if_false,Nat.reduceEqDiff,reduceCtorEq];first|exact yJ _ (yC NRf.h _ _)|(simp [Cv,zQ];done)|(simp [Cv,zQ];omega))))))))|exact CvB_pcs NRf.h|(simp [CvB,CvL,Cv,yN,geth,zQ];done)|fail,?_⟩)):A:=a
theorem gR {n:Nat} {v0 v':AV} {g0 hf:List ABlk} {m:Mu} (e:mT g0 0 n (pV v0 v' ++ pS g0 hf (pV v0 v'))=m) (a:Cv m v0 v') (b:CvH m hf g0 m) (c:injM (kK m g0)=true) (d:idM 0 n m=true):RetE n v0 g0 v' hf:=⟨[],(fU hf v').2,(gW hf hf 0).2,m,by rw [(fU hf v').1];exact a,by rw [show fzH hf []=hf from (gW hf hf 0).1];exact b,c,d⟩
theorem gX {A:Prop} (a:A:=by
 refine gR (by simp only [pL,pV,pS,pB,mT,lk,List.append_eq,aN,aC,List.append_nil,geth,Nat.reduceAdd,Nat.reduceLT,Nat.reduceEqDiff,ite_true,ite_false,reduceCtorEq,if_true,if_false,Nat.not_lt_zero,go_sem];rfl) (by first|(simp [CvL,Cv,zQ,gt_some];done)|(simp [CvL,Cv,zQ,gt_some];omega)) ?_ (by rfl) (by rfl)
 repeat (first|exact trivial|refine ⟨by first|exact zH|exact yI nfA|((refine CvB_rowI ?_ ?_ ?_);(focus rfl);(focus (first|rfl|(simp;done)|(simp;omega)|fail));(focus (repeat (first|(exact fun _ _ _ _=>rfl)|refine vQ _ _ ?_ ?_|exact xR _ (fun _ _=>rfl) rfl|exact dS kV (xR (f:=vL) _ (fun _ _=>rfl) rfl)|exact (fun x y _ hy=>match y,hy with|0,_=>rfl|y+1,h=>absurd h (by omega))|refine cY _ _ _ _ ?_ (by intro y hy;repeat (first|(exfalso;omega)|(rcases y with _|y;focus rfl)))|refine bW (by simp) _ _ ?_ ?_ rfl|fail))))|exact qU|exact CvB_focI NRf.h (by first|rfl|(simp [zQ];done)) (by first|rfl|(simp;done)) (by first|rfl|(simp;done))|((refine CvB_uK ?_ ?_ ?_);(focus (first|rfl|(simp;done)));(focus (first|exact nfA|exact yC NRf.h));(focus (intro y hy;repeat (first|(exfalso;omega)|(rcases y with _|y;focus (first|(simp [yA,zL,Cv,zQ,enR,zC];done)|(simp only [wH,true_and,and_true,and_false,if_true,if_false,Nat.reduceEqDiff,reduceCtorEq];first|exact yJ _ (yC NRf.h _ _)|(simp [Cv,zQ];done)|(simp [Cv,zQ];omega))))))))|exact CvB_pcs NRf.h|(simp [CvB,CvL,Cv,yN,geth,zQ];done)|fail,?_⟩)):A:=a
theorem eV {n:Nat} {v0 v':AV} {g0 hf:List ABlk} (a:RetE n v0 g0 v' hf):RetE n v0 g0 v' hf:=a
theorem wM {c:Code} {K:Kt} {t:List AV} {h:List ABlk} (a:Mean Try.prog c K t h):Mean Try.prog c K t h:=a
theorem wS {α:Type} {x:Option α} (a:x.isSome=true):x.isSome=true:=a
theorem wD {A B:Prop} (a:A/\B):A/\B:=a
theorem rW {v v':AV} {ns hf:List ABlk} (a:bL v ns v' hf):bL v ns v' hf:=a
theorem eW {v v':AV} (a:v=v'):v=v':=a
theorem gZ {A:Prop} (a:A:=by refine gE (by simp only [go_sem,rV,rL,List.append_eq,aC,aN,List.append_nil,Nat.reduceEqDiff,Nat.reduceBEq,Nat.reduceAdd];try (and_intros<;>first|(with_reducible trivial)|omega|exact nfc|trivial)) (by simp only [go_sem,rV,rL,List.append_eq,aC,aN,List.append_nil,Nat.reduceEqDiff,Nat.reduceBEq,Nat.reduceAdd];try (and_intros<;>first|(with_reducible trivial)|omega|exact nfc|trivial)) (by simp only [go_sem,rV,rL,List.append_eq,aC,aN,List.append_nil,Nat.reduceEqDiff,Nat.reduceBEq,Nat.reduceAdd];(repeat (first|with_reducible exact xO|with_reducible exact xF|with_reducible exact Cv_bool|with_reducible exact yV (α:=TFrame)|with_reducible refine qC ?_|with_reducible refine qB ?_|with_reducible refine zM ?_ ?_|exact Cv_nf (by simp only [nref])|with_reducible exact Cv_r0|((refine ro_rI ?_ ?_ ?_ ?_);(focus rfl);(focus (first|rfl|(simp;done)|fail));(focus (first|exact .inl (fun q=>rfl)|exact .inr ⟨0,rfl⟩));(focus (repeat (first|(exact fun _ _ _ _=>rfl)|refine vQ _ _ ?_ ?_|exact xR _ (fun _ _=>rfl) rfl|exact dS kV (xR (f:=vL) _ (fun _ _=>rfl) rfl)|exact (fun x y _ hy=>match y,hy with|0,_=>rfl|y+1,h=>absurd h (by omega))|refine cY _ _ _ _ ?_ (by intro y hy;repeat (first|(exfalso;omega)|(rcases y with _|y;focus rfl)))|refine bW (by simp) _ _ ?_ ?_ rfl|fail))))|(simp [Cv,CvL,zQ];done)|(simp [Cv,CvL,zQ,gt_some];omega))))):A:=a
theorem kl {A:Prop} (a:A:=by first|(and_intros<;>first|(with_reducible trivial)|((with_reducible show anB _ _ _=true);subst han;kernel_rfl)|((with_reducible show (anB _ _ _ && _)=true);subst han;kernel_rfl)|omega|(with_reducible assumption)|exact nrc|exact nfc|exact rfl|exact uQ|exact .inr rfl|exact .inl rfl|exact fun x hx=>absurd hx (by omega))|(intro g;have Q:=G;(repeat (first|(have q:=Q.1 (by first|exact g|(rw [g];rfl)|simpa using g);first|exact q|exact ⟨q.1,q.2.1⟩|exact q.2.2|omega|exact ⟨g,q⟩|exact ⟨trivial,q⟩|exact ⟨g,q.1,q.2.1⟩|exact ⟨g,q.2.2⟩)|replace Q:=Q.2));done)|(intro g;have Q:=G;(repeat (first|(have q:=Q.1 (by first|exact g|(rw [g];rfl)|simpa using g);replace Q:=Q.2)|replace Q:=Q.2));and_intros<;>first|(with_reducible trivial)|assumption|exact nfc|(intro g2;rw [g,g2];rfl)|(intro g2;assumption)|(simp only [g,Bool.true_and,Bool.and_true,Bool.not_false,Bool.not_true];assumption)|grind)|(intro x hx;(repeat (first|(and_intros<;>(first|exact rfl|exact trivial|exact uQ|exact .inr rfl|exact .inl rfl|exact fun x hx=>absurd hx (by omega)))|(exfalso;omega)|(rcases x with _|x)));done)|(refine fO ?_ ?_<;>first|exact uQ|(intro x hx;(repeat (first|(and_intros<;>(first|exact rfl|exact trivial|exact uQ|exact .inr rfl|exact .inl rfl|exact fun x hx=>absurd hx (by omega)))|(exfalso;omega)|(rcases x with _|x)));done)|(refine fO ?_ ?_<;>first|exact uQ|(intro x hx;(repeat (first|(and_intros<;>(first|exact rfl|exact trivial|exact uQ|exact .inr rfl|exact .inl rfl|exact fun x hx=>absurd hx (by omega)))|(exfalso;omega)|(rcases x with _|x)));done)))|(and_intros<;>first|(with_reducible trivial)|((with_reducible show anB _ _ _=true);subst han;kernel_rfl)|((with_reducible show (anB _ _ _ && _)=true);subst han;kernel_rfl)|omega|(with_reducible assumption)|exact nrc|exact nfc|exact rfl|exact uQ|exact .inr rfl|exact .inl rfl|exact fun x hx=>absurd hx (by omega)|(intro x hx;(repeat (first|(and_intros<;>(first|exact rfl|exact trivial|exact uQ|exact .inr rfl|exact .inl rfl|exact fun x hx=>absurd hx (by omega)))|(exfalso;omega)|(rcases x with _|x)));done)|(refine fO ?_ ?_<;>first|exact uQ|(intro x hx;(repeat (first|(and_intros<;>(first|exact rfl|exact trivial|exact uQ|exact .inr rfl|exact .inl rfl|exact fun x hx=>absurd hx (by omega)))|(exfalso;omega)|(rcases x with _|x)));done)|(refine fO ?_ ?_<;>first|exact uQ|(intro x hx;(repeat (first|(and_intros<;>(first|exact rfl|exact trivial|exact uQ|exact .inr rfl|exact .inl rfl|exact fun x hx=>absurd hx (by omega)))|(exfalso;omega)|(rcases x with _|x)));done))))|grind):A:=a
structure Wq (Q:Prop):Prop where
 out:Q
theorem rv4 {a b c d e:Prop} (w:Wq (a->b->c->d->e)) (x:a) (y:b) (z:c) (t:d):e:=w.out x y z t
theorem dk {P:Prop} {Q:List (List Nat)->Prop} (b:∀ an,Q an) (a:(∀ an,Wq (Q an))->P:=by
 intro wq
 show _
 first|(refine yW zO C 0 (by kernel_rfl) (by kernel_rfl) ?_;intro an han;simp only [and_false,false_and,vZ,wV,qS,xrD,xoD,qT,uC,List.append_nil,xJ,refs,vC,mask,wY,place,xV,wZ,xZ,hit,inL,xK,ren,tO,rnN,nrH,nrB,nrL,nr,dead0,deadS,rZ,rS,Nat.sub_self,Nat.add_zero,Nat.zero_add,Nat.reduceSub,Nat.not_lt_zero,Nat.zero_le,Nat.lt_add_one,go_sem,Nat.reduceLeDiff,Nat.reduceLT,Nat.reduceAdd,Nat.reduceMul,Nat.reduceSub,Nat.reduceEqDiff,Nat.reduceBEq,Int.reduceToNat,reduceCtorEq,E];(first|(with_reducible refine wD ?_)|(with_reducible refine wM ?_)))|(refine yW zO C 1 (by kernel_rfl) (by kernel_rfl) ?_;intro an han;simp only [and_false,false_and,vZ,wV,qS,xrD,xoD,qT,uC,List.append_nil,xJ,refs,vC,mask,wY,place,xV,wZ,xZ,hit,inL,xK,ren,tO,rnN,nrH,nrB,nrL,nr,dead0,deadS,rZ,rS,Nat.sub_self,Nat.add_zero,Nat.zero_add,Nat.reduceSub,Nat.not_lt_zero,Nat.zero_le,Nat.lt_add_one,go_sem,Nat.reduceLeDiff,Nat.reduceLT,Nat.reduceAdd,Nat.reduceMul,Nat.reduceSub,Nat.reduceEqDiff,Nat.reduceBEq,Int.reduceToNat,reduceCtorEq,E];(first|(with_reducible refine wD ?_)|(with_reducible refine wM ?_)))|(refine yW zO C 2 (by kernel_rfl) (by kernel_rfl) ?_;intro an han;simp only [and_false,false_and,vZ,wV,qS,xrD,xoD,qT,uC,List.append_nil,xJ,refs,vC,mask,wY,place,xV,wZ,xZ,hit,inL,xK,ren,tO,rnN,nrH,nrB,nrL,nr,dead0,deadS,rZ,rS,Nat.sub_self,Nat.add_zero,Nat.zero_add,Nat.reduceSub,Nat.not_lt_zero,Nat.zero_le,Nat.lt_add_one,go_sem,Nat.reduceLeDiff,Nat.reduceLT,Nat.reduceAdd,Nat.reduceMul,Nat.reduceSub,Nat.reduceEqDiff,Nat.reduceBEq,Int.reduceToNat,reduceCtorEq,E];(first|(with_reducible refine wD ?_)|(with_reducible refine wM ?_)))|(refine yW zO C 3 (by kernel_rfl) (by kernel_rfl) ?_;intro an han;simp only [and_false,false_and,vZ,wV,qS,xrD,xoD,qT,uC,List.append_nil,xJ,refs,vC,mask,wY,place,xV,wZ,xZ,hit,inL,xK,ren,tO,rnN,nrH,nrB,nrL,nr,dead0,deadS,rZ,rS,Nat.sub_self,Nat.add_zero,Nat.zero_add,Nat.reduceSub,Nat.not_lt_zero,Nat.zero_le,Nat.lt_add_one,go_sem,Nat.reduceLeDiff,Nat.reduceLT,Nat.reduceAdd,Nat.reduceMul,Nat.reduceSub,Nat.reduceEqDiff,Nat.reduceBEq,Int.reduceToNat,reduceCtorEq,E];(first|(with_reducible refine wD ?_)|(with_reducible refine wM ?_)))|(refine yW zO C 4 (by kernel_rfl) (by kernel_rfl) ?_;intro an han;simp only [and_false,false_and,vZ,wV,qS,xrD,xoD,qT,uC,List.append_nil,xJ,refs,vC,mask,wY,place,xV,wZ,xZ,hit,inL,xK,ren,tO,rnN,nrH,nrB,nrL,nr,dead0,deadS,rZ,rS,Nat.sub_self,Nat.add_zero,Nat.zero_add,Nat.reduceSub,Nat.not_lt_zero,Nat.zero_le,Nat.lt_add_one,go_sem,Nat.reduceLeDiff,Nat.reduceLT,Nat.reduceAdd,Nat.reduceMul,Nat.reduceSub,Nat.reduceEqDiff,Nat.reduceBEq,Int.reduceToNat,reduceCtorEq,E];(first|(with_reducible refine wD ?_)|(with_reducible refine wM ?_)))|fail
 revert han
 exact (wq an).out):P:=a fun an=>⟨b an⟩
class HD (h:List ABlk):Prop where
 k:True
instance {e:TypeId} {n:Nat} {L:List TSleeper} {h:List ABlk}:HD (.row e 3 n (enR zT L)::h):=⟨trivial⟩
instance {b:ABlk} {h:List ABlk} [i:HD h]:HD (b::h):=⟨i.k⟩
theorem rbD {c:Code} {rs':List ResultVar} {v:AV} {t:List AV} {h:List ABlk} [HD h] (hm:Mean Try.prog c (kY Try.prog rs' (bL (rs v) [])) (rsL t) (rsH h)) (e:up (rs v)=v:=by simp only [rL0,rL1,rH0,rH1,rB0,rBl,dE,bH,cU,bI,r_rptr,r_sl,bG,bJ,r_fn,r_nilp,r_opt,r_z,rtp,rBs,rBq,rBf,rBu,rBo2,rs_r_u8,vJ,xP,xW,rs_a_u8,fZ,wQ,wE,u_int,u_bool,u_agg,u_tup,uL0,uL1,up_r_u8,eC,up_r_TStored,up_r_TSleeper]):Mean Try.prog c (kY Try.prog rs' (bL v [])) t h:=rbW e hm
theorem fB {A:Prop} (a:A:=by first|rfl|simp only [Bool.and_false,Bool.false_and,Bool.and_true,Bool.true_and]|exact congrArg AV.bool (Eq.symm (by assumption))|fail):A:=a
theorem ds0 {P Q:Prop} (b:Q) (a:Wq Q->P:=by
 intro wq
 show _
 first|(have q0:=E)|(have E:True:=trivial)
 first|(have q0:=G)|(have G:True:=trivial)
 first|(have q0:=B)|(have B:True:=trivial)
 repeat ((repeat (first
  | ((with_reducible obtain ⟨f,H⟩:=nI H);replace E:=And.intro f E)
  | ((with_reducible obtain ⟨f,H⟩:=nC H);replace E:=And.intro f E)
  | ((with_reducible obtain ⟨f,H⟩:=nS H);replace E:=And.intro f E)
  | ((with_reducible obtain ⟨f,H⟩:=nM H);replace E:=And.intro f E)
  | ((with_reducible obtain ⟨f,H⟩:=nD H);replace E:=And.intro f E)
  | ((with_reducible obtain ⟨f,H⟩:=nJ H);replace E:=And.intro f E)
  | ((with_reducible obtain ⟨f,H⟩:=nG H);(first|replace f:=fun g=>xD.1 (f g)|replace f:=fun g=>capb_iff.1 (f g)|replace f:=fun g=>slb_iff.1 (f g)|skip);replace G:=And.intro f G)
  | ((with_reducible obtain ⟨f,H⟩:=nB H);replace E:=And.intro f E)
  | ((with_reducible replace H:=xH hc H);replace B:=And.intro hc B;clear hc)
  | ((with_reducible replace H:=yM hc H);replace B:=And.intro hc B;clear hc)
  | ((with_reducible have q:=cTt H);replace H:=q (by simpa using hc);replace B:=And.intro hc B;clear hc)
  | ((with_reducible have q:=cTf H);replace H:=q (by simpa using hc);replace B:=And.intro hc B;clear hc)));first
   | (focus (exfalso;first|(simp [B] at hc;done)|(simp [bEq,bLt,bLe] at hc;done)|fail))
   | ((with_reducible refine vN ?_);(try simp only [wJ,k_normal,b_normal,kL_normal,r_normal]))
   | (refine inlI rfl (by simp only [go_sem,Nat.reduceLeDiff,Nat.reduceLT,Nat.reduceAdd,Nat.reduceMul,Nat.reduceSub,Nat.reduceEqDiff,Nat.reduceBEq,Int.reduceToNat,reduceCtorEq,E]) (by simp only [go_sem,Nat.reduceLeDiff,Nat.reduceLT,Nat.reduceAdd,Nat.reduceMul,Nat.reduceSub,Nat.reduceEqDiff,Nat.reduceBEq,Int.reduceToNat,reduceCtorEq,E];rfl) ?_;dsimp only [FI.code,FI.rs,FI.n];simp only [lCl,lNl,Nat.reduceAdd,Nat.reduceSub,rS,rZ,aC,aN])
   | (refine cutI C (by simp only [cI,inK,Nat.reduceBEq,Bool.or_false,Bool.or_true,Bool.or_self,Bool.true_or,Bool.false_or,cond_true,cond_false,Nat.reduceAdd];rfl) ?_;simp only [zK,fC,xY,tS,tZ,dSl,dZ,go_sem,Nat.reduceLeDiff,Nat.reduceLT,Nat.reduceAdd,Nat.reduceMul,Nat.reduceSub,Nat.reduceEqDiff,Nat.reduceBEq,Int.reduceToNat,reduceCtorEq,E];(repeat ((with_reducible refine And.intro ?_ ?_);focus (fail_if_success (first|(with_reducible refine wS ?_)|fail));focus (exact kl)));(fail_if_success (first|(with_reducible refine wD ?_)|(with_reducible show False)|fail)))
   | (refine sqI (by rfl) ?_)
   | (refine regI (by rfl) ?_)
   | ((with_reducible refine sqR C ?_);simp only [go_sem,Nat.reduceLeDiff,Nat.reduceLT,Nat.reduceAdd,Nat.reduceMul,Nat.reduceSub,Nat.reduceEqDiff,Nat.reduceBEq,Int.reduceToNat,reduceCtorEq,E];(repeat ((with_reducible refine And.intro ?_ ?_);focus (fail_if_success (first|(with_reducible refine wS ?_)|fail));focus (exact kl)));(fail_if_success (first|(with_reducible refine wD ?_)|(with_reducible show False)|fail)))
   | ((with_reducible refine rgR C ?_);simp only [go_sem,Nat.reduceLeDiff,Nat.reduceLT,Nat.reduceAdd,Nat.reduceMul,Nat.reduceSub,Nat.reduceEqDiff,Nat.reduceBEq,Int.reduceToNat,reduceCtorEq,E];(repeat ((with_reducible refine And.intro ?_ ?_);focus (fail_if_success (first|(with_reducible refine wS ?_)|fail));focus (exact kl)));(fail_if_success (first|(with_reducible refine wD ?_)|(with_reducible show False)|fail)))
   | (with_reducible refine zZ ?_)
   | (with_reducible refine uJ ?_)
   | ((with_reducible refine rgK ?_);simp only [go_sem,Nat.reduceLeDiff,Nat.reduceLT,Nat.reduceAdd,Nat.reduceMul,Nat.reduceSub,Nat.reduceEqDiff,Nat.reduceBEq,Int.reduceToNat,reduceCtorEq,E])
   | ((with_reducible refine rgE ?_);simp only [go_sem,Nat.reduceLeDiff,Nat.reduceLT,Nat.reduceAdd,Nat.reduceMul,Nat.reduceSub,Nat.reduceEqDiff,Nat.reduceBEq,Int.reduceToNat,reduceCtorEq,E])
   | ((with_reducible refine rgT ?_);simp only [go_sem,Nat.reduceLeDiff,Nat.reduceLT,Nat.reduceAdd,Nat.reduceMul,Nat.reduceSub,Nat.reduceEqDiff,Nat.reduceBEq,Int.reduceToNat,reduceCtorEq,E])
   | (refine yX rfl trivial (fun hc=>?_) (fun hc=>?_);first|(focus (clear wq;(try clear wz);exact dr))|(rotate_left;focus (clear wq;(try clear wz);exact dr)))
   | (refine qE zO C (by kernel_rfl) (by kernel_rfl) ?_;simp only [go_sem,Nat.reduceLeDiff,Nat.reduceLT,Nat.reduceAdd,Nat.reduceMul,Nat.reduceSub,Nat.reduceEqDiff,Nat.reduceBEq,Int.reduceToNat,reduceCtorEq,E];(fail_if_success (show False));(repeat ((with_reducible refine And.intro ?_ ?_);focus (fail_if_success (first|(with_reducible refine wS ?_)|fail));focus (exact kl)));(fail_if_success (first|(with_reducible refine wD ?_)|(with_reducible show False)|fail)))
   | (refine dk ?_;intro an han;(repeat ((with_reducible refine And.intro ?_ ?_);focus (fail_if_success (first|(with_reducible refine wS ?_)|fail));focus (exact kl)));(fail_if_success (first|(with_reducible refine wD ?_)|(with_reducible show False)|fail)))
   | ((with_reducible refine sW ?_);exact sI)
 )
 (repeat (first
  | ((with_reducible obtain ⟨f,H⟩:=nI H);replace E:=And.intro f E)
  | ((with_reducible obtain ⟨f,H⟩:=nC H);replace E:=And.intro f E)
  | ((with_reducible obtain ⟨f,H⟩:=nS H);replace E:=And.intro f E)
  | ((with_reducible obtain ⟨f,H⟩:=nM H);replace E:=And.intro f E)
  | ((with_reducible obtain ⟨f,H⟩:=nD H);replace E:=And.intro f E)
  | ((with_reducible obtain ⟨f,H⟩:=nJ H);replace E:=And.intro f E)
  | ((with_reducible obtain ⟨f,H⟩:=nG H);(first|replace f:=fun g=>xD.1 (f g)|replace f:=fun g=>capb_iff.1 (f g)|replace f:=fun g=>slb_iff.1 (f g)|skip);replace G:=And.intro f G)
  | ((with_reducible obtain ⟨f,H⟩:=nB H);replace E:=And.intro f E)
  | ((with_reducible replace H:=xH hc H);replace B:=And.intro hc B;clear hc)
  | ((with_reducible replace H:=yM hc H);replace B:=And.intro hc B;clear hc)
  | ((with_reducible have q:=cTt H);replace H:=q (by simpa using hc);replace B:=And.intro hc B;clear hc)
  | ((with_reducible have q:=cTf H);replace H:=q (by simpa using hc);replace B:=And.intro hc B;clear hc)))
 exact rv4 wq E G B H):P:=a ⟨b⟩
theorem ds1 {T0:Type} {P:Prop} {Q:T0->Prop} (b:∀ (x0:T0),Q x0) (a:(∀ (x0:T0),Wq (Q x0))->P:=by
 intro wz
 show _
 refine ds0 ?_
 intro E G B H
 (with_reducible obtain ⟨x0,e,H⟩:=bsi H)
 replace E:=And.intro e E
 exact rv4 (wz x0) E G B H):P:=a fun x0=>⟨b x0⟩
theorem dr {A:Prop} (a:A:=by
 first|(have q:=E)|(have E:True:=trivial)
 first|(have q:=G)|(have G:True:=trivial)
 first|(have q:=B)|(have B:True:=trivial)
 repeat (((repeat (first
 | ((with_reducible obtain ⟨f,H⟩:=nI H);replace E:=And.intro f E)
 | ((with_reducible obtain ⟨f,H⟩:=nC H);replace E:=And.intro f E)
 | ((with_reducible obtain ⟨f,H⟩:=nS H);replace E:=And.intro f E)
 | ((with_reducible obtain ⟨f,H⟩:=nM H);replace E:=And.intro f E)
 | ((with_reducible obtain ⟨f,H⟩:=nD H);replace E:=And.intro f E)
 | ((with_reducible obtain ⟨f,H⟩:=nJ H);replace E:=And.intro f E)
 | ((with_reducible obtain ⟨f,H⟩:=nG H);(first|replace f:=fun g=>xD.1 (f g)|replace f:=fun g=>capb_iff.1 (f g)|replace f:=fun g=>slb_iff.1 (f g)|skip);replace G:=And.intro f G)
 | ((with_reducible obtain ⟨f,H⟩:=nB H);replace E:=And.intro f E)
 | ((with_reducible replace H:=xH hc H);replace B:=And.intro hc B;clear hc)
 | ((with_reducible replace H:=yM hc H);replace B:=And.intro hc B;clear hc)
 | ((with_reducible have q:=cTt H);replace H:=q (by simpa using hc);replace B:=And.intro hc B;clear hc)
 | ((with_reducible have q:=cTf H);replace H:=q (by simpa using hc);replace B:=And.intro hc B;clear hc)
 | ((with_reducible obtain ⟨r,e,H⟩:=bsj H);replace E:=And.intro e E)
 | ((with_reducible obtain ⟨r,e,H⟩:=bsi H);replace E:=And.intro e E))));first
  | (focus (exfalso;first|(simp [B] at hc;done)|(simp [bEq,bLt,bLe] at hc;done)|fail))
  | ((with_reducible refine rbD ?_);simp only [rL0,rL1,rH0,rH1,rB0,rBl,dE,bH,cU,bI,r_rptr,r_sl,bG,bJ,r_fn,r_nilp,r_opt,r_z,rtp,rBs,rBq,rBf,rBu,rBo2,rs_r_u8,vJ,xP,xW,rs_a_u8,fZ,wQ,wE])
  | ((with_reducible refine vN ?_);(try simp only [wJ,k_normal,b_normal,kL_normal,r_normal]))
  | (refine inlI rfl (by simp only [go_sem,Nat.reduceLeDiff,Nat.reduceLT,Nat.reduceAdd,Nat.reduceMul,Nat.reduceSub,Nat.reduceEqDiff,Nat.reduceBEq,Int.reduceToNat,reduceCtorEq,E]) (by simp only [go_sem,Nat.reduceLeDiff,Nat.reduceLT,Nat.reduceAdd,Nat.reduceMul,Nat.reduceSub,Nat.reduceEqDiff,Nat.reduceBEq,Int.reduceToNat,reduceCtorEq,E];rfl) ?_;dsimp only [FI.code,FI.rs,FI.n];simp only [lCl,lNl,Nat.reduceAdd,Nat.reduceSub,rS,rZ,aC,aN])
  | (refine cutI C (by simp only [cI,inK,Nat.reduceBEq,Bool.or_false,Bool.or_true,Bool.or_self,Bool.true_or,Bool.false_or,cond_true,cond_false,Nat.reduceAdd];rfl) ?_;simp only [zK,fC,xY,tS,tZ,dSl,dZ,go_sem,Nat.reduceLeDiff,Nat.reduceLT,Nat.reduceAdd,Nat.reduceMul,Nat.reduceSub,Nat.reduceEqDiff,Nat.reduceBEq,Int.reduceToNat,reduceCtorEq,E])
  | (refine sqI (by rfl) ?_)
  | (refine regI (by rfl) ?_)
  | ((with_reducible refine sqR C ?_);simp only [go_sem,Nat.reduceLeDiff,Nat.reduceLT,Nat.reduceAdd,Nat.reduceMul,Nat.reduceSub,Nat.reduceEqDiff,Nat.reduceBEq,Int.reduceToNat,reduceCtorEq,E])
  | ((with_reducible refine rgR C ?_);simp only [go_sem,Nat.reduceLeDiff,Nat.reduceLT,Nat.reduceAdd,Nat.reduceMul,Nat.reduceSub,Nat.reduceEqDiff,Nat.reduceBEq,Int.reduceToNat,reduceCtorEq,E])
  | (with_reducible refine zZ ?_)
  | (with_reducible refine uJ ?_)
  | ((with_reducible refine rgK ?_);simp only [go_sem,Nat.reduceLeDiff,Nat.reduceLT,Nat.reduceAdd,Nat.reduceMul,Nat.reduceSub,Nat.reduceEqDiff,Nat.reduceBEq,Int.reduceToNat,reduceCtorEq,E])
  | ((with_reducible refine rgE ?_);simp only [go_sem,Nat.reduceLeDiff,Nat.reduceLT,Nat.reduceAdd,Nat.reduceMul,Nat.reduceSub,Nat.reduceEqDiff,Nat.reduceBEq,Int.reduceToNat,reduceCtorEq,E])
  | ((with_reducible refine rgT ?_);simp only [go_sem,Nat.reduceLeDiff,Nat.reduceLT,Nat.reduceAdd,Nat.reduceMul,Nat.reduceSub,Nat.reduceEqDiff,Nat.reduceBEq,Int.reduceToNat,reduceCtorEq,E])
  | (refine yX rfl trivial (fun hc=>?_) (fun hc=>?_))
  | ((with_reducible refine loopI H ?_ (fun s o H hn1 hn2=>?_) (fun e H=>?_))<;>(try dsimp only [LT.T,LT.M,LT.TB,LT.MB,LT.U] at H ⊢)<;>(try simp only [tp,zL,geth])<;>(try simp only [wJ,k_normal,b_normal,kL_normal,r_normal]))
  | (refine qE zO C (by kernel_rfl) (by kernel_rfl) ?_;simp only [go_sem,Nat.reduceLeDiff,Nat.reduceLT,Nat.reduceAdd,Nat.reduceMul,Nat.reduceSub,Nat.reduceEqDiff,Nat.reduceBEq,Int.reduceToNat,reduceCtorEq,E];(fail_if_success (show False)))
  | (refine dk ?_;intro an han)
  | ((with_reducible refine sW ?_);exact sI)
  | ((with_reducible refine exN H ?_);exact sI)
  | ((with_reducible refine exD H ?_);exact sI)
  | ((with_reducible refine And.intro ?_ ?_);focus (exact kl))
  | ((with_reducible have q:=Option.some.inj H);replace H:=hnx q (by assumption))
  | ((with_reducible have q:=Option.some.inj H);subst q;first|((with_reducible refine rW ?_);first|exact gZ|exact gY)|((with_reducible refine eV ?_);exact gX)|((with_reducible refine eW ?_);exact fB)|fail)
  | (focus (exact kl))
  )):A:=a
structure Cd (α:Type) where
 k:AV->Prop
 g:AV->α
 c:α->AV
 w:∀ v,k v->WkV (c (g v)) v
structure Cs (α:Type) where
 k:List AV->Prop
 g:List AV->α
 c:α->List AV
 w:∀ l,k l->∀ E vs,FR E l vs->FR E (c (g l)) vs
def kN:List AV->Prop
 | []=>True
 | _=>False
def kC (a:AV->Prop) (b:List AV->Prop):List AV->Prop
 | v::l=>a v/\b l
 | []=>False
def hA:List AV->AV
 | v::_=>v
 | []=>.top
def tA:List AV->List AV
 | _::l=>l
 | []=>[]
def dN:Cs Unit:=⟨kN,fun _=>(),fun _=>[],fun l h E vs F=>by cases l with|nil=>exact F|cons a l=>cases h⟩
def dC {α β:Type} (a:Cd α) (b:Cs β):Cs (α × β):=⟨kC a.k b.k,fun l=>(a.g (hA l),b.g (tA l)),fun p=>a.c p.1::b.c p.2,fun l h E vs F=>by
 cases l with
 | nil=>cases h
 | cons v l=>exact tR (a.w v h.1) F fun vs F=>b.w l h.2 E vs F⟩
def dI (k:IntKind):Cd Int:=⟨iK k,iA,.int k,fun v h=>(yB h).1⟩
def dL {α:Type} [Inhabited α] (f:α->List AV) (g:(Nat->AV)->α) (k:(Nat->AV)->Prop) (es:Nat) (hw:∀ r,k r->∀ y,y < es->WkV (zL (f (g r)) y) (r y)/\nref (zL (f (g r)) y)) (hu:∀ q,zL (f q) es = .top):Cd (List α):=⟨lK k es,lA g,fun p=>.ro es p.length false (enR f p),fun v h=>(lK_wk hw h hu).1⟩
def dG {α:Type} (f:α->List AV) (g:(Nat->AV)->α) (k:(Nat->AV)->Prop) (z:Nat) (hw:∀ v,aK z k v->WkV (.agg (f (g (aL v)))) v):Cd α:=⟨aK z k,fun v=>g (aL v),fun p=>.agg (f p),hw⟩
def dR {α:Type} [Inhabited α] (f:α->List AV) (g:(Nat->AV)->α) (k:(Nat->AV)->Prop) (z:Nat) (hw:∀ r,k r->∀ y,y < z->WkV (zL (f (g r)) y) (r y)/\nref (zL (f (g r)) y)) (hq:∀ q,zL (f q) z = .top):Cd α:=⟨rK z k,fun v=>g (rG v),fun p=>.rptr z 1 0 0 (enR f [p]),fun v h=>(rK_wk hw h hq).1⟩
def kF (n:Nat) (k:List AV->Prop):AV->Prop
 | .fn m l=>m=n/\k l
 | _=>False
def fA:AV->List AV
 | .fn _ l=>l
 | _=>[]
def dF {α:Type} (n:Nat) (b:Cs α) (hl:∀ l,b.k l->LW (b.c (b.g l)) l):Cd α:=⟨kF n b.k,fun v=>b.g (fA v),fun p=>.fn n (b.c p),fun v h=>by
 cases v<;>simp only [kF] at h
 obtain ⟨rfl,h⟩:=h
 exact fn_wk (hl _ h)⟩
theorem lN0:∀ l,dN.k l->LW (dN.c (dN.g l)) l:=fun l h=>by cases l with|nil=>exact LW_nil|cons a l=>cases h
theorem lC1 {α β:Type} {a:Cd α} {b:Cs β} (hb:∀ l,b.k l->LW (b.c (b.g l)) l):∀ l,(dC a b).k l->LW ((dC a b).c ((dC a b).g l)) l:=fun l h=>by
 cases l with
 | nil=>cases h
 | cons v l=>exact LW_cons (a.w v h.1) (hb l h.2)
section
variable {α γ:Type} [Inhabited γ]
def PP (cs:Cs α) (F:α->Option γ) (R:γ->AV) (l:List AV):AR:=.pure (cs.k l/\(F (cs.g l)).isSome=true) (R (gt (F (cs.g l))))
def GP (cs:Cs α) (F:α->Option γ) (R:γ->AV) (l:List AV) (_:Nat):AR:=.pure (cs.k l/\(F (cs.g l)).isSome=true) (R (gt (F (cs.g l))))
def GH (cs:Cs α) (F:α->Option γ) (R:γ->Nat->AV) (M:γ->List ABlk) (l:List AV) (s:Nat):AR:=.heap (cs.k l/\(F (cs.g l)).isSome=true) (R (gt (F (cs.g l))) s) (M (gt (F (cs.g l))))
variable {f:FuncId} {fn:Func} {code:Code} {rs:List ResultVar} {n:Nat} {cs:Cs α} {F:α->Option γ}
theorem PPo {R:γ->AV} (hf:Try.prog.funcs[f]? = some fn) (hn:(fn.name == "runtime.NumGoroutine")=false) (hb:fn.body=some code) (hrs:fn.results.toList=rs) (hnt:fn.ntmps=n)
  (hc:∀ r,(conc (R r)).isSome=true) (hw:∀ p r,F p=some r->Mean Try.prog code (kY Try.prog rs fun v' _=>v'=R r) (cs.c p ++ List.replicate (n - (cs.c p).length) .top) []):yU Try.prog f (yR (PP cs F R)):=by
 refine pure_fnM (PP cs F R) (rs:=rs) hf hn hb hrs ?_
 intro l ob v hb' hob
 injection hb' with q1 q2;subst q1 q2
 obtain ⟨hk,hob⟩:=hob
 obtain ⟨r,H⟩:=oE.1 hob
 rw [H]
 exact ⟨cs.c (cs.g l),_,fun E vs F=>cs.w l hk E vs F,hc r,rfl,by rw [hnt];exact hw _ r H⟩
theorem GPo {R:γ->AV} (hf:Try.prog.funcs[f]? = some fn) (hn:(fn.name == "runtime.NumGoroutine")=false) (hb:fn.body=some code) (hrs:fn.results.toList=rs) (hnt:fn.ntmps=n)
  (hc:∀ s r,ren 0 s (R r)=R r) (hw:∀ p r,F p=some r->Mean Try.prog code (kY Try.prog rs (bL (R r) [])) (cs.c p ++ List.replicate (n - (cs.c p).length) .top) []):yU Try.prog f (xN (GP cs F R)):=by
 refine eN (GP cs F R) (rs:=rs) hf hn hb hrs ?_
 intro l s ob v ns hb' hob
 rcases hb' with ⟨hb',rfl⟩|hb'
 ·injection hb' with q1 q2;subst q1 q2
  obtain ⟨hk,hob⟩:=hob
  obtain ⟨r,H⟩:=oE.1 hob
  rw [H]
  exact ⟨cs.c (cs.g l),R r,[],fun E vs F=>cs.w l hk E vs F,hc s r,trivial,by rw [hnt];exact hw _ r H⟩
 ·cases hb'
theorem GHo {R:γ->Nat->AV} {M:γ->List ABlk} (hf:Try.prog.funcs[f]? = some fn) (hn:(fn.name == "runtime.NumGoroutine")=false) (hb:fn.body=some code) (hrs:fn.results.toList=rs) (hnt:fn.ntmps=n)
  (hc:∀ s r,ren 0 s (R r 0)=R r s/\RenH s (M r) (M r)) (hw:∀ p r,F p=some r->Mean Try.prog code (kY Try.prog rs (bL (R r 0) (M r))) (cs.c p ++ List.replicate (n - (cs.c p).length) .top) []):yU Try.prog f (xN (GH cs F R M)):=by
 refine eN (GH cs F R M) (rs:=rs) hf hn hb hrs ?_
 intro l s ob v ns hb' hob
 rcases hb' with ⟨hb',_⟩|hb'
 ·cases hb'
 ·injection hb' with q1 q2 q3;subst q1 q2 q3
  obtain ⟨hk,hob⟩:=hob
  obtain ⟨r,H⟩:=oE.1 hob
  rw [H]
  exact ⟨cs.c (cs.g l),R r 0,M r,fun E vs F=>cs.w l hk E vs F,(hc s r).1,(hc s r).2,by rw [hnt];exact hw _ r H⟩
end
theorem rn {A:Prop} (a:A:=by intro s r;simp only [ren,tO]):A:=a
theorem rh {A:Prop} (a:A:=by intro s r;refine ⟨by simp only [ren,tO,rnN_0,rnN_s,Nat.zero_add,Nat.reduceAdd],?_⟩;repeat (first|exact trivial|refine ⟨gO NRf.h,?_⟩)):A:=a
attribute [go_sem] dN dC dI dL dG dR dF kN kC kF hA tA fA PP GP GH
noncomputable section
def xI:=dL zD xC wB 43 (fun _ h=>gM h) (fun _=>rfl)
attribute [go_sem] xI
def yK:=dG xB zY uA 4 (fun _ h=>(fK h).1)
attribute [go_sem] yK
def qK:=dG zI yF wI 41 (fun _ h=>(dV h).1)
attribute [go_sem] qK
def qL:=dG zC yS xU 3 (fun _ h=>(wA_TSleeper h).1)
attribute [go_sem] qL
def eT:=dL zI yF wI 41 (fun _ h=>w_TFrame h) (fun _=>rfl)
attribute [go_sem] eT
def uF:=dG zD xC wB 43 (fun _ h=>(wA_TStored h).1)
attribute [go_sem] uF
def da_TStep:=dG wP cK fV 45 (fun _ h=>(wA_TStep h).1)
attribute [go_sem] da_TStep
def qM:=dL zC yS xU 3 (fun _ h=>fL h) (fun _=>rfl)
attribute [go_sem] qM
def dr_i64:=dR qI g_i64 k_i64 1 (fun _ h=>w_i64 h) (fun _=>rfl)
attribute [go_sem] dr_i64
def dr_u8:=dR xA g_u8 k_u8 1 (fun _ h=>w_u8 h) (fun _=>rfl)
attribute [go_sem] dr_u8
theorem st {A B:Prop} (b:B) (a:Wq B->A:=by intro q;simp only [dN,dC,dI,dL,dG,dR,dF,xI,yK,qK,qL,eT,uF,da_TStep,qM,dr_i64,dr_u8,xB,zI,zC,zD,wP,lCl,lNl,Nat.reduceAdd,Nat.reduceSub,rS,rZ,aC,aN,List.append_eq];exact q.out):A:=a ⟨b⟩
theorem dq {A:Prop} (a:A:=by refine st ?_;exact dr):A:=a
end
end Go.Proofs.Ytefiemaoacmdkaa
