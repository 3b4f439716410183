/-
  Contracts of functions: each computes its partial function.
-/
import Derived.Test.YtooepgpfaaddbaaGreatRH
namespace Go.Proofs.YtooepgpfaaddbaaGreat
open Go.Am
set_option maxHeartbeats 4000000
set_option maxRecDepth 20000
noncomputable section
set_option linter.unusedVariables false
set_option linter.unusedSimpArgs false
attribute [go_sem] w_skip w_region w_draw w_seq w_cond w_exit w_ret k_normal k_ret b_normal b_exit b_ret l_normal l_exit l_ret yS m_exit m_ret kL_normal kL_exit kL_ret kJ_normal kJ_exit kJR_ret r_normal r_ret o_nil o_cons q_nil q_cons nxt gval gvd gvl gvw dstOf evO uA ogC og ogL ogP ogO rho rhoO strip optOk getL setL wZ absC absV pO hO gV ldB geth seth evStore stRes stB evBox evAlloc tE dX wK fZ binI binNR binU nilR_0 nilR_s evInt evUn evConv cvO cZ mrg evExtract evNil cX kW eW evLen2 vcells vcOk atom tabF cnd retK resFin resL resA resC resCons fI gU eB jN fillA dY putL getP nxtQ pureC_eq pureR genC_eq genR roV roL wU jO roW kK roWOb roWObL nref nrefL binA binN cJ eqRes evSlice evSlice2 eY yU evConv2 uU fV qL evMake kD repL evFn evMin sub_enR0 jR eX qF tL lenS cutS Bool.or_false Bool.false_or Bool.or_true Bool.true_or Bool.and_false Bool.false_and Option.map_some Option.map_none Option.getD_some Option.getD_none Option.bind_some Option.bind_none Option.or_some Option.or_none Option.isSome_none Option.isNone_none Option.isNone_some aN aC List.append_nil cond_true cond_false lC lN beq_self_eq_true Bool.and_true Bool.true_and Bool.not_true Bool.not_false true_and and_true and_self true_implies implies_true ne_eq not_false_eq_true Bool.false_eq_true Bool.true_eq_false false_implies Nat.lt_irrefl Nat.le_refl Nat.succ_ne_self imp_self Bool.cond_false_right Bool.cond_true_left decide_true decide_false Bool.not_eq_true' Bool.not_eq_false' Bool.not_not Nat.zero_mul Nat.zero_add Nat.add_zero Nat.mul_one Nat.one_mul Bool.cond_self tsz3 tby3 tagg3 tzero3 tzn3 tint3 tnoint3 tany3 tintk3 tsz4 tagg4 tzero4 tsz5 tby5 tagg5 tzero5 tzn5 tint5 tany5 tsz22 tagg22 tslice22 tarr22 tstr22 tnoint22 tintk22 tslice23 tarr23 tstr23 tsz26 tagg26 tslice26 tarr26 tzero26 tnoint26 tintk26 tsz27 tagg27 tslice27 tarr27 tstr27 tnoint27 tintk27 tsz28 tagg28 tslice28 tarr28 tstr28 tnoint28 tintk28 tsz30 tby30 tagg30 tarr30 tzero30 tzn30 tplaces30 tfld30_0 tfld30_1 tfld30_2 tfld30_3 tfld30_4 tfld30_5 tfld30_6 tfld30_7 tfld30_8 tfld30_9 tsz31 tagg31 tsz35 tby35 tagg35 tarr35 tzero35 tzn35 tplaces35 tfld35_0 tfld35_1 tfld35_2 tsz36 tagg36 tslice36 tarr36 tzero36 tstr36 tnoint36 tintk36 tmapI37 tsz37 tagg37 tzero37 tslice38 tarr38 tstr38 tsz39 tby39 tagg39 tslice39 tarr39 tzero39 tzn39 tstr39 tnoint39 tintk39 tsz43 tagg43 tarr43 tzero43 tplaces43 tfld43_0 tfld43_1 tfld43_2 tfld43_3 tsz45 tagg45 tslice45 tarr45 tzero45 tplaces45 tsz48 tagg48 tzero48 tfld48_0 tfld48_1 tfld48_2 tint54 tany54 tsz65 tagg65 tsz70 tagg70 tarr70 tzero70 tplaces70 tfld70_0 tfld70_1 tfld70_2 tfld70_3 tsz73 tagg73 tarr73 tzero73 tplaces73 tfld73_0 tfld73_1 tfld73_2 tfld73_3 tfld73_4 tfld73_5 tfld73_6 tfld73_7 tfld73_8 tfld73_9 tfld73_10 tfld73_11 tfld73_12 tfld73_13 tfld73_14 tfld73_15 tfld73_16 tfld73_17 tfld73_18 tsz75 tagg75 tarr75 tzero75 tplaces75 tfld75_0 tfld75_1 tsz88 tagg88 tsz89 tagg89 tsz91 tzero91 tfld91_0 tfld91_1 tmap892 tsz97 tby97 tagg97 tarr97 tzero97 tzn97 tplaces97 tfld97_0 tfld97_1 tint107 tany107 tarr110 tzero110 tplaces110 tfld110_0 tarr126 tzero126 tplaces126 tfld126_0 tfld126_1 tsz129 tagg129 tarr129 tzero129 tplaces129 tfld129_1 tfld129_2 tslice133 tarr133 tstr133 tsz137 tagg137 tsz141 tagg141 tarr141 tzero141 tplaces141 tfld141_0 tfld141_1 tarr143 tzero143 tplaces143 tfld143_0 tfld143_1 tany154 tslice157 tarr157 tstr157 tsz168 tslice168 tarr168 tzero168 tplaces168 e_u8_0 fit_u8 de_u8 g_u8 e_i64_0 fit_i64 de_i64 xQ kE e_b_0 cS cU cV bC de_TRegulateChannel g_TRegulateChannel zZ cW e_TMove_0 e_TMove_1 e_TMove_2 fit_TMove de_TMove e_TRegulateBlock_0 e_TRegulateBlock_1 fit_TRegulateBlock de_TRegulateBlock zF yN eta_TRegulateBlock e_TRegulate_0 e_TRegulate_1 e_TRegulate_2 e_TRegulate_3 e_TRegulate_4 e_TRegulate_5 e_TRegulate_6 e_TRegulate_7 e_TRegulate_8 e_TRegulate_9 yJ xA vY e_lu8_0 e_TRegulateWord_0 e_TRegulateWord_1 e_TRegulateWord_2 e_TRegulateWord_3 zY yV eta_TRegulateWord gW bG eta_A6u8 qI kU wM uW eta_THeader jG gX kS tO eta_Tcursor yX uX eta_TReader Nat.sub_zero ctNo_at deR_0 deR_2 deR_3 deR_4 litC_x0 litC_x1 litC_x2 litC_x3 Fit_0 Option.isSome_some zN gd_one evCopyL cY evLk_mp evLk_val evLkM findMb_same findMb_lit findMb_row findMb_dead mapC_nil tabR sub_enR dZ xrD xoD uY vL rK rM rG aL aK iK bK lK iA bA lA or_true true_or Int.toNat_natCast shT_73 Int.toNat_zero Int.cast_ofNat_Int roD xJ zH edC edR gY rnm dH rnmB rnmC_en bR rnm_bif bN gR fC ptB slN litL yA pK isLit oS isRow inL fzV fzL wJ qH fzH dB fzB bE tU bT
theorem an0 {A:Prop} (a:A:=by first|(and_intros<;>first|(with_reducible trivial)|omega|assumption|exact nfc|first|exact rfl|exact trivial|exact jF|exact .inr rfl|exact .inl rfl|exact fun x hx=>absurd hx (by omega))|grind):A:=a
theorem an1 {A:Prop} (a:A:=by first|(and_intros<;>first|(with_reducible trivial)|omega|assumption|exact nfc|first|exact rfl|exact trivial|exact jF|exact .inr rfl|exact .inl rfl|exact fun x hx=>absurd hx (by omega)|(intro x hx;(repeat (first|(and_intros<;>(first|exact rfl|exact trivial|exact jF|exact .inr rfl|exact .inl rfl|exact fun x hx=>absurd hx (by omega)))|(exfalso;omega)|(rcases x with _|x)));done)|(refine Fit_app ?_ ?_<;>first|exact jF|(intro x hx;(repeat (first|(and_intros<;>(first|exact rfl|exact trivial|exact jF|exact .inr rfl|exact .inl rfl|exact fun x hx=>absurd hx (by omega)))|(exfalso;omega)|(rcases x with _|x)));done)|(refine Fit_app ?_ ?_<;>first|exact jF|(intro x hx;(repeat (first|(and_intros<;>(first|exact rfl|exact trivial|exact jF|exact .inr rfl|exact .inl rfl|exact fun x hx=>absurd hx (by omega)))|(exfalso;omega)|(rcases x with _|x)));done))))|grind):A:=a
theorem an2 {A:Prop} (a:A:=by first|(and_intros<;>first|(with_reducible trivial)|omega|assumption|exact nfc|first|exact rfl|exact trivial|exact jF|exact .inr rfl|exact .inl rfl|exact fun x hx=>absurd hx (by omega)|(intro x hx;(repeat (first|(and_intros<;>(first|exact rfl|exact trivial|exact jF|exact .inr rfl|exact .inl rfl|exact fun x hx=>absurd hx (by omega)))|(exfalso;omega)|(rcases x with _|x)));done))|grind):A:=a
theorem an3 {A:Prop} (a:A:=by first|(with_reducible trivial)|omega|(intro g;and_intros<;>first|(with_reducible trivial)|assumption|exact nfc|(intro g2;rw [g,g2];rfl)|(intro g2;assumption)|(simp only [g,Bool.true_and,Bool.and_true,Bool.not_false,Bool.not_true];assumption)|grind)|(and_intros<;>first|(with_reducible trivial)|omega|assumption|exact nfc|first|exact rfl|exact trivial|exact jF|exact .inr rfl|exact .inl rfl|exact fun x hx=>absurd hx (by omega))|grind):A:=a
theorem an4 {A:Prop} (a:A:=by first|(with_reducible trivial)|omega|grind):A:=a
theorem an5 {A:Prop} (a:A:=by and_intros<;>first|(with_reducible trivial)|(show anB _ _ _=true;subst han;kernel_rfl)|(show (anB _ _ _ && _)=true;subst han;kernel_rfl)|omega|assumption|exact nrc|exact nfc|first|exact rfl|exact trivial|exact jF|exact .inr rfl|exact .inl rfl|exact fun x hx=>absurd hx (by omega)):A:=a
theorem an6 {A:Prop} (a:A:=by and_intros<;>first|(with_reducible trivial)|(show anB _ _ _=true;subst han;kernel_rfl)|(show (anB _ _ _ && _)=true;subst han;kernel_rfl)|omega|assumption|exact nrc|exact nfc|first|exact rfl|exact trivial|exact jF|exact .inr rfl|exact .inl rfl|exact fun x hx=>absurd hx (by omega)|(intro x hx;(repeat (first|(and_intros<;>(first|exact rfl|exact trivial|exact jF|exact .inr rfl|exact .inl rfl|exact fun x hx=>absurd hx (by omega)))|(exfalso;omega)|(rcases x with _|x)));done)|(refine Fit_app ?_ ?_<;>first|exact jF|(intro x hx;(repeat (first|(and_intros<;>(first|exact rfl|exact trivial|exact jF|exact .inr rfl|exact .inl rfl|exact fun x hx=>absurd hx (by omega)))|(exfalso;omega)|(rcases x with _|x)));done)|(refine Fit_app ?_ ?_<;>first|exact jF|(intro x hx;(repeat (first|(and_intros<;>(first|exact rfl|exact trivial|exact jF|exact .inr rfl|exact .inl rfl|exact fun x hx=>absurd hx (by omega)))|(exfalso;omega)|(rcases x with _|x)));done)))):A:=a
theorem an7 {A:Prop} (a:A:=by and_intros<;>first|(with_reducible trivial)|(show anB _ _ _=true;subst han;kernel_rfl)|(show (anB _ _ _ && _)=true;subst han;kernel_rfl)|omega|assumption|exact nrc|exact nfc|first|exact rfl|exact trivial|exact jF|exact .inr rfl|exact .inl rfl|exact fun x hx=>absurd hx (by omega)|(intro x hx;(repeat (first|(and_intros<;>(first|exact rfl|exact trivial|exact jF|exact .inr rfl|exact .inl rfl|exact fun x hx=>absurd hx (by omega)))|(exfalso;omega)|(rcases x with _|x)));done)):A:=a
theorem at0 {A:Prop} (a:A:=by and_intros<;>first|(with_reducible trivial)|omega|exact nfc|trivial):A:=a
theorem cv {A:Prop} (a:A:=by simp [CvB,CvL,Cv,uD,geth,yB]):A:=a
theorem cl {A:Prop} (a:A:=by first|rfl|(simp;done)|(simp;omega)):A:=a
def iM:Nat->Nat->Mu
 | 0,_=>[]
 | k+1,j=>some j::iM k (j+1)
def iP:List (Nat × Nat)->Mu
 | []=>[]
 | (j,k)::l=>iM k j ++ iP l
theorem Sq {n:Nat} {t:List AV} {h:List ABlk} {t2:List AV} {h2:List ABlk} (l:List (Nat × Nat)) {m:Mu} (a:CvL m t2 t) (b:CvH m h h2 m) (e:iP l=m:=by simp only [iP,iM,Nat.reduceAdd,aC,aN,List.append_nil];rfl) (c:injM (dE m h2)=true:=by rfl) (d:idM 0 n m=true:=by rfl):SubF n t h t2 h2:=xI ⟨m,a,b,c,d⟩
theorem dQ {A:Prop} (a:A:=by repeat (first|exact trivial|refine ⟨by first|exact yI|exact CvB_same nfA|exact zJ wY (by first|rfl|(simp;done)|(simp;omega)|fail) (fun _ _ _ _=>rfl)|exact zJ zM (by first|rfl|(simp;done)|(simp;omega)|fail) (fun _ _ _ _=>rfl)|exact zJ zI (by first|rfl|(simp;done)|(simp;omega)|fail) (fun _ _ _ _=>rfl)|exact zJ yL (by first|rfl|(simp;done)|(simp;omega)|fail) (fun _ _ _ _=>rfl)|exact zJ nr_b (by first|rfl|(simp;done)|(simp;omega)|fail) (fun _ _ _ _=>rfl)|exact zJ xL (by first|rfl|(simp;done)|(simp;omega)|fail) (fun _ _ _ _=>rfl)|exact zJ kX (by first|rfl|(simp;done)|(simp;omega)|fail) (fun _ _ _ _=>rfl)|exact zJ vC (by first|rfl|(simp;done)|(simp;omega)|fail) (fun _ _ _ _=>rfl)|exact zQ|(simp [CvB,CvL,Cv,uD,geth,yB];done)|fail,?_⟩)):A:=a
theorem pQ {P Q:Prop} (b:Q) (a:Q->P:=by intro q;(repeat (refine ⟨by first|exact yI|exact CvB_same nfA|exact zJ wY (by first|rfl|(simp;done)|(simp;omega)|fail) (fun _ _ _ _=>rfl)|exact zJ zM (by first|rfl|(simp;done)|(simp;omega)|fail) (fun _ _ _ _=>rfl)|exact zJ zI (by first|rfl|(simp;done)|(simp;omega)|fail) (fun _ _ _ _=>rfl)|exact zJ yL (by first|rfl|(simp;done)|(simp;omega)|fail) (fun _ _ _ _=>rfl)|exact zJ nr_b (by first|rfl|(simp;done)|(simp;omega)|fail) (fun _ _ _ _=>rfl)|exact zJ xL (by first|rfl|(simp;done)|(simp;omega)|fail) (fun _ _ _ _=>rfl)|exact zJ kX (by first|rfl|(simp;done)|(simp;omega)|fail) (fun _ _ _ _=>rfl)|exact zJ vC (by first|rfl|(simp;done)|(simp;omega)|fail) (fun _ _ _ _=>rfl)|exact zQ|(simp [CvB,CvL,Cv,uD,geth,yB];done)|fail,?_⟩));exact q):P:=a b
theorem fB {A:Prop} (a:A:=by first|rfl|simp only [Bool.and_false,Bool.false_and,Bool.and_true,Bool.true_and]|exact congrArg AV.bool (Eq.symm (by assumption))):A:=a
theorem cT {A:Prop} (a:A:=by refine gH ?_;repeat (first|exact uO|refine xB (by first|(simp [Cv,CvL,yB];done)|(simp [Cv,CvL,yB,zN];omega)) ?_)):A:=a
theorem bn0 {A Pa Pb:Prop} (pa:Pa) (pb:Pb) (a:Pa->Pb->A:=by intro fa fb;first|(with_reducible trivial)|omega|exact fa|exact fb|(intro g;have q:=fa (by first|exact g|(rw [g];rfl)|simpa using g);first|exact q|exact ⟨q.1,q.2.1⟩|exact q.2.2|omega|exact ⟨g,q⟩|exact ⟨trivial,q⟩|exact ⟨g,q.1,q.2.1⟩|exact ⟨g,q.2.2⟩)|(intro g;have q:=fb (by first|exact g|(rw [g];rfl)|simpa using g);first|exact q|exact ⟨q.1,q.2.1⟩|exact q.2.2|omega|exact ⟨g,q⟩|exact ⟨trivial,q⟩|exact ⟨g,q.1,q.2.1⟩|exact ⟨g,q.2.2⟩)|(intro g;(try have q0:=fa (by first|exact g|(rw [g];rfl)|simpa using g));(try have q1:=fb (by first|exact g|(rw [g];rfl)|simpa using g));and_intros<;>first|(with_reducible trivial)|assumption|exact nfc|(intro g2;rw [g,g2];rfl)|(intro g2;assumption)|(simp only [g,Bool.true_and,Bool.and_true,Bool.not_false,Bool.not_true];assumption)|grind)|(and_intros<;>first|(with_reducible trivial)|omega|assumption|exact nfc|first|exact rfl|exact trivial|exact jF|exact .inr rfl|exact .inl rfl|exact fun x hx=>absurd hx (by omega))|grind):A:=a pa pb
theorem bn1 {A Pa Pb Pc:Prop} (pa:Pa) (pb:Pb) (pc:Pc) (a:Pa->Pb->Pc->A:=by intro fa fb fc;first|(with_reducible trivial)|omega|exact fa|exact fb|exact fc|(intro g;have q:=fa (by first|exact g|(rw [g];rfl)|simpa using g);first|exact q|exact ⟨q.1,q.2.1⟩|exact q.2.2|omega|exact ⟨g,q⟩|exact ⟨trivial,q⟩|exact ⟨g,q.1,q.2.1⟩|exact ⟨g,q.2.2⟩)|(intro g;have q:=fb (by first|exact g|(rw [g];rfl)|simpa using g);first|exact q|exact ⟨q.1,q.2.1⟩|exact q.2.2|omega|exact ⟨g,q⟩|exact ⟨trivial,q⟩|exact ⟨g,q.1,q.2.1⟩|exact ⟨g,q.2.2⟩)|(intro g;have q:=fc (by first|exact g|(rw [g];rfl)|simpa using g);first|exact q|exact ⟨q.1,q.2.1⟩|exact q.2.2|omega|exact ⟨g,q⟩|exact ⟨trivial,q⟩|exact ⟨g,q.1,q.2.1⟩|exact ⟨g,q.2.2⟩)|(intro g;(try have q0:=fa (by first|exact g|(rw [g];rfl)|simpa using g));(try have q1:=fb (by first|exact g|(rw [g];rfl)|simpa using g));(try have q2:=fc (by first|exact g|(rw [g];rfl)|simpa using g));and_intros<;>first|(with_reducible trivial)|assumption|exact nfc|(intro g2;rw [g,g2];rfl)|(intro g2;assumption)|(simp only [g,Bool.true_and,Bool.and_true,Bool.not_false,Bool.not_true];assumption)|grind)|(and_intros<;>first|(with_reducible trivial)|omega|assumption|exact nfc|first|exact rfl|exact trivial|exact jF|exact .inr rfl|exact .inl rfl|exact fun x hx=>absurd hx (by omega))|grind):A:=a pa pb pc
theorem bn2 {A Pa:Prop} (pa:Pa) (a:Pa->A:=by intro fa;first|(with_reducible trivial)|omega|exact fa|(intro g;have q:=fa (by first|exact g|(rw [g];rfl)|simpa using g);first|exact q|exact ⟨q.1,q.2.1⟩|exact q.2.2|omega|exact ⟨g,q⟩|exact ⟨trivial,q⟩|exact ⟨g,q.1,q.2.1⟩|exact ⟨g,q.2.2⟩)|(intro g;(try have q0:=fa (by first|exact g|(rw [g];rfl)|simpa using g));and_intros<;>first|(with_reducible trivial)|assumption|exact nfc|(intro g2;rw [g,g2];rfl)|(intro g2;assumption)|(simp only [g,Bool.true_and,Bool.and_true,Bool.not_false,Bool.not_true];assumption)|grind)|(and_intros<;>first|(with_reducible trivial)|omega|assumption|exact nfc|first|exact rfl|exact trivial|exact jF|exact .inr rfl|exact .inl rfl|exact fun x hx=>absurd hx (by omega))|grind):A:=a pa
theorem bn3 {A Pa:Prop} (pa:Pa) (a:Pa->A:=by intro fa;first|(with_reducible trivial)|omega|exact fa|(intro g;have q:=fa (by first|exact g|(rw [g];rfl)|simpa using g);first|exact q|exact ⟨q.1,q.2.1⟩|exact q.2.2|omega|exact ⟨g,q⟩|exact ⟨trivial,q⟩|exact ⟨g,q.1,q.2.1⟩|exact ⟨g,q.2.2⟩)|grind):A:=a pa
theorem bn4 {A Pa:Prop} (pa:Pa) (a:Pa->A:=by intro fa;first|(with_reducible trivial)|omega|exact fa|(intro g;have q:=fa (by first|exact g|(rw [g];rfl)|simpa using g);first|exact q|exact ⟨q.1,q.2.1⟩|exact q.2.2|omega|exact ⟨g,q⟩|exact ⟨trivial,q⟩|exact ⟨g,q.1,q.2.1⟩|exact ⟨g,q.2.2⟩)|(intro g;(try have q0:=fa (by first|exact g|(rw [g];rfl)|simpa using g));and_intros<;>first|(with_reducible trivial)|assumption|exact nfc|(intro g2;rw [g,g2];rfl)|(intro g2;assumption)|(simp only [g,Bool.true_and,Bool.and_true,Bool.not_false,Bool.not_true];assumption)|grind)|(and_intros<;>first|(with_reducible trivial)|omega|assumption|exact nfc|first|exact rfl|exact trivial|exact jF|exact .inr rfl|exact .inl rfl|exact fun x hx=>absurd hx (by omega)|(intro x hx;(repeat (first|(and_intros<;>(first|exact rfl|exact trivial|exact jF|exact .inr rfl|exact .inl rfl|exact fun x hx=>absurd hx (by omega)))|(exfalso;omega)|(rcases x with _|x)));done))|grind):A:=a pa
theorem bn5 {A Pa Pb Pc:Prop} (pa:Pa) (pb:Pb) (pc:Pc) (a:Pa->Pb->Pc->A:=by intro fa fb fc;first|(with_reducible trivial)|omega|exact fa|exact fb|exact fc|(intro g;have q:=fa (by first|exact g|(rw [g];rfl)|simpa using g);first|exact q|exact ⟨q.1,q.2.1⟩|exact q.2.2|omega|exact ⟨g,q⟩|exact ⟨trivial,q⟩|exact ⟨g,q.1,q.2.1⟩|exact ⟨g,q.2.2⟩)|(intro g;have q:=fb (by first|exact g|(rw [g];rfl)|simpa using g);first|exact q|exact ⟨q.1,q.2.1⟩|exact q.2.2|omega|exact ⟨g,q⟩|exact ⟨trivial,q⟩|exact ⟨g,q.1,q.2.1⟩|exact ⟨g,q.2.2⟩)|(intro g;have q:=fc (by first|exact g|(rw [g];rfl)|simpa using g);first|exact q|exact ⟨q.1,q.2.1⟩|exact q.2.2|omega|exact ⟨g,q⟩|exact ⟨trivial,q⟩|exact ⟨g,q.1,q.2.1⟩|exact ⟨g,q.2.2⟩)|(intro g;(try have q0:=fa (by first|exact g|(rw [g];rfl)|simpa using g));(try have q1:=fb (by first|exact g|(rw [g];rfl)|simpa using g));(try have q2:=fc (by first|exact g|(rw [g];rfl)|simpa using g));and_intros<;>first|(with_reducible trivial)|assumption|exact nfc|(intro g2;rw [g,g2];rfl)|(intro g2;assumption)|(simp only [g,Bool.true_and,Bool.and_true,Bool.not_false,Bool.not_true];assumption)|grind)|(and_intros<;>first|(with_reducible trivial)|omega|assumption|exact nfc|first|exact rfl|exact trivial|exact jF|exact .inr rfl|exact .inl rfl|exact fun x hx=>absurd hx (by omega)|(intro x hx;(repeat (first|(and_intros<;>(first|exact rfl|exact trivial|exact jF|exact .inr rfl|exact .inl rfl|exact fun x hx=>absurd hx (by omega)))|(exfalso;omega)|(rcases x with _|x)));done))|grind):A:=a pa pb pc
theorem bn6 {A Pa Pb Pc:Prop} (pa:Pa) (pb:Pb) (pc:Pc) (a:Pa->Pb->Pc->A:=by intro fa fb fc;first|(with_reducible trivial)|omega|exact fa|exact fb|exact fc|(intro g;have q:=fa (by first|exact g|(rw [g];rfl)|simpa using g);first|exact q|exact ⟨q.1,q.2.1⟩|exact q.2.2|omega|exact ⟨g,q⟩|exact ⟨trivial,q⟩|exact ⟨g,q.1,q.2.1⟩|exact ⟨g,q.2.2⟩)|(intro g;have q:=fb (by first|exact g|(rw [g];rfl)|simpa using g);first|exact q|exact ⟨q.1,q.2.1⟩|exact q.2.2|omega|exact ⟨g,q⟩|exact ⟨trivial,q⟩|exact ⟨g,q.1,q.2.1⟩|exact ⟨g,q.2.2⟩)|(intro g;have q:=fc (by first|exact g|(rw [g];rfl)|simpa using g);first|exact q|exact ⟨q.1,q.2.1⟩|exact q.2.2|omega|exact ⟨g,q⟩|exact ⟨trivial,q⟩|exact ⟨g,q.1,q.2.1⟩|exact ⟨g,q.2.2⟩)|grind):A:=a pa pb pc
theorem bn7 {A Pa Pb:Prop} (pa:Pa) (pb:Pb) (a:Pa->Pb->A:=by intro fa fb;first|(with_reducible trivial)|omega|exact fa|exact fb|(intro g;have q:=fa (by first|exact g|(rw [g];rfl)|simpa using g);first|exact q|exact ⟨q.1,q.2.1⟩|exact q.2.2|omega|exact ⟨g,q⟩|exact ⟨trivial,q⟩|exact ⟨g,q.1,q.2.1⟩|exact ⟨g,q.2.2⟩)|(intro g;have q:=fb (by first|exact g|(rw [g];rfl)|simpa using g);first|exact q|exact ⟨q.1,q.2.1⟩|exact q.2.2|omega|exact ⟨g,q⟩|exact ⟨trivial,q⟩|exact ⟨g,q.1,q.2.1⟩|exact ⟨g,q.2.2⟩)|grind):A:=a pa pb
def F15 (p0:List TRegulateChannel):Option (List TRegulateChannel) :=
 need (capb 24 p0.length) <| some p0
def dN:List AV->List ABlk->ED
 | [v0],h=>(fun z0=>.ed [] (lK zZ 3 (roD (zH h []) v0)/\xJ (zH h []) v0/\z0.isSome=true) (.sl 0 3 0 (gt z0).length false) [.row 35 3 (gt z0).length (enR c_TRegulateChannel (gt z0))]) (F15 (lA g_TRegulateChannel (roD (zH h []) v0)))
 | _,_=>.fail
theorem ok15:FnOk Tryz.prog 15 (edC dN):=by
 refine xO dN (rs:=[.tmp 2]) Tryz.func15 (by kernel_rfl) rfl rfl ?_
 intro l h bs ob q0 g0 hb hob
 unfold dN at hb
 dsimp only at hb
 split at hb
 ·rename_i v0
  injection hb with q1 q2 q3 q4;subst q1 q2 q3 q4
  obtain ⟨hk0,hk1,hob⟩:=hob
  obtain ⟨r,H⟩:=oE.1 hob
  rw [H,zN]
  have hw0:=lK_wk (fun r h=>yH h) hk0
  generalize lA g_TRegulateChannel (roD (zH h []) v0)=p0 at H hw0
  unfold F15 at H
  obtain ⟨f1,H⟩:=nC H
  obtain rfl:=Option.some.inj H
  refine ⟨[.ro 3 p0.length false (enR c_TRegulateChannel p0)],[],rfl,⟨yR hk1 hw0,trivial⟩,trivial,trivial,⟨yY zI,trivial⟩,⟨zW,trivial⟩,(by simp only [noro]),?_⟩
  rw [Tryz.ntmps15]
  simp only [lC,lN,Nat.reduceAdd,Nat.reduceSub,rS,rZ,aC,aN]
  refine rg zA ?_
  have nfs:∀ x y,nref (enR c_TRegulateChannel p0 x y):=fun x y=>nfR_en zI
  generalize hc:enR c_TRegulateChannel p0=c at nfs hw0
  cases hn:p0.length with
  | zero =>
   simp only [go_sem,Nat.reduceLeDiff,Nat.reduceAdd]
   have hp:p0=[]:=List.eq_nil_of_length_eq_zero hn
   subst hp;subst hc
   refine ⟨?_,?_⟩
   ·refine yE [] [none] ?_ ?_ ?_ ?_ (by rfl) (by rfl)
    ·simp only [wJ]
    ·simp only [tU]
    ·simp [fzV,Cv]
    ·simp only [fzH,dB,and_true,CvH,and_true];exact zQ
   ·refine ⟨by omega,yE [] [some 1] ?_ ?_ ?_ ?_ (by rfl) (by rfl)⟩
    ·simp only [Nat.add_zero,wJ,inL,bT,geth,cond_false,true_and,Nat.zero_add,Nat.le_refl]
    ·simp only [bE,tU,and_self]
    ·simp [fzV,inL,Cv,yB]
    ·simp only [fzH,dB,fzB,inL,cond_false,and_true,CvH,and_true];exact CvB_row0 zI
  | succ m =>
   simp only [go_sem,Nat.reduceLeDiff,Nat.reduceAdd,reduceCtorEq]
   refine ⟨by omega,yE [] [some 1] ?_ ?_ ?_ ?_ (by rfl) (by rfl)⟩
   ·simp only [wJ,inL,bT,geth,cond_false,true_and,Nat.zero_add,Nat.le_refl]
   ·simp only [bE,tU,and_self]
   ·simp [fzV,inL,Cv,yB]
   ·simp only [fzH,dB,fzB,inL,cond_false,and_true,CvH,and_true];rw [← hn,← hc];exact zJ zI rfl (fun x y hx hy=>by simp only [uL,Nat.not_lt_zero,if_false,Nat.sub_zero])
 ·cases hb
def F34 (p0:TRegulateChannel):Option (Bool) :=
 some ((((bLt p0.Number 1) || (bLt 255 p0.Number)) || (bLt p0.Max 0)) || (bLt 400 p0.Max))
def body34:List AV->AR
 | [v0]=>.pure (aK 3 zZ v0/\(F34 (g_TRegulateChannel (aL v0))).isSome=true) (.bool (gt (F34 (g_TRegulateChannel (aL v0)))))
 | _=>.fail
theorem ok34:FnOk Tryz.prog 34 (pureC body34):=by
 refine yM body34 (rs:=[.tmp 2]) Tryz.func34 (by kernel_rfl) rfl rfl ?_
 intro l ob v hb hob
 unfold body34 at hb
 split at hb
 ·rename_i v0
  injection hb with q1 q2;subst q1 q2
  obtain ⟨hk0_0,hob⟩:=hob
  obtain ⟨r,H⟩:=oE.1 hob
  rw [H,zN]
  have hw0:=qC hk0_0
  generalize g_TRegulateChannel (aL v0)=p0 at H hw0
  refine ⟨[.agg [.int .i64 p0.Number,.int .i64 p0.Max,.bool p0.Radar]],_,(fun E vs F=>yC hw0.1 F (fun vs F=>F)),rfl,rfl,?_⟩
  rw [Tryz.ntmps34]
  simp only [lC,lN,Nat.reduceAdd,Nat.reduceSub,rS,rZ,aC,aN]
  unfold F34 at H
  try dsimp only at H
  refine sq zA ?_
  simp only [go_sem]
  refine sq zA ?_
  simp only [go_sem,Nat.reduceLeDiff,Nat.reduceLT,Nat.reduceAdd]
  repeat ((with_reducible refine aI ?_ ?_);exact an4)
  refine rg zA ?_
  simp only [go_sem]
  obtain rfl:=Option.some.inj H
  exact fB
 ·cases hb
def ct71_0t0:Ct:=tab [(34,pureC body34)]
theorem ct71_0t0_ok:yP Tryz.prog ct71_0t0:=zE ok34 <| zO
theorem ct71_0t0_34 (l:List AV) (h:List ABlk):ct71_0t0 34 l h=pureC body34 l h:=rfl
def F71_0_L1 (p0:List TRegulateChannel) (v1_1:Int):Option (Lp (Int) ((Unit) ⊕ (Int))) :=
 bif (bLt v1_1 (p0.length:Nat)) then (need (inb v1_1 p0.length) <| (F34 (gd p0 v1_1.toNat)).bind fun r3=>bif r3 then (some (.done (.inr v1_1))) else (some (.next (wr .i64 (v1_1+1))))) else (some (.done (.inl ())))
def F71_0 (p0:List TRegulateChannel):Option (Int) :=
 lp (yF (fun s=>F71_0_L1 p0 s) 0) (fun _=>some (-1)) some
def eR:List AV->AR
 | [v0,.fn 34 []]=>.pure (lK zZ 3 v0/\(F71_0 (lA g_TRegulateChannel v0)).isSome=true) (.int .i64 (gt (F71_0 (lA g_TRegulateChannel v0))))
 | _=>.fail
theorem ok71_0:FnOk Tryz.prog 71 (pureC eR):=by
 refine yM eR (rs:=[.tmp 4]) Tryz.func71 (by kernel_rfl) rfl rfl ?_
 intro l ob v hb hob
 unfold eR at hb
 split at hb
 ·rename_i v0
  injection hb with q1 q2;subst q1 q2
  obtain ⟨hk0_0,hob⟩:=hob
  obtain ⟨r,H⟩:=oE.1 hob
  rw [H,zN]
  have hw0:=lK_wk (fun r h=>yH h) hk0_0
  generalize lA g_TRegulateChannel v0=p0 at H hw0
  refine ⟨[.ro 3 p0.length false (enR c_TRegulateChannel p0),.fn 34 []],_,(fun E vs F=>yC hw0.1 F (fun vs F=>yC (fn_wk fU) F (fun vs F=>F))),rfl,rfl,?_⟩
  rw [Tryz.ntmps71]
  simp only [lC,lN,Nat.reduceAdd,Nat.reduceSub,rS,rZ,aC,aN]
  unfold F71_0 at H
  try dsimp only at H
  refine sq zA ?_
  simp only [go_sem]
  refine zC ?_
  refine sq zA ?_
  simp only [go_sem]
  repeat ((with_reducible refine aI ?_ ?_);exact an0)
  refine xN ?_
  refine xP (fun s:Int=>(.ro 3 p0.length false (enR c_TRegulateChannel p0)::.fn 34 []::tp 5 (.int .i64 (p0.length:Nat)::.int .i64 s::tp 10 []))) (fun s=>[]) (fun e:Unit=>(tp 19 [])) (fun e=>[]) H ?_ (fun v1_1 o H hn1_1 hn2_1=>?_) (fun e H=>?_)
  ·refine xI ⟨[],?_,?_,by rfl,by rfl⟩
   ·simp [CvL,Cv,tp]
   ·trivial
  ·unfold F71_0_L1 at H
   try dsimp only at H ⊢
   try simp only [tp]
   refine sq zA ?_
   simp only [go_sem]
   refine zC ?_
   refine condM' rfl trivial (fun hc=>?_) (fun hc=>?_)
   ·have hk1:(bLt v1_1 (p0.length:Nat))=false:=by simpa using hc
    replace H:=zK hc H
    refine rg zA ?_
    simp only [go_sem]
    refine ⟨_,(Option.some.inj H).symm,?_⟩
    refine xI ⟨[],?_,?_,by rfl,by rfl⟩
    ·simp [CvL,Cv]
    ·trivial
   have hk1:(bLt v1_1 (p0.length:Nat))=true:=by simpa using hc
   replace H:=zL hc H
   refine rg zA ?_
   simp only [go_sem]
   refine zC ?_
   refine xN ?_
   refine sq zA ?_
   simp only [go_sem]
   refine zC ?_
   obtain ⟨f2,H⟩:=nI H
   obtain ⟨r3,e4,H⟩:=bsi H
   refine rg ct71_0t0_ok ?_
   simp only [go_sem,Nat.reduceLT,Nat.reduceAdd,ct71_0t0_34,body34,f2,e4]
   repeat ((with_reducible refine aI ?_ ?_);exact an0)
   refine zX rfl trivial (fun hc=>?_) (fun hc=>?_)
   ·have hk5:(r3)=true:=by simpa using hc
    replace H:=zL hc H
    refine sq zA ?_
    simp only [go_sem]
    refine rg zA ?_
    simp only [go_sem]
    have H:=hn2_1 _ (Option.some.inj H).symm
    obtain rfl:=Option.some.inj H
    exact fB
   have hk5:(r3)=false:=by simpa using hc
   replace H:=zK hc H
   refine rg zA ?_
   simp only [go_sem]
   refine rg zA ?_
   simp only [go_sem]
   refine ⟨_,(Option.some.inj H).symm,?_⟩
   refine xI ⟨[],?_,?_,by rfl,by rfl⟩
   ·simp [CvL,Cv]
   ·trivial
  ·try dsimp only at H ⊢
   try simp only [tp]
   try simp only [yS]
   refine sq zA ?_
   simp only [go_sem]
   refine rg zA ?_
   simp only [go_sem]
   obtain rfl:=Option.some.inj H
   exact fB
 ·cases hb
def ct35_0t0:Ct:=tab [(71,pureC eR)]
theorem ct35_0t0_ok:yP Tryz.prog ct35_0t0:=zE ok71_0 <| zO
theorem ct35_0t0_71 (l:List AV) (h:List ABlk):ct35_0t0 71 l h=pureC eR l h:=rfl
def F35_0 (p0:List TRegulateChannel):Option (Bool) :=
 (F71_0 p0).bind fun r1=>some (bLe 0 r1)
def eG:List AV->AR
 | [v0,.fn 34 []]=>.pure (lK zZ 3 v0/\(F35_0 (lA g_TRegulateChannel v0)).isSome=true) (.bool (gt (F35_0 (lA g_TRegulateChannel v0))))
 | _=>.fail
theorem ok35_0:FnOk Tryz.prog 35 (pureC eG):=by
 refine yM eG (rs:=[.tmp 4]) Tryz.func35 (by kernel_rfl) rfl rfl ?_
 intro l ob v hb hob
 unfold eG at hb
 split at hb
 ·rename_i v0
  injection hb with q1 q2;subst q1 q2
  obtain ⟨hk0_0,hob⟩:=hob
  obtain ⟨r,H⟩:=oE.1 hob
  rw [H,zN]
  have hw0:=lK_wk (fun r h=>yH h) hk0_0
  generalize lA g_TRegulateChannel v0=p0 at H hw0
  refine ⟨[.ro 3 p0.length false (enR c_TRegulateChannel p0),.fn 34 []],_,(fun E vs F=>yC hw0.1 F (fun vs F=>yC (fn_wk fU) F (fun vs F=>F))),rfl,rfl,?_⟩
  rw [Tryz.ntmps35]
  simp only [lC,lN,Nat.reduceAdd,Nat.reduceSub,rS,rZ,aC,aN]
  unfold F35_0 at H
  try dsimp only at H
  refine sq zA ?_
  simp only [go_sem]
  refine zC ?_
  obtain ⟨r1,e2,H⟩:=bsi H
  refine rg ct35_0t0_ok ?_
  simp only [go_sem,ct35_0t0_71,eR,e2]
  repeat ((with_reducible refine aI ?_ ?_);exact an0)
  refine rg zA ?_
  simp only [go_sem]
  obtain rfl:=Option.some.inj H
  exact fB
 ·cases hb
def F37 (p0:TRegulateChannel):Option (Int) :=
 some p0.Number
def body37:List AV->AR
 | [v0]=>.pure (aK 3 zZ v0/\(F37 (g_TRegulateChannel (aL v0))).isSome=true) (.int .i64 (gt (F37 (g_TRegulateChannel (aL v0)))))
 | _=>.fail
theorem ok37:FnOk Tryz.prog 37 (pureC body37):=by
 refine yM body37 (rs:=[.tmp 2]) Tryz.func37 (by kernel_rfl) rfl rfl ?_
 intro l ob v hb hob
 unfold body37 at hb
 split at hb
 ·rename_i v0
  injection hb with q1 q2;subst q1 q2
  obtain ⟨hk0_0,hob⟩:=hob
  obtain ⟨r,H⟩:=oE.1 hob
  rw [H,zN]
  have hw0:=qC hk0_0
  generalize g_TRegulateChannel (aL v0)=p0 at H hw0
  refine ⟨[.agg [.int .i64 p0.Number,.int .i64 p0.Max,.bool p0.Radar]],_,(fun E vs F=>yC hw0.1 F (fun vs F=>F)),rfl,rfl,?_⟩
  rw [Tryz.ntmps37]
  simp only [lC,lN,Nat.reduceAdd,Nat.reduceSub,rS,rZ,aC,aN]
  unfold F37 at H
  try dsimp only at H
  refine sq zA ?_
  simp only [go_sem]
  refine sq zA ?_
  simp only [go_sem,Nat.reduceLeDiff,Nat.reduceLT,Nat.reduceAdd]
  repeat ((with_reducible refine aI ?_ ?_);exact an4)
  refine rg zA ?_
  simp only [go_sem]
  obtain rfl:=Option.some.inj H
  exact fB
 ·cases hb
def ct36_0t0:Ct:=tab [(37,pureC body37)]
theorem ct36_0t0_ok:yP Tryz.prog ct36_0t0:=zE ok37 <| zO
theorem ct36_0t0_37 (l:List AV) (h:List ABlk):ct36_0t0 37 l h=pureC body37 l h:=rfl
def F36_0_L1 (p0:List TRegulateChannel) (v1_1:Int):Option (Lp (Int) ((Unit) ⊕ (Bool))) :=
 bif (bLt v1_1 (p0.length:Nat)) then (need (inb v1_1 p0.length) <| (F37 (gd p0 v1_1.toNat)).bind fun r3=>need (inb (wr .i64 (v1_1 - 1)) p0.length) <| (F37 (gd p0 ((wr .i64 (v1_1 - 1)).toNat))).bind fun r6=>bif (bLe r3 r6) then (some (.done (.inr false))) else (some (.next (wr .i64 (v1_1+1))))) else (some (.done (.inl ())))
def F36_0 (p0:List TRegulateChannel):Option (Bool) :=
 lp (yF (fun s=>F36_0_L1 p0 s) 1) (fun _=>some true) some
def eH:List AV->AR
 | [v0,.fn 37 []]=>.pure (lK zZ 3 v0/\(F36_0 (lA g_TRegulateChannel v0)).isSome=true) (.bool (gt (F36_0 (lA g_TRegulateChannel v0))))
 | _=>.fail
theorem ok36_0:FnOk Tryz.prog 36 (pureC eH):=by
 refine yM eH (rs:=[.tmp 4]) Tryz.func36 (by kernel_rfl) rfl rfl ?_
 intro l ob v hb hob
 unfold eH at hb
 split at hb
 ·rename_i v0
  injection hb with q1 q2;subst q1 q2
  obtain ⟨hk0_0,hob⟩:=hob
  obtain ⟨r,H⟩:=oE.1 hob
  rw [H,zN]
  have hw0:=lK_wk (fun r h=>yH h) hk0_0
  generalize lA g_TRegulateChannel v0=p0 at H hw0
  refine ⟨[.ro 3 p0.length false (enR c_TRegulateChannel p0),.fn 37 []],_,(fun E vs F=>yC hw0.1 F (fun vs F=>yC (fn_wk fU) F (fun vs F=>F))),rfl,rfl,?_⟩
  rw [Tryz.ntmps36]
  simp only [lC,lN,Nat.reduceAdd,Nat.reduceSub,rS,rZ,aC,aN]
  unfold F36_0 at H
  try dsimp only at H
  refine sq zA ?_
  simp only [go_sem]
  refine zC ?_
  refine sq zA ?_
  simp only [go_sem]
  refine xN ?_
  refine xP (fun s:Int=>(.ro 3 p0.length false (enR c_TRegulateChannel p0)::.fn 37 []::.top::.top::.top::.int .i64 s::tp 20 [])) (fun s=>[]) (fun e:Unit=>(tp 26 [])) (fun e=>[]) H ?_ (fun v1_1 o H hn1_1 hn2_1=>?_) (fun e H=>?_)
  ·refine xI ⟨[],?_,?_,by rfl,by rfl⟩
   ·simp [CvL,Cv,tp]
   ·trivial
  ·unfold F36_0_L1 at H
   try dsimp only at H ⊢
   try simp only [tp]
   refine zC ?_
   refine sq zA ?_
   simp only [go_sem]
   repeat ((with_reducible refine aI ?_ ?_);exact an0)
   refine condM' rfl trivial (fun hc=>?_) (fun hc=>?_)
   ·have hk1:(bLt v1_1 (p0.length:Nat))=false:=by simpa using hc
    replace H:=zK hc H
    refine rg zA ?_
    simp only [go_sem]
    refine ⟨_,(Option.some.inj H).symm,?_⟩
    refine xI ⟨[],?_,?_,by rfl,by rfl⟩
    ·simp [CvL,Cv]
    ·trivial
   have hk1:(bLt v1_1 (p0.length:Nat))=true:=by simpa using hc
   replace H:=zL hc H
   refine rg zA ?_
   simp only [go_sem]
   refine zC ?_
   refine xN ?_
   refine zC ?_
   obtain ⟨f2,H⟩:=nI H
   obtain ⟨r3,e4,H⟩:=bsi H
   obtain ⟨f5,H⟩:=nI H
   obtain ⟨r6,e7,H⟩:=bsi H
   refine xZ zU ct36_0t0_ok (by kernel_rfl) (by kernel_rfl) ?_
   simp only [go_sem,Nat.reduceLT,Nat.reduceAdd,ct36_0t0_37,body37,f2,e4,f5,e7]
   repeat ((with_reducible refine aI ?_ ?_);exact an0)
   refine zX rfl trivial (fun hc=>?_) (fun hc=>?_)
   ·have hk8:(bLe r3 r6)=true:=by simpa using hc
    replace H:=zL hc H
    refine sq zA ?_
    simp only [go_sem]
    refine rg zA ?_
    simp only [go_sem]
    have H:=hn2_1 _ (Option.some.inj H).symm
    obtain rfl:=Option.some.inj H
    exact fB
   have hk8:(bLe r3 r6)=false:=by simpa using hc
   replace H:=zK hc H
   refine rg zA ?_
   simp only [go_sem]
   refine rg zA ?_
   simp only [go_sem]
   refine ⟨_,(Option.some.inj H).symm,?_⟩
   refine xI ⟨[],?_,?_,by rfl,by rfl⟩
   ·simp [CvL,Cv]
   ·trivial
  ·try dsimp only at H ⊢
   try simp only [tp]
   try simp only [yS]
   refine sq zA ?_
   simp only [go_sem]
   refine rg zA ?_
   simp only [go_sem]
   obtain rfl:=Option.some.inj H
   exact fB
 ·cases hb
def ct16t0:Ct:=tab [(35,pureC eG),(36,pureC eH)]
theorem ct16t0_ok:yP Tryz.prog ct16t0:=zE ok35_0 <| zE ok36_0 <| zO
theorem ct16t0_35 (l:List AV) (h:List ABlk):ct16t0 35 l h=pureC eG l h:=rfl
theorem ct16t0_36 (l:List AV) (h:List ABlk):ct16t0 36 l h=pureC eH l h:=rfl
def F16 (p0:List TRegulateChannel):Option (Bool) :=
 need (bif ((bLe 2 (p0.length:Nat)) && (bLe (p0.length:Nat) 16)) then ((F35_0 p0).isSome) else true) <| need (bif (((bLe 2 (p0.length:Nat)) && (bLe (p0.length:Nat) 16)) && (!(gt (F35_0 p0)))) then ((F36_0 p0).isSome) else true) <| some ((((bLe 2 (p0.length:Nat)) && (bLe (p0.length:Nat) 16)) && (!(gt (F35_0 p0)))) && (gt (F36_0 p0)))
def dO:List AV->AR
 | [v0]=>.pure (lK zZ 3 v0/\(F16 (lA g_TRegulateChannel v0)).isSome=true) (.bool (gt (F16 (lA g_TRegulateChannel v0))))
 | _=>.fail
theorem ok16:FnOk Tryz.prog 16 (pureC dO):=by
 refine yM dO (rs:=[.tmp 2]) Tryz.func16 (by kernel_rfl) rfl rfl ?_
 intro l ob v hb hob
 unfold dO at hb
 split at hb
 ·rename_i v0
  injection hb with q1 q2;subst q1 q2
  obtain ⟨hk0_0,hob⟩:=hob
  obtain ⟨r,H⟩:=oE.1 hob
  rw [H,zN]
  have hw0:=lK_wk (fun r h=>yH h) hk0_0
  generalize lA g_TRegulateChannel v0=p0 at H hw0
  refine ⟨[.ro 3 p0.length false (enR c_TRegulateChannel p0)],_,(fun E vs F=>yC hw0.1 F (fun vs F=>F)),rfl,rfl,?_⟩
  rw [Tryz.ntmps16]
  simp only [lC,lN,Nat.reduceAdd,Nat.reduceSub,rS,rZ,aC,aN]
  unfold F16 at H
  try dsimp only at H
  refine sq zA ?_
  simp only [go_sem]
  refine sq zA ?_
  simp only [go_sem]
  refine zC ?_
  obtain ⟨f1,H⟩:=zP.1 H
  replace f1:=xR.1 f1
  obtain ⟨f2,H⟩:=zP.1 H
  replace f2:=xR.1 f2
  refine rg ct16t0_ok ?_
  simp only [go_sem,ct16t0_35,eG,ct16t0_36,eH]
  repeat ((with_reducible refine And.intro ?_ ?_);focus exact bn0 f1 f2)
  refine rg zA ?_
  simp only [go_sem]
  obtain rfl:=Option.some.inj H
  exact fB
 ·cases hb
def F17 (p0:Int):Option (Bool) :=
 some ((bLt p0 0) || (bLt 1099511627776 p0))
def tW:List AV->AR
 | [v0]=>.pure (iK .i64 v0/\(F17 (iA v0)).isSome=true) (.bool (gt (F17 (iA v0))))
 | _=>.fail
theorem ok17:FnOk Tryz.prog 17 (pureC tW):=by
 refine yM tW (rs:=[.tmp 2]) Tryz.func17 (by kernel_rfl) rfl rfl ?_
 intro l ob v hb hob
 unfold tW at hb
 split at hb
 ·rename_i v0
  injection hb with q1 q2;subst q1 q2
  obtain ⟨hk0_0,hob⟩:=hob
  obtain ⟨r,H⟩:=oE.1 hob
  rw [H,zN]
  have hw0:=iK_wk hk0_0
  generalize iA v0=p0 at H hw0
  refine ⟨[.int .i64 p0],_,(fun E vs F=>yC hw0.1 F (fun vs F=>F)),rfl,rfl,?_⟩
  rw [Tryz.ntmps17]
  simp only [lC,lN,Nat.reduceAdd,Nat.reduceSub,rS,rZ,aC,aN]
  unfold F17 at H
  try dsimp only at H
  refine sq zA ?_
  simp only [go_sem]
  refine sq zA ?_
  simp only [go_sem]
  repeat ((with_reducible refine aI ?_ ?_);exact an4)
  refine rg zA ?_
  simp only [go_sem]
  obtain rfl:=Option.some.inj H
  exact fB
 ·cases hb
def F92 (p0:Int):Option (Bool) :=
 some (!bEq p0 p0)
def body92:List AV->AR
 | [v0]=>.pure (iK .i64 v0/\(F92 (iA v0)).isSome=true) (.bool (gt (F92 (iA v0))))
 | _=>.fail
theorem ok92:FnOk Tryz.prog 92 (pureC body92):=by
 refine yM body92 (rs:=[.tmp 2]) Tryz.func92 (by kernel_rfl) rfl rfl ?_
 intro l ob v hb hob
 unfold body92 at hb
 split at hb
 ·rename_i v0
  injection hb with q1 q2;subst q1 q2
  obtain ⟨hk0_0,hob⟩:=hob
  obtain ⟨r,H⟩:=oE.1 hob
  rw [H,zN]
  have hw0:=iK_wk hk0_0
  generalize iA v0=p0 at H hw0
  refine ⟨[.int .i64 p0],_,(fun E vs F=>yC hw0.1 F (fun vs F=>F)),rfl,rfl,?_⟩
  rw [Tryz.ntmps92]
  simp only [lC,lN,Nat.reduceAdd,Nat.reduceSub,rS,rZ,aC,aN]
  unfold F92 at H
  try dsimp only at H
  refine sq zA ?_
  simp only [go_sem]
  refine sq zA ?_
  simp only [go_sem]
  refine rg zA ?_
  simp only [go_sem]
  obtain rfl:=Option.some.inj H
  exact fB
 ·cases hb
def ct72t0:Ct:=tab [(92,pureC body92)]
theorem ct72t0_ok:yP Tryz.prog ct72t0:=zE ok92 <| zO
theorem ct72t0_92 (l:List AV) (h:List ABlk):ct72t0 92 l h=pureC body92 l h:=rfl
def F72 (p0:Int) (p1:Int):Option (Int) :=
 (F92 p0).bind fun r1=>(F92 p1).bind fun r3=>bif r1 then (bif r3 then (some 0) else (some (-1))) else (bif r3 then (some 1) else (bif (bLt p0 p1) then (some (-1)) else (bif (bLt p1 p0) then (some 1) else (some 0))))
def dT:List AV->AR
 | [v0,v1]=>.pure (iK .i64 v0/\iK .i64 v1/\(F72 (iA v0) (iA v1)).isSome=true) (.int .i64 (gt (F72 (iA v0) (iA v1))))
 | _=>.fail
theorem ok72:FnOk Tryz.prog 72 (pureC dT):=by
 refine yM dT (rs:=[.tmp 4]) Tryz.func72 (by kernel_rfl) rfl rfl ?_
 intro l ob v hb hob
 unfold dT at hb
 split at hb
 ·rename_i v0 v1
  injection hb with q1 q2;subst q1 q2
  obtain ⟨hk0_0,hk1_0,hob⟩:=hob
  obtain ⟨r,H⟩:=oE.1 hob
  rw [H,zN]
  have hw0:=iK_wk hk0_0
  have hw1:=iK_wk hk1_0
  generalize iA v0=p0 at H hw0
  generalize iA v1=p1 at H hw1
  refine ⟨[.int .i64 p0,.int .i64 p1],_,(fun E vs F=>yC hw0.1 F (fun vs F=>yC hw1.1 F (fun vs F=>F))),rfl,rfl,?_⟩
  rw [Tryz.ntmps72]
  simp only [lC,lN,Nat.reduceAdd,Nat.reduceSub,rS,rZ,aC,aN]
  unfold F72 at H
  try dsimp only at H
  refine sq zA ?_
  simp only [go_sem]
  refine zC ?_
  obtain ⟨r1,e2,H⟩:=bsi H
  refine rg ct72t0_ok ?_
  simp only [go_sem,ct72t0_92,body92,e2]
  repeat ((with_reducible refine aI ?_ ?_);exact an0)
  refine zC ?_
  obtain ⟨r3,e4,H⟩:=bsi H
  refine rg ct72t0_ok ?_
  simp only [go_sem,ct72t0_92,body92,e4]
  repeat ((with_reducible refine aI ?_ ?_);exact an0)
  refine zC ?_
  refine sq zA ?_
  simp only [go_sem]
  refine zX rfl trivial (fun hc=>?_) (fun hc=>?_)
  ·have hk5:(r1)=true:=by simpa using hc
   replace H:=zL hc H
   refine zC ?_
   refine sq zA ?_
   simp only [go_sem]
   refine zX rfl trivial (fun hc=>?_) (fun hc=>?_)
   ·have hk6:(r3)=true:=by simpa using hc
    replace H:=zL hc H
    refine sq zA ?_
    simp only [go_sem]
    refine rg zA ?_
    simp only [go_sem]
    obtain rfl:=Option.some.inj H
    exact fB
   have hk6:(r3)=false:=by simpa using hc
   replace H:=zK hc H
   refine rg zA ?_
   simp only [go_sem]
   refine sq zA ?_
   simp only [go_sem]
   refine rg zA ?_
   simp only [go_sem]
   obtain rfl:=Option.some.inj H
   exact fB
  have hk5:(r1)=false:=by simpa using hc
  replace H:=zK hc H
  refine rg zA ?_
  simp only [go_sem]
  refine zC ?_
  refine sq zA ?_
  simp only [go_sem]
  refine zX rfl trivial (fun hc=>?_) (fun hc=>?_)
  ·have hk7:(r3)=true:=by simpa using hc
   replace H:=zL hc H
   refine sq zA ?_
   simp only [go_sem]
   refine rg zA ?_
   simp only [go_sem]
   obtain rfl:=Option.some.inj H
   exact fB
  have hk7:(r3)=false:=by simpa using hc
  replace H:=zK hc H
  refine rg zA ?_
  simp only [go_sem]
  refine zC ?_
  refine sq zA ?_
  simp only [go_sem]
  refine zX rfl trivial (fun hc=>?_) (fun hc=>?_)
  ·have hk8:(bLt p0 p1)=true:=by simpa using hc
   replace H:=zL hc H
   refine sq zA ?_
   simp only [go_sem]
   refine rg zA ?_
   simp only [go_sem]
   obtain rfl:=Option.some.inj H
   exact fB
  have hk8:(bLt p0 p1)=false:=by simpa using hc
  replace H:=zK hc H
  refine rg zA ?_
  simp only [go_sem]
  refine zC ?_
  refine sq zA ?_
  simp only [go_sem]
  refine zX rfl trivial (fun hc=>?_) (fun hc=>?_)
  ·have hk9:(bLt p1 p0)=true:=by simpa using hc
   replace H:=zL hc H
   refine sq zA ?_
   simp only [go_sem]
   refine rg zA ?_
   simp only [go_sem]
   obtain rfl:=Option.some.inj H
   exact fB
  have hk9:(bLt p1 p0)=false:=by simpa using hc
  replace H:=zK hc H
  refine rg zA ?_
  simp only [go_sem]
  refine sq zA ?_
  simp only [go_sem]
  refine rg zA ?_
  simp only [go_sem]
  obtain rfl:=Option.some.inj H
  exact fB
 ·cases hb
def ct39t0:Ct:=tab [(72,pureC dT)]
theorem ct39t0_ok:yP Tryz.prog ct39t0:=zE ok72 <| zO
theorem ct39t0_72 (l:List AV) (h:List ABlk):ct39t0 72 l h=pureC dT l h:=rfl
def F39 (p0:TRegulateChannel) (p1:Int):Option (Int) :=
 (F72 p0.Number p1).bind fun r1=>some r1
def body39:List AV->AR
 | [v0,v1]=>.pure (aK 3 zZ v0/\iK .i64 v1/\(F39 (g_TRegulateChannel (aL v0)) (iA v1)).isSome=true) (.int .i64 (gt (F39 (g_TRegulateChannel (aL v0)) (iA v1))))
 | _=>.fail
theorem ok39:FnOk Tryz.prog 39 (pureC body39):=by
 refine yM body39 (rs:=[.tmp 4]) Tryz.func39 (by kernel_rfl) rfl rfl ?_
 intro l ob v hb hob
 unfold body39 at hb
 split at hb
 ·rename_i v0 v1
  injection hb with q1 q2;subst q1 q2
  obtain ⟨hk0_0,hk1_0,hob⟩:=hob
  obtain ⟨r,H⟩:=oE.1 hob
  rw [H,zN]
  have hw0:=qC hk0_0
  have hw1:=iK_wk hk1_0
  generalize g_TRegulateChannel (aL v0)=p0 at H hw0
  generalize iA v1=p1 at H hw1
  refine ⟨[.agg [.int .i64 p0.Number,.int .i64 p0.Max,.bool p0.Radar],.int .i64 p1],_,(fun E vs F=>yC hw0.1 F (fun vs F=>yC hw1.1 F (fun vs F=>F))),rfl,rfl,?_⟩
  rw [Tryz.ntmps39]
  simp only [lC,lN,Nat.reduceAdd,Nat.reduceSub,rS,rZ,aC,aN]
  unfold F39 at H
  try dsimp only at H
  refine sq zA ?_
  simp only [go_sem]
  refine zC ?_
  obtain ⟨r1,e2,H⟩:=bsi H
  refine rg ct39t0_ok ?_
  simp only [go_sem,Nat.reduceLeDiff,Nat.reduceLT,Nat.reduceAdd,ct39t0_72,dT,e2]
  repeat ((with_reducible refine aI ?_ ?_);exact an0)
  refine rg zA ?_
  simp only [go_sem]
  obtain rfl:=Option.some.inj H
  exact fB
 ·cases hb
def ct38_0t0:Ct:=tab [(39,pureC body39)]
theorem ct38_0t0_ok:yP Tryz.prog ct38_0t0:=zE ok39 <| zO
theorem ct38_0t0_39 (l:List AV) (h:List ABlk):ct38_0t0 39 l h=pureC body39 l h:=rfl
def F38_0_L1 (p0:List TRegulateChannel) (p1:Int) (v1_1:Int) (v1_2:Int):Option (Lp (Int × Int) ((Int) ⊕ (Int × Bool))) :=
 bif (bLt v1_1 v1_2) then (need (inb (wr .i64 (wW .u64 (wr .u64 (wr .i64 (v1_1+v1_2))) 1)) p0.length) <| (F39 (gd p0 ((wr .i64 (wW .u64 (wr .u64 (wr .i64 (v1_1+v1_2))) 1)).toNat)) p1).bind fun r3=>bif (bLt r3 0) then (some (.next (wr .i64 ((wr .i64 (wW .u64 (wr .u64 (wr .i64 (v1_1+v1_2))) 1))+1),v1_2))) else (some (.next (v1_1,wr .i64 (wW .u64 (wr .u64 (wr .i64 (v1_1+v1_2))) 1))))) else (some (.done (.inl v1_1)))
def F38_0 (p0:List TRegulateChannel) (p1:Int):Option (Int × Bool) :=
 lp (yF (fun s=>F38_0_L1 p0 p1 s.1 s.2) (0,(p0.length:Nat))) (fun w1_3=>need (bif (bLt w1_3 (p0.length:Nat)) then inb w1_3 p0.length else true) <| need (bif (bLt w1_3 (p0.length:Nat)) then ((F39 (gd p0 w1_3.toNat) p1).isSome) else true) <| some (w1_3,((bLt w1_3 (p0.length:Nat)) && (bEq (gt (F39 (gd p0 w1_3.toNat) p1)) 0)))) some
def qV:List AV->AR
 | [v0,v1,.fn 39 []]=>.pure (lK zZ 3 v0/\iK .i64 v1/\(F38_0 (lA g_TRegulateChannel v0) (iA v1)).isSome=true) (.tup [.int .i64 ((gt (F38_0 (lA g_TRegulateChannel v0) (iA v1))).1),.bool ((gt (F38_0 (lA g_TRegulateChannel v0) (iA v1))).2)])
 | _=>.fail
theorem ok38_0:FnOk Tryz.prog 38 (pureC qV):=by
 refine yM qV (rs:=[.tmp 6,.tmp 7]) Tryz.func38 (by kernel_rfl) rfl rfl ?_
 intro l ob v hb hob
 unfold qV at hb
 split at hb
 ·rename_i v0 v1
  injection hb with q1 q2;subst q1 q2
  obtain ⟨hk0_0,hk1_0,hob⟩:=hob
  obtain ⟨r,H⟩:=oE.1 hob
  rw [H,zN]
  have hw0:=lK_wk (fun r h=>yH h) hk0_0
  have hw1:=iK_wk hk1_0
  generalize lA g_TRegulateChannel v0=p0 at H hw0
  generalize iA v1=p1 at H hw1
  refine ⟨[.ro 3 p0.length false (enR c_TRegulateChannel p0),.int .i64 p1,.fn 39 []],_,(fun E vs F=>yC hw0.1 F (fun vs F=>yC hw1.1 F (fun vs F=>yC (fn_wk fU) F (fun vs F=>F)))),rfl,rfl,?_⟩
  rw [Tryz.ntmps38]
  simp only [lC,lN,Nat.reduceAdd,Nat.reduceSub,rS,rZ,aC,aN]
  unfold F38_0 at H
  try dsimp only at H
  refine sq zA ?_
  simp only [go_sem]
  refine sq zA ?_
  simp only [go_sem]
  repeat ((with_reducible refine aI ?_ ?_);exact an0)
  refine sq zA ?_
  simp only [go_sem]
  refine zC ?_
  refine xN ?_
  refine xP (fun s:Int × Int=>(.ro 3 p0.length false (enR c_TRegulateChannel p0)::.int .i64 p1::.fn 39 []::tp 5 (.int .i64 (p0.length:Nat)::.int .i64 s.1::.int .i64 s.2::tp 38 []))) (fun s=>[]) (fun e:Int=>(.ro 3 p0.length false (enR c_TRegulateChannel p0)::.int .i64 p1::.fn 39 []::tp 5 (.int .i64 (p0.length:Nat)::.int .i64 e::tp 39 []))) (fun e=>[]) H ?_ (fun s o H hn1_1 hn2_1=>?_) (fun w1_3 H=>?_)
  ·refine xI ⟨[],?_,?_,by rfl,by rfl⟩
   ·simp [CvL,Cv,tp]
   ·trivial
  ·obtain ⟨v1_1,v1_2⟩:=s
   unfold F38_0_L1 at H
   try dsimp only at H ⊢
   try simp only [tp]
   refine zC ?_
   refine sq zA ?_
   simp only [go_sem]
   refine condM' rfl trivial (fun hc=>?_) (fun hc=>?_)
   ·have hk1:(bLt v1_1 v1_2)=false:=by simpa using hc
    replace H:=zK hc H
    refine rg zA ?_
    simp only [go_sem]
    refine ⟨_,(Option.some.inj H).symm,?_⟩
    refine xI ⟨[],?_,?_,by rfl,by rfl⟩
    ·simp [CvL,Cv]
    ·trivial
   have hk1:(bLt v1_1 v1_2)=true:=by simpa using hc
   replace H:=zL hc H
   refine rg zA ?_
   simp only [go_sem]
   refine xN ?_
   refine sq zA ?_
   simp only [go_sem]
   repeat ((with_reducible refine aI ?_ ?_);exact an4)
   refine zC ?_
   obtain ⟨f2,H⟩:=nI H
   obtain ⟨r3,e4,H⟩:=bsi H
   refine rg ct38_0t0_ok ?_
   simp only [go_sem,Nat.reduceLT,Nat.reduceAdd,ct38_0t0_39,body39,f2,e4]
   repeat ((with_reducible refine aI ?_ ?_);exact an0)
   refine zX rfl trivial (fun hc=>?_) (fun hc=>?_)
   ·have hk5:(bLt r3 0)=true:=by simpa using hc
    replace H:=zL hc H
    refine rg zA ?_
    simp only [go_sem]
    refine ⟨_,(Option.some.inj H).symm,?_⟩
    refine xI ⟨[],?_,?_,by rfl,by rfl⟩
    ·simp [CvL,Cv]
    ·trivial
   have hk5:(bLt r3 0)=false:=by simpa using hc
   replace H:=zK hc H
   refine rg zA ?_
   simp only [go_sem]
   refine ⟨_,(Option.some.inj H).symm,?_⟩
   refine xI ⟨[],?_,?_,by rfl,by rfl⟩
   ·simp [CvL,Cv]
   ·trivial
  ·try dsimp only at H ⊢
   try simp only [tp]
   try simp only [yS]
   refine zC ?_
   obtain ⟨f6,H⟩:=zP.1 H
   replace f6:=xR.1 f6
   replace f6:=fun g=>uF.1 (f6 g)
   obtain ⟨f7,H⟩:=zP.1 H
   replace f7:=xR.1 f7
   refine rg ct38_0t0_ok ?_
   simp only [go_sem,Nat.reduceLT,Nat.reduceAdd,ct38_0t0_39,body39]
   repeat ((with_reducible refine And.intro ?_ ?_);focus exact bn0 f6 f7)
   refine rg zA ?_
   simp only [go_sem]
   obtain rfl:=Option.some.inj H
   exact fB
 ·cases hb
def ct18_0t0:Ct:=tab [(38,pureC qV)]
theorem ct18_0t0_ok:yP Tryz.prog ct18_0t0:=zE ok38_0 <| zO
theorem ct18_0t0_38 (l:List AV) (h:List ABlk):ct18_0t0 38 l h=pureC qV l h:=rfl
def wX (p0_0:List TRegulateChannel) (p1:Int):Option (Bool) :=
 (F38_0 p0_0 p1).bind fun r1=>some r1.2
def wC:List AV->AR
 | [v0,v1]=>.pure (rM 10 v0/\lK zZ 3 (rG v0 0)/\iK .i64 v1/\(wX (lA g_TRegulateChannel (rG v0 0)) (iA v1)).isSome=true) (.bool (gt (wX (lA g_TRegulateChannel (rG v0 0)) (iA v1))))
 | _=>.fail
theorem ok18_0:FnOk Tryz.prog 18 (pureC wC):=by
 refine yM wC (rs:=[.tmp 4]) Tryz.func18 (by kernel_rfl) rfl rfl ?_
 intro l ob v hb hob
 unfold wC at hb
 split at hb
 ·rename_i v0 v1
  injection hb with q1 q2;subst q1 q2
  obtain ⟨hk0_0,hk0_1,hk1_0,hob⟩:=hob
  obtain ⟨r,H⟩:=oE.1 hob
  rw [H,zN]
  have hw0:=(fN (cells:=[AV.ro 3 (lA g_TRegulateChannel (rG v0 0)).length false (enR c_TRegulateChannel (lA g_TRegulateChannel (rG v0 0))),AV.top,AV.top,AV.top,AV.top,AV.top,AV.top,AV.top,AV.top,AV.top]) hk0_0 (fun y hy=>match y,hy with|0,_=>lK_wk (fun r h=>yH h) hk0_1|1,_=>yD|2,_=>yD|3,_=>yD|4,_=>yD|5,_=>yD|6,_=>yD|7,_=>yD|8,_=>yD|9,_=>yD|y+10,hy=>absurd hy (by omega)))
  have hw1:=iK_wk hk1_0
  generalize lA g_TRegulateChannel (rG v0 0)=p0_0 at H hw0
  generalize iA v1=p1 at H hw1
  refine ⟨[.rptr 10 1 0 0 (fun _ y=>getL [.ro 3 p0_0.length false (enR c_TRegulateChannel p0_0),.top,.top,.top,.top,.top,.top,.top,.top,.top] y),.int .i64 p1],_,(fun E vs F=>yC hw0.1 F (fun vs F=>yC hw1.1 F (fun vs F=>F))),rfl,rfl,?_⟩
  rw [Tryz.ntmps18]
  simp only [lC,lN,Nat.reduceAdd,Nat.reduceSub,rS,rZ,aC,aN]
  unfold wX at H
  try dsimp only at H
  refine sq zA ?_
  simp only [go_sem]
  refine zC ?_
  obtain ⟨r1,e2,H⟩:=bsi H
  refine rg ct18_0t0_ok ?_
  simp only [go_sem,Nat.reduceLeDiff,Nat.reduceLT,Nat.reduceAdd,ct18_0t0_38,qV,e2]
  repeat ((with_reducible refine aI ?_ ?_);exact an2)
  refine sq zA ?_
  simp only [go_sem]
  refine rg zA ?_
  simp only [go_sem]
  obtain rfl:=Option.some.inj H
  exact fB
 ·cases hb
def ct6t0:Ct:=tab [(15,edC dN)]
theorem ct6t0_ok:yP Tryz.prog ct6t0:=zE ok15 <| zO
theorem ct6t0_15 (l:List AV) (h:List ABlk):ct6t0 15 l h=edC dN l h:=rfl
def ct6t1:Ct:=tab [(16,pureC dO)]
theorem ct6t1_ok:yP Tryz.prog ct6t1:=zE ok16 <| zO
theorem ct6t1_16 (l:List AV) (h:List ABlk):ct6t1 16 l h=pureC dO l h:=rfl
def ct6t2:Ct:=tab [(17,pureC tW)]
theorem ct6t2_ok:yP Tryz.prog ct6t2:=zE ok17 <| zO
theorem ct6t2_17 (l:List AV) (h:List ABlk):ct6t2 17 l h=pureC tW l h:=rfl
def ct6t3:Ct:=tab [(18,pureC wC)]
theorem ct6t3_ok:yP Tryz.prog ct6t3:=zE ok18_0 <| zO
theorem ct6t3_18 (l:List AV) (h:List ABlk):ct6t3 18 l h=pureC wC l h:=rfl
def F6 (p0:List TRegulateChannel) (p1:Int) (p2:Bool) (p3:Int):Option (TRegulate × Int) :=
 (F15 p0).bind fun r1=>(F16 p0).bind fun r3=>bif (!r3) then (some ((TRegulate.mk [] 0 false 0 false false 0 0 [] []),8)) else ((F17 p3).bind fun r6=>bif r6 then (some ((TRegulate.mk [] 0 false 0 false false 0 0 [] []),2)) else ((wX r1 p1).bind fun r9=>bif (!r9) then (some ((TRegulate.mk [] 0 false 0 false false 0 0 [] []),6)) else (bif (!p2) then (some ((TRegulate.mk r1 p1 p2 p3 false false 0 0 [] []),0)) else (some ((TRegulate.mk r1 p1 p2 0 false false 0 0 [] []),0)))))
def eJ:List AV->List ABlk->ED
 | [v0,v1,v2,v3],h=>(fun z0=>.ed [] (lK zZ 3 (roD (zH h []) v0)/\xJ (zH h []) v0/\iK .i64 (roD (zH h []) v1)/\xJ (zH h []) v1/\bK (roD (zH h []) v2)/\xJ (zH h []) v2/\iK .i64 (roD (zH h []) v3)/\xJ (zH h []) v3/\z0.isSome=true) (.tup [.agg [.sl 0 3 0 ((((gt z0).1).Table).length) false,.int .i64 (((gt z0).1).Channel),.bool (((gt z0).1).Lead),.int .i64 (((gt z0).1).Heard),.bool (((gt z0).1).Stopped),.bool (((gt z0).1).Moving),.int .i64 (((gt z0).1).To),.int .i64 (((gt z0).1).At),.sl 1 2 0 ((((gt z0).1).Blocked).length) false,.sl 2 1 0 ((((gt z0).1).Clear).length) false],.int .i64 ((gt z0).2)]) [.row 35 3 ((((gt z0).1).Table).length) (enR c_TRegulateChannel (((gt z0).1).Table)),.row 97 2 ((((gt z0).1).Blocked).length) (enR zB (((gt z0).1).Blocked)),.row 3 1 ((((gt z0).1).Clear).length) (enR yG (((gt z0).1).Clear))]) (F6 (lA g_TRegulateChannel (roD (zH h []) v0)) (iA (roD (zH h []) v1)) (bA (roD (zH h []) v2)) (iA (roD (zH h []) v3)))
 | _,_=>.fail
theorem ok6:FnOk Tryz.prog 6 (edC eJ):=by
 refine xO eJ (rs:=[.cell 8 30,.tmp 9]) Tryz.func6 (by kernel_rfl) rfl rfl ?_
 intro l h bs ob q0 g0 hb hob
 unfold eJ at hb
 dsimp only at hb
 split at hb
 ·rename_i v0 v1 v2 v3
  injection hb with q1 q2 q3 q4;subst q1 q2 q3 q4
  obtain ⟨hk0_0,hk0_1,hk1_0,hk1_1,hk2_0,hk2_1,hk3_0,hk3_1,hob⟩:=hob
  obtain ⟨r,H⟩:=oE.1 hob
  rw [H,zN]
  have hw0:=lK_wk (fun r h=>yH h) hk0_0
  obtain ⟨p0,hp_p0⟩:∃ p0,p0=lA g_TRegulateChannel (roD (zH h []) v0):=⟨_,rfl⟩
  rw [← hp_p0] at H hw0
  have hw1:=iK_wk hk1_0
  obtain ⟨p1,hp_p1⟩:∃ p1,p1=iA (roD (zH h []) v1):=⟨_,rfl⟩
  rw [← hp_p1] at H hw1
  have hw2:=vT hk2_0
  obtain ⟨p2,hp_p2⟩:∃ p2,p2=bA (roD (zH h []) v2):=⟨_,rfl⟩
  rw [← hp_p2] at H hw2
  have hw3:=iK_wk hk3_0
  obtain ⟨p3,hp_p3⟩:∃ p3,p3=iA (roD (zH h []) v3):=⟨_,rfl⟩
  rw [← hp_p3] at H hw3
  refine ⟨[.ro 3 p0.length false (enR c_TRegulateChannel p0),.int .i64 p1,.bool p2,.int .i64 p3],[],rfl,⟨(yR hk0_1 hw0),⟨(yR hk1_1 hw1),⟨(yR hk2_1 hw2),⟨(yR hk3_1 hw3),trivial⟩⟩⟩⟩,trivial,trivial,⟨(yY zI),⟨(yY zM),⟨(yY xL),trivial⟩⟩⟩,⟨zW,⟨zW,⟨zW,trivial⟩⟩⟩,(by first|(simp only [noro,yK,and_self];done)|(simp only [noro,yK];and_intros<;>first|trivial|exact xX (by simp only [noro]) (by simp only [noro])|(simp only [noro,yK,and_self]))),?_⟩
  rw [Tryz.ntmps6]
  simp only [lC,lN,Nat.reduceAdd,Nat.reduceSub,rS,rZ,aC,aN]
  unfold F6 at H
  try dsimp only at H
  refine sq zA ?_
  simp only [go_sem]
  refine zC ?_
  obtain ⟨r1,e2,H⟩:=bsi H
  refine rg ct6t0_ok ?_
  simp only [go_sem,Nat.reduceLeDiff,Nat.reduceAdd,ct6t0_15,dN,e2]
  repeat ((with_reducible refine aI ?_ ?_);exact an0)
  refine zC ?_
  refine xN ?_
  refine zC ?_
  obtain ⟨r3,e4,H⟩:=bsi H
  refine rg ct6t1_ok ?_
  simp only [go_sem,ct6t1_16,dO,e4]
  repeat ((with_reducible refine aI ?_ ?_);exact an0)
  refine zX rfl trivial (fun hc=>?_) (fun hc=>?_)
  ·have hk5:(r3)=false:=by simpa using hc
   replace H:=zL hc H
   refine sq zA ?_
   simp only [go_sem,Nat.reduceAdd]
   repeat ((with_reducible refine aI ?_ ?_);exact an4)
   refine rg zA ?_
   simp only [go_sem,Nat.reduceLT,Nat.reduceAdd]
   obtain rfl:=Option.some.inj H
   refine yE [] [none,none,none] ?_ ?_ ?_ ?_ (by rfl) (by rfl)
   ·simp only [go_sem]
    try exact at0
   ·simp only [go_sem]
    try exact at0
   ·simp only [go_sem]
    exact cT
   ·simp only [go_sem,CvH]
    first|exact ⟨zQ,zQ,zQ⟩|trivial
  have hk5:(r3)=true:=by simpa using hc
  replace H:=zK hc H
  refine zC ?_
  obtain ⟨r6,e7,H⟩:=bsi H
  refine rg ct6t2_ok ?_
  simp only [go_sem,ct6t2_17,tW,e7]
  repeat ((with_reducible refine aI ?_ ?_);exact an0)
  refine zX rfl trivial (fun hc=>?_) (fun hc=>?_)
  ·have hk8:(r6)=true:=by simpa using hc
   replace H:=zL hc H
   refine sq zA ?_
   simp only [go_sem,Nat.reduceAdd]
   repeat ((with_reducible refine aI ?_ ?_);exact an4)
   refine rg zA ?_
   simp only [go_sem,Nat.reduceLT,Nat.reduceAdd]
   obtain rfl:=Option.some.inj H
   refine yE [] [none,none,none] ?_ ?_ ?_ ?_ (by rfl) (by rfl)
   ·simp only [go_sem]
    try exact at0
   ·simp only [go_sem]
    try exact at0
   ·simp only [go_sem]
    exact cT
   ·simp only [go_sem,CvH]
    first|exact ⟨zQ,zQ,zQ⟩|trivial
  have hk8:(r6)=false:=by simpa using hc
  replace H:=zK hc H
  refine zC ?_
  obtain ⟨r9,e10,H⟩:=bsi H
  refine rg ct6t3_ok ?_
  simp only [go_sem,Nat.reduceLT,Nat.reduceAdd,ct6t3_18,wC,e10]
  repeat ((with_reducible refine aI ?_ ?_);exact an0)
  refine zX rfl trivial (fun hc=>?_) (fun hc=>?_)
  ·have hk11:(r9)=false:=by simpa using hc
   replace H:=zL hc H
   refine sq zA ?_
   simp only [go_sem,Nat.reduceAdd]
   repeat ((with_reducible refine aI ?_ ?_);exact an4)
   refine rg zA ?_
   simp only [go_sem,Nat.reduceLT,Nat.reduceAdd]
   obtain rfl:=Option.some.inj H
   refine yE [] [none,none,none] ?_ ?_ ?_ ?_ (by rfl) (by rfl)
   ·simp only [go_sem]
    try exact at0
   ·simp only [go_sem]
    try exact at0
   ·simp only [go_sem]
    exact cT
   ·simp only [go_sem,CvH]
    first|exact ⟨zQ,zQ,zQ⟩|trivial
  have hk11:(r9)=true:=by simpa using hc
  replace H:=zK hc H
  refine rg zA ?_
  simp only [go_sem]
  refine zC ?_
  refine sq zA ?_
  simp only [go_sem]
  refine condM' rfl trivial (fun hc=>?_) (fun hc=>?_)
  ·have hk12:(p2)=true:=by simpa using hc
   replace H:=zK hc H
   refine rg zA ?_
   simp only [go_sem]
   refine sq zA ?_
   simp only [go_sem,Nat.reduceLT,Nat.reduceAdd]
   repeat ((with_reducible refine aI ?_ ?_);exact an4)
   refine rg zA ?_
   simp only [go_sem,Nat.reduceLT,Nat.reduceAdd]
   obtain rfl:=Option.some.inj H
   refine yE [] [some 1,none,none] ?_ ?_ ?_ ?_ (by rfl) (by rfl)
   ·simp only [go_sem]
    try exact at0
   ·simp only [go_sem]
    try exact at0
   ·simp only [go_sem]
    exact cT
   ·simp only [go_sem,CvH]
    first|exact ⟨zJ zI cl (fun _ _ _ _=>rfl),zQ,zQ⟩|trivial
  have hk12:(p2)=false:=by simpa using hc
  replace H:=zL hc H
  refine rg zA ?_
  simp only [go_sem,Nat.reduceLeDiff,Nat.reduceAdd]
  repeat ((with_reducible refine aI ?_ ?_);exact an4)
  refine sq zA ?_
  simp only [go_sem,Nat.reduceLT,Nat.reduceAdd]
  repeat ((with_reducible refine aI ?_ ?_);exact an4)
  refine rg zA ?_
  simp only [go_sem,Nat.reduceLT,Nat.reduceAdd]
  obtain rfl:=Option.some.inj H
  refine yE [] [some 1,none,none] ?_ ?_ ?_ ?_ (by rfl) (by rfl)
  ·simp only [go_sem]
   try exact at0
  ·simp only [go_sem]
   try exact at0
  ·simp only [go_sem]
   exact cT
  ·simp only [go_sem,CvH]
   first|exact ⟨zJ zI cl (fun _ _ _ _=>rfl),zQ,zQ⟩|trivial
 ·cases hb
def F81 (p0:TRegulateBlock):Option (Int) :=
 some p0.Channel
def body81:List AV->AR
 | [v0]=>.pure (aK 2 yN v0/\(F81 (zF (aL v0))).isSome=true) (.int .i64 (gt (F81 (zF (aL v0)))))
 | _=>.fail
theorem ok81:FnOk Tryz.prog 81 (pureC body81):=by
 refine yM body81 (rs:=[.tmp 2]) Tryz.func81 (by kernel_rfl) rfl rfl ?_
 intro l ob v hb hob
 unfold body81 at hb
 split at hb
 ·rename_i v0
  injection hb with q1 q2;subst q1 q2
  obtain ⟨hk0_0,hob⟩:=hob
  obtain ⟨r,H⟩:=oE.1 hob
  rw [H,zN]
  have hw0:=kI hk0_0
  generalize zF (aL v0)=p0 at H hw0
  refine ⟨[.agg [.int .i64 p0.Channel,.int .i64 p0.Until]],_,(fun E vs F=>yC hw0.1 F (fun vs F=>F)),rfl,rfl,?_⟩
  rw [Tryz.ntmps81]
  simp only [lC,lN,Nat.reduceAdd,Nat.reduceSub,rS,rZ,aC,aN]
  unfold F81 at H
  try dsimp only at H
  refine sq zA ?_
  simp only [go_sem]
  refine sq zA ?_
  simp only [go_sem,Nat.reduceLeDiff,Nat.reduceLT,Nat.reduceAdd]
  repeat ((with_reducible refine aI ?_ ?_);exact an4)
  refine rg zA ?_
  simp only [go_sem]
  obtain rfl:=Option.some.inj H
  exact fB
 ·cases hb
def ct80_0t0:Ct:=tab [(81,pureC body81)]
theorem ct80_0t0_ok:yP Tryz.prog ct80_0t0:=zE ok81 <| zO
theorem ct80_0t0_81 (l:List AV) (h:List ABlk):ct80_0t0 81 l h=pureC body81 l h:=rfl
def F80_0_L1 (p0:List TRegulateBlock) (v1_1:Int):Option (Lp (Int) ((Unit) ⊕ (Bool))) :=
 bif (bLt v1_1 (p0.length:Nat)) then (need (inb v1_1 p0.length) <| (F81 (gd p0 v1_1.toNat)).bind fun r3=>need (inb (wr .i64 (v1_1 - 1)) p0.length) <| (F81 (gd p0 ((wr .i64 (v1_1 - 1)).toNat))).bind fun r6=>bif (bLe r3 r6) then (some (.done (.inr false))) else (some (.next (wr .i64 (v1_1+1))))) else (some (.done (.inl ())))
def cO (p0:List TRegulateBlock):Option (Bool) :=
 lp (yF (fun s=>F80_0_L1 p0 s) 1) (fun _=>some true) some
def gM:List AV->AR
 | [v0,.fn 81 []]=>.pure (lK yN 2 v0/\(cO (lA zF v0)).isSome=true) (.bool (gt (cO (lA zF v0))))
 | _=>.fail
theorem ok80_0:FnOk Tryz.prog 80 (pureC gM):=by
 refine yM gM (rs:=[.tmp 4]) Tryz.func80 (by kernel_rfl) rfl rfl ?_
 intro l ob v hb hob
 unfold gM at hb
 split at hb
 ·rename_i v0
  injection hb with q1 q2;subst q1 q2
  obtain ⟨hk0_0,hob⟩:=hob
  obtain ⟨r,H⟩:=oE.1 hob
  rw [H,zN]
  have hw0:=lK_wk (fun r h=>xD h) hk0_0
  generalize lA zF v0=p0 at H hw0
  refine ⟨[.ro 2 p0.length false (enR zB p0),.fn 81 []],_,(fun E vs F=>yC hw0.1 F (fun vs F=>yC (fn_wk fU) F (fun vs F=>F))),rfl,rfl,?_⟩
  rw [Tryz.ntmps80]
  simp only [lC,lN,Nat.reduceAdd,Nat.reduceSub,rS,rZ,aC,aN]
  unfold cO at H
  try dsimp only at H
  refine sq zA ?_
  simp only [go_sem]
  refine zC ?_
  refine sq zA ?_
  simp only [go_sem]
  refine xN ?_
  refine xP (fun s:Int=>(.ro 2 p0.length false (enR zB p0)::.fn 81 []::.top::.top::.top::.int .i64 s::tp 20 [])) (fun s=>[]) (fun e:Unit=>(tp 26 [])) (fun e=>[]) H ?_ (fun v1_1 o H hn1_1 hn2_1=>?_) (fun e H=>?_)
  ·refine xI ⟨[],?_,?_,by rfl,by rfl⟩
   ·simp [CvL,Cv,tp]
   ·trivial
  ·unfold F80_0_L1 at H
   try dsimp only at H ⊢
   try simp only [tp]
   refine zC ?_
   refine sq zA ?_
   simp only [go_sem]
   repeat ((with_reducible refine aI ?_ ?_);exact an0)
   refine condM' rfl trivial (fun hc=>?_) (fun hc=>?_)
   ·have hk1:(bLt v1_1 (p0.length:Nat))=false:=by simpa using hc
    replace H:=zK hc H
    refine rg zA ?_
    simp only [go_sem]
    refine ⟨_,(Option.some.inj H).symm,?_⟩
    refine xI ⟨[],?_,?_,by rfl,by rfl⟩
    ·simp [CvL,Cv]
    ·trivial
   have hk1:(bLt v1_1 (p0.length:Nat))=true:=by simpa using hc
   replace H:=zL hc H
   refine rg zA ?_
   simp only [go_sem]
   refine zC ?_
   refine xN ?_
   refine zC ?_
   obtain ⟨f2,H⟩:=nI H
   obtain ⟨r3,e4,H⟩:=bsi H
   obtain ⟨f5,H⟩:=nI H
   obtain ⟨r6,e7,H⟩:=bsi H
   refine xZ zU ct80_0t0_ok (by kernel_rfl) (by kernel_rfl) ?_
   simp only [go_sem,Nat.reduceLT,Nat.reduceAdd,ct80_0t0_81,body81,f2,e4,f5,e7]
   repeat ((with_reducible refine aI ?_ ?_);exact an0)
   refine zX rfl trivial (fun hc=>?_) (fun hc=>?_)
   ·have hk8:(bLe r3 r6)=true:=by simpa using hc
    replace H:=zL hc H
    refine sq zA ?_
    simp only [go_sem]
    refine rg zA ?_
    simp only [go_sem]
    have H:=hn2_1 _ (Option.some.inj H).symm
    obtain rfl:=Option.some.inj H
    exact fB
   have hk8:(bLe r3 r6)=false:=by simpa using hc
   replace H:=zK hc H
   refine rg zA ?_
   simp only [go_sem]
   refine rg zA ?_
   simp only [go_sem]
   refine ⟨_,(Option.some.inj H).symm,?_⟩
   refine xI ⟨[],?_,?_,by rfl,by rfl⟩
   ·simp [CvL,Cv]
   ·trivial
  ·try dsimp only at H ⊢
   try simp only [tp]
   try simp only [yS]
   refine sq zA ?_
   simp only [go_sem]
   refine rg zA ?_
   simp only [go_sem]
   obtain rfl:=Option.some.inj H
   exact fB
 ·cases hb
def F83 (p0:Int):Option (Int) :=
 some p0
def body83:List AV->AR
 | [v0]=>.pure (iK .i64 v0/\(F83 (iA v0)).isSome=true) (.int .i64 (gt (F83 (iA v0))))
 | _=>.fail
theorem ok83:FnOk Tryz.prog 83 (pureC body83):=by
 refine yM body83 (rs:=[.tmp 2]) Tryz.func83 (by kernel_rfl) rfl rfl ?_
 intro l ob v hb hob
 unfold body83 at hb
 split at hb
 ·rename_i v0
  injection hb with q1 q2;subst q1 q2
  obtain ⟨hk0_0,hob⟩:=hob
  obtain ⟨r,H⟩:=oE.1 hob
  rw [H,zN]
  have hw0:=iK_wk hk0_0
  generalize iA v0=p0 at H hw0
  refine ⟨[.int .i64 p0],_,(fun E vs F=>yC hw0.1 F (fun vs F=>F)),rfl,rfl,?_⟩
  rw [Tryz.ntmps83]
  simp only [lC,lN,Nat.reduceAdd,Nat.reduceSub,rS,rZ,aC,aN]
  unfold F83 at H
  try dsimp only at H
  refine sq zA ?_
  simp only [go_sem]
  refine sq zA ?_
  simp only [go_sem]
  refine rg zA ?_
  simp only [go_sem]
  obtain rfl:=Option.some.inj H
  exact fB
 ·cases hb
def ct82_0t0:Ct:=tab [(83,pureC body83)]
theorem ct82_0t0_ok:yP Tryz.prog ct82_0t0:=zE ok83 <| zO
theorem ct82_0t0_83 (l:List AV) (h:List ABlk):ct82_0t0 83 l h=pureC body83 l h:=rfl
def F82_0_L1 (p0:List Int) (v1_1:Int):Option (Lp (Int) ((Unit) ⊕ (Bool))) :=
 bif (bLt v1_1 (p0.length:Nat)) then (need (inb v1_1 p0.length) <| (F83 (gd p0 v1_1.toNat)).bind fun r3=>need (inb (wr .i64 (v1_1 - 1)) p0.length) <| (F83 (gd p0 ((wr .i64 (v1_1 - 1)).toNat))).bind fun r6=>bif (bLe r3 r6) then (some (.done (.inr false))) else (some (.next (wr .i64 (v1_1+1))))) else (some (.done (.inl ())))
def F82_0 (p0:List Int):Option (Bool) :=
 lp (yF (fun s=>F82_0_L1 p0 s) 1) (fun _=>some true) some
def gN:List AV->AR
 | [v0,.fn 83 []]=>.pure (lK kE 1 v0/\(F82_0 (lA xQ v0)).isSome=true) (.bool (gt (F82_0 (lA xQ v0))))
 | _=>.fail
theorem ok82_0:FnOk Tryz.prog 82 (pureC gN):=by
 refine yM gN (rs:=[.tmp 4]) Tryz.func82 (by kernel_rfl) rfl rfl ?_
 intro l ob v hb hob
 unfold gN at hb
 split at hb
 ·rename_i v0
  injection hb with q1 q2;subst q1 q2
  obtain ⟨hk0_0,hob⟩:=hob
  obtain ⟨r,H⟩:=oE.1 hob
  rw [H,zN]
  have hw0:=lK_wk (fun r h=>jJ h) hk0_0
  generalize lA xQ v0=p0 at H hw0
  refine ⟨[.ro 1 p0.length false (enR yG p0),.fn 83 []],_,(fun E vs F=>yC hw0.1 F (fun vs F=>yC (fn_wk fU) F (fun vs F=>F))),rfl,rfl,?_⟩
  rw [Tryz.ntmps82]
  simp only [lC,lN,Nat.reduceAdd,Nat.reduceSub,rS,rZ,aC,aN]
  unfold F82_0 at H
  try dsimp only at H
  refine sq zA ?_
  simp only [go_sem]
  refine zC ?_
  refine sq zA ?_
  simp only [go_sem]
  refine xN ?_
  refine xP (fun s:Int=>(.ro 1 p0.length false (enR yG p0)::.fn 83 []::.top::.top::.top::.int .i64 s::tp 20 [])) (fun s=>[]) (fun e:Unit=>(tp 26 [])) (fun e=>[]) H ?_ (fun v1_1 o H hn1_1 hn2_1=>?_) (fun e H=>?_)
  ·refine xI ⟨[],?_,?_,by rfl,by rfl⟩
   ·simp [CvL,Cv,tp]
   ·trivial
  ·unfold F82_0_L1 at H
   try dsimp only at H ⊢
   try simp only [tp]
   refine zC ?_
   refine sq zA ?_
   simp only [go_sem]
   repeat ((with_reducible refine aI ?_ ?_);exact an0)
   refine condM' rfl trivial (fun hc=>?_) (fun hc=>?_)
   ·have hk1:(bLt v1_1 (p0.length:Nat))=false:=by simpa using hc
    replace H:=zK hc H
    refine rg zA ?_
    simp only [go_sem]
    refine ⟨_,(Option.some.inj H).symm,?_⟩
    refine xI ⟨[],?_,?_,by rfl,by rfl⟩
    ·simp [CvL,Cv]
    ·trivial
   have hk1:(bLt v1_1 (p0.length:Nat))=true:=by simpa using hc
   replace H:=zL hc H
   refine rg zA ?_
   simp only [go_sem]
   refine zC ?_
   refine xN ?_
   refine zC ?_
   obtain ⟨f2,H⟩:=nI H
   obtain ⟨r3,e4,H⟩:=bsi H
   obtain ⟨f5,H⟩:=nI H
   obtain ⟨r6,e7,H⟩:=bsi H
   refine xZ zU ct82_0t0_ok (by kernel_rfl) (by kernel_rfl) ?_
   simp only [go_sem,Nat.reduceLT,ct82_0t0_83,body83,f2,e4,f5,e7]
   repeat ((with_reducible refine aI ?_ ?_);exact an0)
   refine zX rfl trivial (fun hc=>?_) (fun hc=>?_)
   ·have hk8:(bLe r3 r6)=true:=by simpa using hc
    replace H:=zL hc H
    refine sq zA ?_
    simp only [go_sem]
    refine rg zA ?_
    simp only [go_sem]
    have H:=hn2_1 _ (Option.some.inj H).symm
    obtain rfl:=Option.some.inj H
    exact fB
   have hk8:(bLe r3 r6)=false:=by simpa using hc
   replace H:=zK hc H
   refine rg zA ?_
   simp only [go_sem]
   refine rg zA ?_
   simp only [go_sem]
   refine ⟨_,(Option.some.inj H).symm,?_⟩
   refine xI ⟨[],?_,?_,by rfl,by rfl⟩
   ·simp [CvL,Cv]
   ·trivial
  ·try dsimp only at H ⊢
   try simp only [tp]
   try simp only [yS]
   refine sq zA ?_
   simp only [go_sem]
   refine rg zA ?_
   simp only [go_sem]
   obtain rfl:=Option.some.inj H
   exact fB
 ·cases hb
def F87_L1 (p0:List Int) (p1:Int) (v1_1:Int):Option (Lp (Int) ((Unit) ⊕ (Int))) :=
 bif (bLt v1_1 (p0.length:Nat)) then (need (inb v1_1 p0.length) <| bif (bEq p1 (gd p0 v1_1.toNat)) then (some (.done (.inr v1_1))) else (some (.next (wr .i64 (v1_1+1))))) else (some (.done (.inl ())))
def F87 (p0:List Int) (p1:Int):Option (Int) :=
 lp (yF (fun s=>F87_L1 p0 p1 s) 0) (fun _=>some (-1)) some
def body87:List AV->AR
 | [v0,v1]=>.pure (lK kE 1 v0/\iK .i64 v1/\(F87 (lA xQ v0) (iA v1)).isSome=true) (.int .i64 (gt (F87 (lA xQ v0) (iA v1))))
 | _=>.fail
theorem ok87:FnOk Tryz.prog 87 (pureC body87):=by
 refine yM body87 (rs:=[.tmp 4]) Tryz.func87 (by kernel_rfl) rfl rfl ?_
 intro l ob v hb hob
 unfold body87 at hb
 split at hb
 ·rename_i v0 v1
  injection hb with q1 q2;subst q1 q2
  obtain ⟨hk0_0,hk1_0,hob⟩:=hob
  obtain ⟨r,H⟩:=oE.1 hob
  rw [H,zN]
  have hw0:=lK_wk (fun r h=>jJ h) hk0_0
  have hw1:=iK_wk hk1_0
  generalize lA xQ v0=p0 at H hw0
  generalize iA v1=p1 at H hw1
  refine ⟨[.ro 1 p0.length false (enR yG p0),.int .i64 p1],_,(fun E vs F=>yC hw0.1 F (fun vs F=>yC hw1.1 F (fun vs F=>F))),rfl,rfl,?_⟩
  rw [Tryz.ntmps87]
  simp only [lC,lN,Nat.reduceAdd,Nat.reduceSub,rS,rZ,aC,aN]
  unfold F87 at H
  try dsimp only at H
  refine sq zA ?_
  simp only [go_sem]
  refine zC ?_
  refine sq zA ?_
  simp only [go_sem]
  repeat ((with_reducible refine aI ?_ ?_);exact an0)
  refine xN ?_
  refine xP (fun s:Int=>(.ro 1 p0.length false (enR yG p0)::.int .i64 p1::tp 5 (.int .i64 (p0.length:Nat)::.int .i64 s::tp 10 []))) (fun s=>[]) (fun e:Unit=>(tp 19 [])) (fun e=>[]) H ?_ (fun v1_1 o H hn1_1 hn2_1=>?_) (fun e H=>?_)
  ·refine xI ⟨[],?_,?_,by rfl,by rfl⟩
   ·simp [CvL,Cv,tp]
   ·trivial
  ·unfold F87_L1 at H
   try dsimp only at H ⊢
   try simp only [tp]
   refine sq zA ?_
   simp only [go_sem]
   refine zC ?_
   refine condM' rfl trivial (fun hc=>?_) (fun hc=>?_)
   ·have hk1:(bLt v1_1 (p0.length:Nat))=false:=by simpa using hc
    replace H:=zK hc H
    refine rg zA ?_
    simp only [go_sem]
    refine ⟨_,(Option.some.inj H).symm,?_⟩
    refine xI ⟨[],?_,?_,by rfl,by rfl⟩
    ·simp [CvL,Cv]
    ·trivial
   have hk1:(bLt v1_1 (p0.length:Nat))=true:=by simpa using hc
   replace H:=zL hc H
   refine rg zA ?_
   simp only [go_sem]
   refine zC ?_
   refine xN ?_
   refine sq zA ?_
   simp only [go_sem]
   refine zC ?_
   obtain ⟨f2,H⟩:=nI H
   refine rg zA ?_
   simp only [go_sem,Nat.reduceLT,f2]
   repeat ((with_reducible refine aI ?_ ?_);exact an4)
   refine zX rfl trivial (fun hc=>?_) (fun hc=>?_)
   ·have hk3:(bEq p1 (gd p0 v1_1.toNat))=true:=by simpa using hc
    replace H:=zL hc H
    refine sq zA ?_
    simp only [go_sem]
    refine rg zA ?_
    simp only [go_sem]
    have H:=hn2_1 _ (Option.some.inj H).symm
    obtain rfl:=Option.some.inj H
    exact fB
   have hk3:(bEq p1 (gd p0 v1_1.toNat))=false:=by simpa using hc
   replace H:=zK hc H
   refine rg zA ?_
   simp only [go_sem]
   refine rg zA ?_
   simp only [go_sem]
   refine ⟨_,(Option.some.inj H).symm,?_⟩
   refine xI ⟨[],?_,?_,by rfl,by rfl⟩
   ·simp [CvL,Cv]
   ·trivial
  ·try dsimp only at H ⊢
   try simp only [tp]
   try simp only [yS]
   refine sq zA ?_
   simp only [go_sem]
   refine rg zA ?_
   simp only [go_sem]
   obtain rfl:=Option.some.inj H
   exact fB
 ·cases hb
def ct53t0:Ct:=tab [(87,pureC body87)]
theorem ct53t0_ok:yP Tryz.prog ct53t0:=zE ok87 <| zO
theorem ct53t0_87 (l:List AV) (h:List ABlk):ct53t0 87 l h=pureC body87 l h:=rfl
def F53 (p0:List Int) (p1:Int):Option (Bool) :=
 (F87 p0 p1).bind fun r1=>some (bLe 0 r1)
def fX:List AV->AR
 | [v0,v1]=>.pure (lK kE 1 v0/\iK .i64 v1/\(F53 (lA xQ v0) (iA v1)).isSome=true) (.bool (gt (F53 (lA xQ v0) (iA v1))))
 | _=>.fail
theorem ok53:FnOk Tryz.prog 53 (pureC fX):=by
 refine yM fX (rs:=[.tmp 4]) Tryz.func53 (by kernel_rfl) rfl rfl ?_
 intro l ob v hb hob
 unfold fX at hb
 split at hb
 ·rename_i v0 v1
  injection hb with q1 q2;subst q1 q2
  obtain ⟨hk0_0,hk1_0,hob⟩:=hob
  obtain ⟨r,H⟩:=oE.1 hob
  rw [H,zN]
  have hw0:=lK_wk (fun r h=>jJ h) hk0_0
  have hw1:=iK_wk hk1_0
  generalize lA xQ v0=p0 at H hw0
  generalize iA v1=p1 at H hw1
  refine ⟨[.ro 1 p0.length false (enR yG p0),.int .i64 p1],_,(fun E vs F=>yC hw0.1 F (fun vs F=>yC hw1.1 F (fun vs F=>F))),rfl,rfl,?_⟩
  rw [Tryz.ntmps53]
  simp only [lC,lN,Nat.reduceAdd,Nat.reduceSub,rS,rZ,aC,aN]
  unfold F53 at H
  try dsimp only at H
  refine sq zA ?_
  simp only [go_sem]
  refine zC ?_
  obtain ⟨r1,e2,H⟩:=bsi H
  refine rg ct53t0_ok ?_
  simp only [go_sem,ct53t0_87,body87,e2]
  repeat ((with_reducible refine aI ?_ ?_);exact an0)
  refine rg zA ?_
  simp only [go_sem]
  obtain rfl:=Option.some.inj H
  exact fB
 ·cases hb
def ct24_0t0:Ct:=tab [(38,pureC qV)]
theorem ct24_0t0_ok:yP Tryz.prog ct24_0t0:=zE ok38_0 <| zO
theorem ct24_0t0_38 (l:List AV) (h:List ABlk):ct24_0t0 38 l h=pureC qV l h:=rfl
def jB (p0_0:List TRegulateChannel) (p1:Int):Option (TRegulateChannel) :=
 (F38_0 p0_0 p1).bind fun r1=>need (inb r1.1 p0_0.length) <| some (gd p0_0 r1.1.toNat)
def uH:List AV->AR
 | [v0,v1]=>.pure (rM 10 v0/\lK zZ 3 (rG v0 0)/\iK .i64 v1/\(jB (lA g_TRegulateChannel (rG v0 0)) (iA v1)).isSome=true) (.agg [.int .i64 ((gt (jB (lA g_TRegulateChannel (rG v0 0)) (iA v1))).Number),.int .i64 ((gt (jB (lA g_TRegulateChannel (rG v0 0)) (iA v1))).Max),.bool ((gt (jB (lA g_TRegulateChannel (rG v0 0)) (iA v1))).Radar)])
 | _=>.fail
theorem ok24_0:FnOk Tryz.prog 24 (pureC uH):=by
 refine yM uH (rs:=[.cell 4 35]) Tryz.func24 (by kernel_rfl) rfl rfl ?_
 intro l ob v hb hob
 unfold uH at hb
 split at hb
 ·rename_i v0 v1
  injection hb with q1 q2;subst q1 q2
  obtain ⟨hk0_0,hk0_1,hk1_0,hob⟩:=hob
  obtain ⟨r,H⟩:=oE.1 hob
  rw [H,zN]
  have hw0:=(fN (cells:=[AV.ro 3 (lA g_TRegulateChannel (rG v0 0)).length false (enR c_TRegulateChannel (lA g_TRegulateChannel (rG v0 0))),AV.top,AV.top,AV.top,AV.top,AV.top,AV.top,AV.top,AV.top,AV.top]) hk0_0 (fun y hy=>match y,hy with|0,_=>lK_wk (fun r h=>yH h) hk0_1|1,_=>yD|2,_=>yD|3,_=>yD|4,_=>yD|5,_=>yD|6,_=>yD|7,_=>yD|8,_=>yD|9,_=>yD|y+10,hy=>absurd hy (by omega)))
  have hw1:=iK_wk hk1_0
  generalize lA g_TRegulateChannel (rG v0 0)=p0_0 at H hw0
  generalize iA v1=p1 at H hw1
  refine ⟨[.rptr 10 1 0 0 (fun _ y=>getL [.ro 3 p0_0.length false (enR c_TRegulateChannel p0_0),.top,.top,.top,.top,.top,.top,.top,.top,.top] y),.int .i64 p1],_,(fun E vs F=>yC hw0.1 F (fun vs F=>yC hw1.1 F (fun vs F=>F))),rfl,rfl,?_⟩
  rw [Tryz.ntmps24]
  simp only [lC,lN,Nat.reduceAdd,Nat.reduceSub,rS,rZ,aC,aN]
  unfold jB at H
  try dsimp only at H
  refine sq zA ?_
  simp only [go_sem]
  refine zC ?_
  obtain ⟨r1,e2,H⟩:=bsi H
  refine rg ct24_0t0_ok ?_
  simp only [go_sem,Nat.reduceLeDiff,Nat.reduceLT,Nat.reduceAdd,ct24_0t0_38,qV,e2]
  repeat ((with_reducible refine aI ?_ ?_);exact an2)
  refine zC ?_
  obtain ⟨f3,H⟩:=nI H
  refine rg zA ?_
  simp only [go_sem,Nat.reduceLeDiff,Nat.reduceLT,Nat.reduceAdd,f3]
  repeat ((with_reducible refine aI ?_ ?_);exact an4)
  refine rg zA ?_
  simp only [go_sem,Nat.reduceLT,Nat.reduceAdd]
  obtain rfl:=Option.some.inj H
  exact fB
 ·cases hb
def ct46t0:Ct:=tab [(16,pureC dO),(17,pureC tW),(18,pureC wC)]
theorem ct46t0_ok:yP Tryz.prog ct46t0:=zE ok16 <| zE ok17 <| zE ok18_0 <| zO
theorem ct46t0_16 (l:List AV) (h:List ABlk):ct46t0 16 l h=pureC dO l h:=rfl
theorem ct46t0_17 (l:List AV) (h:List ABlk):ct46t0 17 l h=pureC tW l h:=rfl
theorem ct46t0_18 (l:List AV) (h:List ABlk):ct46t0 18 l h=pureC wC l h:=rfl
def ct46t1:Ct:=tab [(18,pureC wC)]
theorem ct46t1_ok:yP Tryz.prog ct46t1:=zE ok18_0 <| zO
theorem ct46t1_18 (l:List AV) (h:List ABlk):ct46t1 18 l h=pureC wC l h:=rfl
def ct46t2:Ct:=tab [(80,pureC gM),(82,pureC gN)]
theorem ct46t2_ok:yP Tryz.prog ct46t2:=zE ok80_0 <| zE ok82_0 <| zO
theorem ct46t2_80 (l:List AV) (h:List ABlk):ct46t2 80 l h=pureC gM l h:=rfl
theorem ct46t2_82 (l:List AV) (h:List ABlk):ct46t2 82 l h=pureC gN l h:=rfl
def ct46t3:Ct:=tab [(17,pureC tW),(18,pureC wC),(53,pureC fX)]
theorem ct46t3_ok:yP Tryz.prog ct46t3:=zE ok17 <| zE ok18_0 <| zE ok53 <| zO
theorem ct46t3_17 (l:List AV) (h:List ABlk):ct46t3 17 l h=pureC tW l h:=rfl
theorem ct46t3_18 (l:List AV) (h:List ABlk):ct46t3 18 l h=pureC wC l h:=rfl
theorem ct46t3_53 (l:List AV) (h:List ABlk):ct46t3 53 l h=pureC fX l h:=rfl
def ct46t4:Ct:=tab [(18,pureC wC),(24,pureC uH)]
theorem ct46t4_ok:yP Tryz.prog ct46t4:=zE ok18_0 <| zE ok24_0 <| zO
theorem ct46t4_18 (l:List AV) (h:List ABlk):ct46t4 18 l h=pureC wC l h:=rfl
theorem ct46t4_24 (l:List AV) (h:List ABlk):ct46t4 24 l h=pureC uH l h:=rfl
def fS (p0:TRegulate) (v1_1:Bool) (v1_2:Int):Option (Lp (Bool × Int) ((Bool) ⊕ (Int))) :=
 bif (bLt v1_2 (p0.Blocked.length:Nat)) then (need (inb v1_2 p0.Blocked.length) <| need (bif v1_1 then ((wX p0.Table ((gd p0.Blocked v1_2.toNat).Channel)).isSome) else true) <| need (bif (v1_1 && (gt (wX p0.Table ((gd p0.Blocked v1_2.toNat).Channel)))) then ((F17 ((gd p0.Blocked v1_2.toNat).Until)).isSome) else true) <| need (bif ((v1_1 && (gt (wX p0.Table ((gd p0.Blocked v1_2.toNat).Channel)))) && (!(gt (F17 ((gd p0.Blocked v1_2.toNat).Until))))) then ((F53 p0.Clear ((gd p0.Blocked v1_2.toNat).Channel)).isSome) else true) <| some (.next ((((v1_1 && (gt (wX p0.Table ((gd p0.Blocked v1_2.toNat).Channel)))) && (!(gt (F17 ((gd p0.Blocked v1_2.toNat).Until))))) && (!(gt (F53 p0.Clear ((gd p0.Blocked v1_2.toNat).Channel))))),wr .i64 (v1_2+1)))) else (some (.done (.inl v1_1)))
def fT (p0:TRegulate) (v2_1:Bool) (v2_2:Int):Option (Lp (Bool × Int) ((Bool) ⊕ (Int))) :=
 bif (bLt v2_2 (p0.Clear.length:Nat)) then (need (inb v2_2 p0.Clear.length) <| need (bif v2_1 then ((wX p0.Table (gd p0.Clear v2_2.toNat)).isSome) else true) <| need (bif (v2_1 && (gt (wX p0.Table (gd p0.Clear v2_2.toNat)))) then ((jB p0.Table (gd p0.Clear v2_2.toNat)).isSome) else true) <| some (.next (((v2_1 && (gt (wX p0.Table (gd p0.Clear v2_2.toNat)))) && (gt (jB p0.Table (gd p0.Clear v2_2.toNat))).Radar),wr .i64 (v2_2+1)))) else (some (.done (.inl v2_1)))
def F46_L3 (p0:TRegulate) (v3_1:Bool) (v3_2:Int):Option (Lp (Bool × Int) ((Bool) ⊕ (Int))) :=
 bif (bLt v3_2 (p0.Blocked.length:Nat)) then (need (inb v3_2 p0.Blocked.length) <| need (bif v3_1 then ((wX p0.Table ((gd p0.Blocked v3_2.toNat).Channel)).isSome) else true) <| need (bif (v3_1 && (gt (wX p0.Table ((gd p0.Blocked v3_2.toNat).Channel)))) then ((F17 ((gd p0.Blocked v3_2.toNat).Until)).isSome) else true) <| need (bif ((v3_1 && (gt (wX p0.Table ((gd p0.Blocked v3_2.toNat).Channel)))) && (!(gt (F17 ((gd p0.Blocked v3_2.toNat).Until))))) then ((F53 p0.Clear ((gd p0.Blocked v3_2.toNat).Channel)).isSome) else true) <| some (.next ((((v3_1 && (gt (wX p0.Table ((gd p0.Blocked v3_2.toNat).Channel)))) && (!(gt (F17 ((gd p0.Blocked v3_2.toNat).Until))))) && (!(gt (F53 p0.Clear ((gd p0.Blocked v3_2.toNat).Channel))))),wr .i64 (v3_2+1)))) else (some (.done (.inl v3_1)))
def F46_L4 (p0:TRegulate) (v4_1:Bool) (v4_2:Int):Option (Lp (Bool × Int) ((Bool) ⊕ (Int))) :=
 bif (bLt v4_2 (p0.Clear.length:Nat)) then (need (inb v4_2 p0.Clear.length) <| need (bif v4_1 then ((wX p0.Table (gd p0.Clear v4_2.toNat)).isSome) else true) <| need (bif (v4_1 && (gt (wX p0.Table (gd p0.Clear v4_2.toNat)))) then ((jB p0.Table (gd p0.Clear v4_2.toNat)).isSome) else true) <| some (.next (((v4_1 && (gt (wX p0.Table (gd p0.Clear v4_2.toNat)))) && (gt (jB p0.Table (gd p0.Clear v4_2.toNat))).Radar),wr .i64 (v4_2+1)))) else (some (.done (.inl v4_1)))
def F46 (p0:TRegulate):Option (Int) :=
 (F16 p0.Table).bind fun r1=>need (bif r1 then ((wX p0.Table p0.Channel).isSome) else true) <| need (bif (r1 && (gt (wX p0.Table p0.Channel))) then ((F17 p0.Heard).isSome) else true) <| need (bif ((r1 && (gt (wX p0.Table p0.Channel))) && (!(gt (F17 p0.Heard)))) then ((F17 p0.At).isSome) else true) <| bif p0.Moving then (need (bif (((((r1 && (gt (wX p0.Table p0.Channel))) && (!(gt (F17 p0.Heard)))) && (!(gt (F17 p0.At)))) && ((!p0.Lead) || (bEq p0.Heard 0))) && p0.Stopped) then ((wX p0.Table p0.To).isSome) else true) <| need (bif ((((((r1 && (gt (wX p0.Table p0.Channel))) && (!(gt (F17 p0.Heard)))) && (!(gt (F17 p0.At)))) && ((!p0.Lead) || (bEq p0.Heard 0))) && p0.Stopped) && (gt (wX p0.Table p0.To))) then ((cO p0.Blocked).isSome) else true) <| need (bif (((((((r1 && (gt (wX p0.Table p0.Channel))) && (!(gt (F17 p0.Heard)))) && (!(gt (F17 p0.At)))) && ((!p0.Lead) || (bEq p0.Heard 0))) && p0.Stopped) && (gt (wX p0.Table p0.To))) && (gt (cO p0.Blocked))) then ((F82_0 p0.Clear).isSome) else true) <| lp (yF (fun s=>fS p0 s.1 s.2) (((((((((r1 && (gt (wX p0.Table p0.Channel))) && (!(gt (F17 p0.Heard)))) && (!(gt (F17 p0.At)))) && ((!p0.Lead) || (bEq p0.Heard 0))) && p0.Stopped) && (gt (wX p0.Table p0.To))) && (gt (cO p0.Blocked))) && (gt (F82_0 p0.Clear))),0)) (fun w1_3=>lp (yF (fun s=>fT p0 s.1 s.2) (w1_3,0)) (fun w2_3=>bif (!w2_3) then (some 8) else (some 0)) some) some) else (need (bif ((((((r1 && (gt (wX p0.Table p0.Channel))) && (!(gt (F17 p0.Heard)))) && (!(gt (F17 p0.At)))) && ((!p0.Lead) || (bEq p0.Heard 0))) && (bEq p0.To 0)) && (bEq p0.At 0)) then ((cO p0.Blocked).isSome) else true) <| need (bif (((((((r1 && (gt (wX p0.Table p0.Channel))) && (!(gt (F17 p0.Heard)))) && (!(gt (F17 p0.At)))) && ((!p0.Lead) || (bEq p0.Heard 0))) && (bEq p0.To 0)) && (bEq p0.At 0)) && (gt (cO p0.Blocked))) then ((F82_0 p0.Clear).isSome) else true) <| lp (yF (fun s=>F46_L3 p0 s.1 s.2) (((((((((r1 && (gt (wX p0.Table p0.Channel))) && (!(gt (F17 p0.Heard)))) && (!(gt (F17 p0.At)))) && ((!p0.Lead) || (bEq p0.Heard 0))) && (bEq p0.To 0)) && (bEq p0.At 0)) && (gt (cO p0.Blocked))) && (gt (F82_0 p0.Clear))),0)) (fun w3_3=>lp (yF (fun s=>F46_L4 p0 s.1 s.2) (w3_3,0)) (fun w4_3=>bif (!w4_3) then (some 8) else (some 0)) some) some)
def body46:List AV->AR
 | [v0]=>.pure (aK 10 xA v0/\(F46 (yJ (aL v0))).isSome=true) (.int .i64 (gt (F46 (yJ (aL v0)))))
 | _=>.fail
theorem ok46:FnOk Tryz.prog 46 (pureC body46):=by
 refine yM body46 (rs:=[.tmp 2]) Tryz.func46 (by kernel_rfl) rfl rfl ?_
 intro l ob v hb hob
 unfold body46 at hb
 split at hb
 ·rename_i v0
  injection hb with q1 q2;subst q1 q2
  obtain ⟨hk0_0,hob⟩:=hob
  obtain ⟨r,H⟩:=oE.1 hob
  rw [H,zN]
  have hw0:=tT hk0_0
  generalize yJ (aL v0)=p0 at H hw0
  refine ⟨[.agg [.ro 3 p0.Table.length false (enR c_TRegulateChannel p0.Table),.int .i64 p0.Channel,.bool p0.Lead,.int .i64 p0.Heard,.bool p0.Stopped,.bool p0.Moving,.int .i64 p0.To,.int .i64 p0.At,.ro 2 p0.Blocked.length false (enR zB p0.Blocked),.ro 1 p0.Clear.length false (enR yG p0.Clear)]],_,(fun E vs F=>yC hw0.1 F (fun vs F=>F)),rfl,rfl,?_⟩
  rw [Tryz.ntmps46]
  simp only [lC,lN,Nat.reduceAdd,Nat.reduceSub,rS,rZ,aC,aN]
  unfold F46 at H
  try dsimp only at H
  refine sq zA ?_
  simp only [go_sem]
  refine zC ?_
  obtain ⟨r1,e2,H⟩:=bsi H
  obtain ⟨f3,H⟩:=zP.1 H
  replace f3:=xR.1 f3
  obtain ⟨f4,H⟩:=zP.1 H
  replace f4:=xR.1 f4
  obtain ⟨f5,H⟩:=zP.1 H
  replace f5:=xR.1 f5
  refine rg ct46t0_ok ?_
  simp only [go_sem,Nat.reduceLeDiff,Nat.reduceLT,Nat.reduceAdd,ct46t0_16,dO,ct46t0_17,tW,ct46t0_18,wC,e2]
  repeat ((with_reducible refine And.intro ?_ ?_);focus exact bn1 f3 f4 f5)
  refine zC ?_
  refine sq zA ?_
  simp only [go_sem,Nat.reduceLeDiff,Nat.reduceLT,Nat.reduceAdd]
  repeat ((with_reducible refine aI ?_ ?_);exact an4)
  refine condM' rfl trivial (fun hc=>?_) (fun hc=>?_)
  ·have hk6:(p0.Moving)=false:=by simpa using hc
   replace H:=zK hc H
   refine rg zA ?_
   simp only [go_sem,Nat.reduceLeDiff,Nat.reduceLT,Nat.reduceAdd]
   repeat ((with_reducible refine aI ?_ ?_);exact an4)
   refine zC ?_
   obtain ⟨f20,H⟩:=zP.1 H
   replace f20:=xR.1 f20
   obtain ⟨f21,H⟩:=zP.1 H
   replace f21:=xR.1 f21
   refine rg ct46t2_ok ?_
   simp only [go_sem,Nat.reduceLeDiff,Nat.reduceLT,Nat.reduceAdd,ct46t2_80,gM,ct46t2_82,gN]
   repeat ((with_reducible refine And.intro ?_ ?_);focus exact bn0 f20 f21)
   refine zC ?_
   refine sq zA ?_
   simp only [go_sem,Nat.reduceLeDiff,Nat.reduceLT,Nat.reduceAdd]
   repeat ((with_reducible refine aI ?_ ?_);exact an0)
   refine xN ?_
   refine xP (fun s:Bool × Int=>(.top::.ptr 0 0 0 0::.top::.bool s.1::tp 69 (.ro 2 p0.Blocked.length false (enR zB p0.Blocked)::.int .i64 (p0.Blocked.length:Nat)::.int .i64 s.2::tp 44 []))) (fun s=>[.lit 30 [.ro 3 p0.Table.length false (enR c_TRegulateChannel p0.Table),.int .i64 p0.Channel,.bool p0.Lead,.int .i64 p0.Heard,.bool p0.Stopped,.bool p0.Moving,.int .i64 p0.To,.int .i64 p0.At,.ro 2 p0.Blocked.length false (enR zB p0.Blocked),.ro 1 p0.Clear.length false (enR yG p0.Clear)]]) (fun e:Bool=>(.top::.ptr 0 0 0 0::.top::.bool e::tp 116 [])) (fun e=>[.lit 30 [.ro 3 p0.Table.length false (enR c_TRegulateChannel p0.Table),.int .i64 p0.Channel,.bool p0.Lead,.int .i64 p0.Heard,.bool p0.Stopped,.bool p0.Moving,.int .i64 p0.To,.int .i64 p0.At,.ro 2 p0.Blocked.length false (enR zB p0.Blocked),.ro 1 p0.Clear.length false (enR yG p0.Clear)]]) H ?_ (fun s o H hn1_3 hn2_3=>?_) (fun w3_3 H=>?_)
   ·refine Sq [(0,1)] ?_ ?_
    ·simp [CvL,Cv,yB,tp]
    ·exact dQ
   ·obtain ⟨v3_1,v3_2⟩:=s
    unfold F46_L3 at H
    try dsimp only at H ⊢
    try simp only [tp]
    refine sq zA ?_
    simp only [go_sem]
    refine zC ?_
    refine condM' rfl trivial (fun hc=>?_) (fun hc=>?_)
    ·have hk22:(bLt v3_2 (p0.Blocked.length:Nat))=false:=by simpa using hc
     replace H:=zK hc H
     refine rg zA ?_
     simp only [go_sem]
     refine ⟨_,(Option.some.inj H).symm,?_⟩
     refine Sq [(0,1)] ?_ ?_
     ·simp [CvL,Cv,yB]
     ·exact dQ
    have hk22:(bLt v3_2 (p0.Blocked.length:Nat))=true:=by simpa using hc
    replace H:=zL hc H
    refine rg zA ?_
    simp only [go_sem]
    refine zC ?_
    refine xN ?_
    refine zC ?_
    obtain ⟨f23,H⟩:=nI H
    refine rg zA ?_
    simp only [go_sem,Nat.reduceLT,Nat.reduceAdd,f23]
    repeat ((with_reducible refine aI ?_ ?_);exact an4)
    obtain ⟨f24,H⟩:=zP.1 H
    replace f24:=xR.1 f24
    obtain ⟨f25,H⟩:=zP.1 H
    replace f25:=xR.1 f25
    obtain ⟨f26,H⟩:=zP.1 H
    replace f26:=xR.1 f26
    refine rg ct46t3_ok ?_
    simp only [go_sem,Nat.reduceLeDiff,Nat.reduceLT,Nat.reduceAdd,ct46t3_17,tW,ct46t3_18,wC,ct46t3_53,fX]
    repeat ((with_reducible refine And.intro ?_ ?_);focus exact bn1 f24 f25 f26)
    refine rg zA ?_
    simp only [go_sem]
    refine ⟨_,(Option.some.inj H).symm,?_⟩
    refine Sq [(0,1)] ?_ ?_
    ·simp [CvL,Cv,yB]
    ·exact dQ
   ·try dsimp only at H ⊢
    try simp only [tp]
    try simp only [yS]
    refine zC ?_
    refine sq zA ?_
    simp only [go_sem,Nat.reduceLT,Nat.reduceAdd]
    repeat ((with_reducible refine aI ?_ ?_);exact an0)
    refine xN ?_
    refine xP (fun s:Bool × Int=>(.top::.ptr 0 0 0 0::.top::.bool s.1::tp 97 (.ro 1 p0.Clear.length false (enR yG p0.Clear)::.int .i64 (p0.Clear.length:Nat)::.int .i64 s.2::tp 16 []))) (fun s=>[.lit 30 [.ro 3 p0.Table.length false (enR c_TRegulateChannel p0.Table),.int .i64 p0.Channel,.bool p0.Lead,.int .i64 p0.Heard,.bool p0.Stopped,.bool p0.Moving,.int .i64 p0.To,.int .i64 p0.At,.ro 2 p0.Blocked.length false (enR zB p0.Blocked),.ro 1 p0.Clear.length false (enR yG p0.Clear)]]) (fun e:Bool=>(.top::.top::.top::.bool e::tp 116 [])) (fun e=>[.dead]) H ?_ (fun s o H hn1_4 hn2_4=>?_) (fun w4_3 H=>?_)
    ·refine Sq [(0,1)] ?_ ?_
     ·simp [CvL,Cv,yB,tp]
     ·exact dQ
    ·obtain ⟨v4_1,v4_2⟩:=s
     unfold F46_L4 at H
     try dsimp only at H ⊢
     try simp only [tp]
     refine sq zA ?_
     simp only [go_sem]
     refine zC ?_
     refine condM' rfl trivial (fun hc=>?_) (fun hc=>?_)
     ·have hk27:(bLt v4_2 (p0.Clear.length:Nat))=false:=by simpa using hc
      replace H:=zK hc H
      refine rg zA ?_
      simp only [go_sem]
      refine ⟨_,(Option.some.inj H).symm,?_⟩
      refine Sq [(0,1)] ?_ ?_
      ·simp [CvL,Cv]
      ·exact dQ
     have hk27:(bLt v4_2 (p0.Clear.length:Nat))=true:=by simpa using hc
     replace H:=zL hc H
     refine rg zA ?_
     simp only [go_sem]
     refine zC ?_
     refine xN ?_
     refine zC ?_
     obtain ⟨f28,H⟩:=nI H
     refine rg zA ?_
     simp only [go_sem,Nat.reduceLT,f28]
     repeat ((with_reducible refine aI ?_ ?_);exact an4)
     obtain ⟨f29,H⟩:=zP.1 H
     replace f29:=xR.1 f29
     obtain ⟨f30,H⟩:=zP.1 H
     replace f30:=xR.1 f30
     refine rg ct46t4_ok ?_
     simp only [go_sem,Nat.reduceLT,Nat.reduceAdd,ct46t4_18,wC,ct46t4_24,uH]
     repeat ((with_reducible refine And.intro ?_ ?_);focus exact bn0 f29 f30)
     refine rg zA ?_
     simp only [go_sem]
     refine ⟨_,(Option.some.inj H).symm,?_⟩
     refine Sq [(0,1)] ?_ ?_
     ·simp [CvL,Cv,yB]
     ·exact dQ
    ·try dsimp only at H ⊢
     try simp only [tp]
     try simp only [yS]
     refine zC ?_
     refine sq zA ?_
     simp only [go_sem]
     refine zX rfl trivial (fun hc=>?_) (fun hc=>?_)
     ·have hk31:(w4_3)=false:=by simpa using hc
      replace H:=zL hc H
      refine sq zA ?_
      simp only [go_sem]
      refine rg zA ?_
      simp only [go_sem]
      obtain rfl:=Option.some.inj H
      exact fB
     have hk31:(w4_3)=true:=by simpa using hc
     replace H:=zK hc H
     refine rg zA ?_
     simp only [go_sem]
     refine sq zA ?_
     simp only [go_sem]
     refine rg zA ?_
     simp only [go_sem]
     obtain rfl:=Option.some.inj H
     exact fB
  have hk6:(p0.Moving)=true:=by simpa using hc
  replace H:=zL hc H
  obtain ⟨f7,H⟩:=zP.1 H
  replace f7:=xR.1 f7
  refine rg ct46t1_ok ?_
  simp only [go_sem,Nat.reduceLeDiff,Nat.reduceLT,Nat.reduceAdd,ct46t1_18,wC]
  repeat ((with_reducible refine And.intro ?_ ?_);focus exact bn2 f7)
  refine zC ?_
  obtain ⟨f8,H⟩:=zP.1 H
  replace f8:=xR.1 f8
  obtain ⟨f9,H⟩:=zP.1 H
  replace f9:=xR.1 f9
  refine rg ct46t2_ok ?_
  simp only [go_sem,Nat.reduceLeDiff,Nat.reduceLT,Nat.reduceAdd,ct46t2_80,gM,ct46t2_82,gN]
  repeat ((with_reducible refine And.intro ?_ ?_);focus exact bn0 f8 f9)
  refine zC ?_
  refine sq zA ?_
  simp only [go_sem,Nat.reduceLeDiff,Nat.reduceLT,Nat.reduceAdd]
  repeat ((with_reducible refine aI ?_ ?_);exact an0)
  refine xN ?_
  refine xP (fun s:Bool × Int=>(.top::.ptr 0 0 0 0::.top::.bool s.1::tp 69 (.ro 2 p0.Blocked.length false (enR zB p0.Blocked)::.int .i64 (p0.Blocked.length:Nat)::.int .i64 s.2::tp 44 []))) (fun s=>[.lit 30 [.ro 3 p0.Table.length false (enR c_TRegulateChannel p0.Table),.int .i64 p0.Channel,.bool p0.Lead,.int .i64 p0.Heard,.bool p0.Stopped,.bool p0.Moving,.int .i64 p0.To,.int .i64 p0.At,.ro 2 p0.Blocked.length false (enR zB p0.Blocked),.ro 1 p0.Clear.length false (enR yG p0.Clear)]]) (fun e:Bool=>(.top::.ptr 0 0 0 0::.top::.bool e::tp 116 [])) (fun e=>[.lit 30 [.ro 3 p0.Table.length false (enR c_TRegulateChannel p0.Table),.int .i64 p0.Channel,.bool p0.Lead,.int .i64 p0.Heard,.bool p0.Stopped,.bool p0.Moving,.int .i64 p0.To,.int .i64 p0.At,.ro 2 p0.Blocked.length false (enR zB p0.Blocked),.ro 1 p0.Clear.length false (enR yG p0.Clear)]]) H ?_ (fun s o H hn1_1 hn2_1=>?_) (fun w1_3 H=>?_)
  ·refine Sq [(0,1)] ?_ ?_
   ·simp [CvL,Cv,yB,tp]
   ·exact dQ
  ·obtain ⟨v1_1,v1_2⟩:=s
   unfold fS at H
   try dsimp only at H ⊢
   try simp only [tp]
   refine sq zA ?_
   simp only [go_sem]
   refine zC ?_
   refine condM' rfl trivial (fun hc=>?_) (fun hc=>?_)
   ·have hk10:(bLt v1_2 (p0.Blocked.length:Nat))=false:=by simpa using hc
    replace H:=zK hc H
    refine rg zA ?_
    simp only [go_sem]
    refine ⟨_,(Option.some.inj H).symm,?_⟩
    refine Sq [(0,1)] ?_ ?_
    ·simp [CvL,Cv,yB]
    ·exact dQ
   have hk10:(bLt v1_2 (p0.Blocked.length:Nat))=true:=by simpa using hc
   replace H:=zL hc H
   refine rg zA ?_
   simp only [go_sem]
   refine zC ?_
   refine xN ?_
   refine zC ?_
   obtain ⟨f11,H⟩:=nI H
   refine rg zA ?_
   simp only [go_sem,Nat.reduceLT,Nat.reduceAdd,f11]
   repeat ((with_reducible refine aI ?_ ?_);exact an4)
   obtain ⟨f12,H⟩:=zP.1 H
   replace f12:=xR.1 f12
   obtain ⟨f13,H⟩:=zP.1 H
   replace f13:=xR.1 f13
   obtain ⟨f14,H⟩:=zP.1 H
   replace f14:=xR.1 f14
   refine rg ct46t3_ok ?_
   simp only [go_sem,Nat.reduceLeDiff,Nat.reduceLT,Nat.reduceAdd,ct46t3_17,tW,ct46t3_18,wC,ct46t3_53,fX]
   repeat ((with_reducible refine And.intro ?_ ?_);focus exact bn1 f12 f13 f14)
   refine rg zA ?_
   simp only [go_sem]
   refine ⟨_,(Option.some.inj H).symm,?_⟩
   refine Sq [(0,1)] ?_ ?_
   ·simp [CvL,Cv,yB]
   ·exact dQ
  ·try dsimp only at H ⊢
   try simp only [tp]
   try simp only [yS]
   refine zC ?_
   refine sq zA ?_
   simp only [go_sem,Nat.reduceLT,Nat.reduceAdd]
   repeat ((with_reducible refine aI ?_ ?_);exact an0)
   refine xN ?_
   refine xP (fun s:Bool × Int=>(.top::.ptr 0 0 0 0::.top::.bool s.1::tp 97 (.ro 1 p0.Clear.length false (enR yG p0.Clear)::.int .i64 (p0.Clear.length:Nat)::.int .i64 s.2::tp 16 []))) (fun s=>[.lit 30 [.ro 3 p0.Table.length false (enR c_TRegulateChannel p0.Table),.int .i64 p0.Channel,.bool p0.Lead,.int .i64 p0.Heard,.bool p0.Stopped,.bool p0.Moving,.int .i64 p0.To,.int .i64 p0.At,.ro 2 p0.Blocked.length false (enR zB p0.Blocked),.ro 1 p0.Clear.length false (enR yG p0.Clear)]]) (fun e:Bool=>(.top::.top::.top::.bool e::tp 116 [])) (fun e=>[.dead]) H ?_ (fun s o H hn1_2 hn2_2=>?_) (fun w2_3 H=>?_)
   ·refine Sq [(0,1)] ?_ ?_
    ·simp [CvL,Cv,yB,tp]
    ·exact dQ
   ·obtain ⟨v2_1,v2_2⟩:=s
    unfold fT at H
    try dsimp only at H ⊢
    try simp only [tp]
    refine sq zA ?_
    simp only [go_sem]
    refine zC ?_
    refine condM' rfl trivial (fun hc=>?_) (fun hc=>?_)
    ·have hk15:(bLt v2_2 (p0.Clear.length:Nat))=false:=by simpa using hc
     replace H:=zK hc H
     refine rg zA ?_
     simp only [go_sem]
     refine ⟨_,(Option.some.inj H).symm,?_⟩
     refine Sq [(0,1)] ?_ ?_
     ·simp [CvL,Cv]
     ·exact dQ
    have hk15:(bLt v2_2 (p0.Clear.length:Nat))=true:=by simpa using hc
    replace H:=zL hc H
    refine rg zA ?_
    simp only [go_sem]
    refine zC ?_
    refine xN ?_
    refine zC ?_
    obtain ⟨f16,H⟩:=nI H
    refine rg zA ?_
    simp only [go_sem,Nat.reduceLT,f16]
    repeat ((with_reducible refine aI ?_ ?_);exact an4)
    obtain ⟨f17,H⟩:=zP.1 H
    replace f17:=xR.1 f17
    obtain ⟨f18,H⟩:=zP.1 H
    replace f18:=xR.1 f18
    refine rg ct46t4_ok ?_
    simp only [go_sem,Nat.reduceLT,Nat.reduceAdd,ct46t4_18,wC,ct46t4_24,uH]
    repeat ((with_reducible refine And.intro ?_ ?_);focus exact bn0 f17 f18)
    refine rg zA ?_
    simp only [go_sem]
    refine ⟨_,(Option.some.inj H).symm,?_⟩
    refine Sq [(0,1)] ?_ ?_
    ·simp [CvL,Cv,yB]
    ·exact dQ
   ·try dsimp only at H ⊢
    try simp only [tp]
    try simp only [yS]
    refine zC ?_
    refine sq zA ?_
    simp only [go_sem]
    refine zX rfl trivial (fun hc=>?_) (fun hc=>?_)
    ·have hk19:(w2_3)=false:=by simpa using hc
     replace H:=zL hc H
     refine sq zA ?_
     simp only [go_sem]
     refine rg zA ?_
     simp only [go_sem]
     obtain rfl:=Option.some.inj H
     exact fB
    have hk19:(w2_3)=true:=by simpa using hc
    replace H:=zK hc H
    refine rg zA ?_
    simp only [go_sem]
    refine sq zA ?_
    simp only [go_sem]
    refine rg zA ?_
    simp only [go_sem]
    obtain rfl:=Option.some.inj H
    exact fB
 ·cases hb
def F47 (p0:List TRegulateBlock):Option (List TRegulateBlock) :=
 need (capb 16 p0.length) <| some p0
def body47:List AV->List ABlk->ED
 | [v0],h=>(fun z0=>.ed [] (lK yN 2 (roD (zH h []) v0)/\xJ (zH h []) v0/\z0.isSome=true) (.sl 0 2 0 (gt z0).length false) [.row 97 2 (gt z0).length (enR zB (gt z0))]) (F47 (lA zF (roD (zH h []) v0)))
 | _,_=>.fail
theorem ok47:FnOk Tryz.prog 47 (edC body47):=by
 refine xO body47 (rs:=[.tmp 2]) Tryz.func47 (by kernel_rfl) rfl rfl ?_
 intro l h bs ob q0 g0 hb hob
 unfold body47 at hb
 dsimp only at hb
 split at hb
 ·rename_i v0
  injection hb with q1 q2 q3 q4;subst q1 q2 q3 q4
  obtain ⟨hk0,hk1,hob⟩:=hob
  obtain ⟨r,H⟩:=oE.1 hob
  rw [H,zN]
  have hw0:=lK_wk (fun r h=>xD h) hk0
  generalize lA zF (roD (zH h []) v0)=p0 at H hw0
  unfold F47 at H
  obtain ⟨f1,H⟩:=nC H
  obtain rfl:=Option.some.inj H
  refine ⟨[.ro 2 p0.length false (enR zB p0)],[],rfl,⟨yR hk1 hw0,trivial⟩,trivial,trivial,⟨yY zM,trivial⟩,⟨zW,trivial⟩,(by simp only [noro]),?_⟩
  rw [Tryz.ntmps47]
  simp only [lC,lN,Nat.reduceAdd,Nat.reduceSub,rS,rZ,aC,aN]
  refine rg zA ?_
  have nfs:∀ x y,nref (enR zB p0 x y):=fun x y=>nfR_en zM
  generalize hc:enR zB p0=c at nfs hw0
  cases hn:p0.length with
  | zero =>
   simp only [go_sem,Nat.reduceLeDiff,Nat.reduceAdd]
   have hp:p0=[]:=List.eq_nil_of_length_eq_zero hn
   subst hp;subst hc
   refine ⟨?_,?_⟩
   ·refine yE [] [none] ?_ ?_ ?_ ?_ (by rfl) (by rfl)
    ·simp only [wJ]
    ·simp only [tU]
    ·simp [fzV,Cv]
    ·simp only [fzH,dB,and_true,CvH,and_true];exact zQ
   ·refine ⟨by omega,yE [] [some 1] ?_ ?_ ?_ ?_ (by rfl) (by rfl)⟩
    ·simp only [Nat.add_zero,wJ,inL,bT,geth,cond_false,true_and,Nat.zero_add,Nat.le_refl]
    ·simp only [bE,tU,and_self]
    ·simp [fzV,inL,Cv,yB]
    ·simp only [fzH,dB,fzB,inL,cond_false,and_true,CvH,and_true];exact CvB_row0 zM
  | succ m =>
   simp only [go_sem,Nat.reduceLeDiff,Nat.reduceAdd,reduceCtorEq]
   refine ⟨by omega,yE [] [some 1] ?_ ?_ ?_ ?_ (by rfl) (by rfl)⟩
   ·simp only [wJ,inL,bT,geth,cond_false,true_and,Nat.zero_add,Nat.le_refl]
   ·simp only [bE,tU,and_self]
   ·simp [fzV,inL,Cv,yB]
   ·simp only [fzH,dB,fzB,inL,cond_false,and_true,CvH,and_true];rw [← hn,← hc];exact zJ zM rfl (fun x y hx hy=>by simp only [uL,Nat.not_lt_zero,if_false,Nat.sub_zero])
 ·cases hb
def F48 (p0:List Int):Option (List Int) :=
 need (capb 8 p0.length) <| some p0
def body48:List AV->List ABlk->ED
 | [v0],h=>(fun z0=>.ed [] (lK kE 1 (roD (zH h []) v0)/\xJ (zH h []) v0/\(F48 (lA xQ (roD (zH h []) v0))).isSome=true) (.sl 0 1 0 z0.length false) [.row 3 1 z0.length (enR yG z0)]) (gt (F48 (lA xQ (roD (zH h []) v0))))
 | _,_=>.fail
theorem ok48:FnOk Tryz.prog 48 (edC body48):=by
 refine xO body48 (rs:=[.tmp 2]) Tryz.func48 (by kernel_rfl) rfl rfl ?_
 intro l h bs ob q0 g0 hb hob
 unfold body48 at hb
 dsimp only at hb
 split at hb
 ·rename_i v0
  injection hb with q1 q2 q3 q4;subst q1 q2 q3 q4
  obtain ⟨hk0,hk1,hob⟩:=hob
  obtain ⟨r,H⟩:=oE.1 hob
  rw [H,zN]
  have hw0:=lK_wk (fun r h=>jJ h) hk0
  generalize lA xQ (roD (zH h []) v0)=p0 at H hw0
  unfold F48 at H
  obtain ⟨f1,H⟩:=nC H
  obtain rfl:=Option.some.inj H
  refine ⟨[.ro 1 p0.length false (enR yG p0)],[],rfl,⟨yR hk1 hw0,trivial⟩,trivial,trivial,⟨yY xL,trivial⟩,⟨zW,trivial⟩,(by simp only [noro]),?_⟩
  rw [Tryz.ntmps48]
  simp only [lC,lN,Nat.reduceAdd,Nat.reduceSub,rS,rZ,aC,aN]
  refine rg zA ?_
  have nfs:∀ x y,nref (enR yG p0 x y):=fun x y=>nfR_en xL
  generalize hc:enR yG p0=c at nfs hw0
  cases hn:p0.length with
  | zero =>
   simp only [go_sem,Nat.reduceLeDiff]
   have hp:p0=[]:=List.eq_nil_of_length_eq_zero hn
   subst hp;subst hc
   refine ⟨?_,?_⟩
   ·refine yE [] [none] ?_ ?_ ?_ ?_ (by rfl) (by rfl)
    ·simp only [wJ]
    ·simp only [tU]
    ·simp [fzV,Cv]
    ·simp only [fzH,dB,and_true,CvH,and_true];exact zQ
   ·refine ⟨by omega,yE [] [some 1] ?_ ?_ ?_ ?_ (by rfl) (by rfl)⟩
    ·simp only [Nat.add_zero,wJ,inL,bT,geth,cond_false,true_and,Nat.zero_add,Nat.le_refl]
    ·simp only [bE,tU,and_self]
    ·simp [fzV,inL,Cv,yB]
    ·simp only [fzH,dB,fzB,inL,cond_false,and_true,CvH,and_true];exact CvB_row0 xL
  | succ m =>
   simp only [go_sem,Nat.reduceLeDiff,reduceCtorEq]
   refine ⟨by omega,yE [] [some 1] ?_ ?_ ?_ ?_ (by rfl) (by rfl)⟩
   ·simp only [wJ,inL,bT,geth,cond_false,true_and,Nat.zero_add,Nat.le_refl]
   ·simp only [bE,tU,and_self]
   ·simp [fzV,inL,Cv,yB]
   ·simp only [fzH,dB,fzB,inL,cond_false,and_true,CvH,and_true];rw [← hn,← hc];exact zJ xL rfl (fun x y hx hy=>by simp only [uL,Nat.not_lt_zero,if_false,Nat.sub_zero])
 ·cases hb
def ct22t0:Ct:=tab [(46,pureC body46)]
theorem ct22t0_ok:yP Tryz.prog ct22t0:=zE ok46 <| zO
theorem ct22t0_46 (l:List AV) (h:List ABlk):ct22t0 46 l h=pureC body46 l h:=rfl
def ct22t1:Ct:=tab [(17,pureC tW)]
theorem ct22t1_ok:yP Tryz.prog ct22t1:=zE ok17 <| zO
theorem ct22t1_17 (l:List AV) (h:List ABlk):ct22t1 17 l h=pureC tW l h:=rfl
def ct22t2:Ct:=tab [(15,edC dN),(47,edC body47),(48,edC body48)]
theorem ct22t2_ok:yP Tryz.prog ct22t2:=zE ok15 <| zE ok47 <| zE ok48 <| zO
theorem ct22t2_15 (l:List AV) (h:List ABlk):ct22t2 15 l h=edC dN l h:=rfl
theorem ct22t2_47 (l:List AV) (h:List ABlk):ct22t2 47 l h=edC body47 l h:=rfl
theorem ct22t2_48 (l:List AV) (h:List ABlk):ct22t2 48 l h=edC body48 l h:=rfl
def F22 (p0:TRegulate) (p1:Int) (p2:Int):Option ((Option TRegulate) × Int) :=
 (F46 p0).bind fun r1=>bif (!bEq r1 0) then (some (none,r1)) else ((F17 p1).bind fun r4=>bif (r4 || (bLt p2 0)) then (some (none,2)) else ((F15 p0.Table).bind fun r7=>(F47 p0.Blocked).bind fun r9=>(F48 p0.Clear).bind fun r11=>some ((some (TRegulate.mk r7 p0.Channel p0.Lead p0.Heard p0.Stopped p0.Moving p0.To p0.At r9 r11)),0)))
def qE:List AV->List ABlk->ED
 | [v0,v1,v2],h=>(fun z0=>.ed [] (aK 10 xA (roD (zH h []) v0)/\xJ (zH h []) v0/\iK .i64 (roD (zH h []) v1)/\xJ (zH h []) v1/\iK .i64 (roD (zH h []) v2)/\xJ (zH h []) v2/\(F22 (yJ (aL (roD (zH h []) v0))) (iA (roD (zH h []) v1)) (iA (roD (zH h []) v2))).isSome=true) (.tup [bif z0.1.isSome then .ptr 0 0 0 0 else .nilp,.int .i64 (z0.2)]) [bif z0.1.isSome then .lit 30 [.sl 1 3 0 (((gt z0.1).Table).length) false,.int .i64 ((gt z0.1).Channel),.bool ((gt z0.1).Lead),.int .i64 ((gt z0.1).Heard),.bool ((gt z0.1).Stopped),.bool ((gt z0.1).Moving),.int .i64 ((gt z0.1).To),.int .i64 ((gt z0.1).At),.sl 2 2 0 (((gt z0.1).Blocked).length) false,.sl 3 1 0 (((gt z0.1).Clear).length) false] else .dead,bif z0.1.isSome then .row 35 3 (((gt z0.1).Table).length) (enR c_TRegulateChannel ((gt z0.1).Table)) else .dead,bif z0.1.isSome then .row 97 2 (((gt z0.1).Blocked).length) (enR zB ((gt z0.1).Blocked)) else .dead,bif z0.1.isSome then .row 3 1 (((gt z0.1).Clear).length) (enR yG ((gt z0.1).Clear)) else .dead]) (gt (F22 (yJ (aL (roD (zH h []) v0))) (iA (roD (zH h []) v1)) (iA (roD (zH h []) v2))))
 | _,_=>.fail
theorem ok22:FnOk Tryz.prog 22 (edC qE):=by
 refine xO qE (rs:=[.tmp 6,.tmp 7]) Tryz.func22 (by kernel_rfl) rfl rfl ?_
 intro l h bs ob q0 g0 hb hob
 unfold qE at hb
 dsimp only at hb
 split at hb
 ·rename_i v0 v1 v2
  injection hb with q1 q2 q3 q4;subst q1 q2 q3 q4
  obtain ⟨hk0_0,hk0_1,hk1_0,hk1_1,hk2_0,hk2_1,hob⟩:=hob
  obtain ⟨r,H⟩:=oE.1 hob
  rw [H,zN]
  have hw0:=tT hk0_0
  obtain ⟨p0,hp_p0⟩:∃ p0,p0=yJ (aL (roD (zH h []) v0)):=⟨_,rfl⟩
  rw [← hp_p0] at H hw0
  have hw1:=iK_wk hk1_0
  obtain ⟨p1,hp_p1⟩:∃ p1,p1=iA (roD (zH h []) v1):=⟨_,rfl⟩
  rw [← hp_p1] at H hw1
  have hw2:=iK_wk hk2_0
  obtain ⟨p2,hp_p2⟩:∃ p2,p2=iA (roD (zH h []) v2):=⟨_,rfl⟩
  rw [← hp_p2] at H hw2
  refine ⟨[.agg [.ro 3 p0.Table.length false (enR c_TRegulateChannel p0.Table),.int .i64 p0.Channel,.bool p0.Lead,.int .i64 p0.Heard,.bool p0.Stopped,.bool p0.Moving,.int .i64 p0.To,.int .i64 p0.At,.ro 2 p0.Blocked.length false (enR zB p0.Blocked),.ro 1 p0.Clear.length false (enR yG p0.Clear)],.int .i64 p1,.int .i64 p2],[],rfl,⟨(yR hk0_1 hw0),⟨(yR hk1_1 hw1),⟨(yR hk2_1 hw2),trivial⟩⟩⟩,trivial,trivial,⟨(nfB_bif trivial trivial),⟨(nfB_bif (yY zI) trivial),⟨(nfB_bif (yY zM) trivial),⟨(nfB_bif (yY xL) trivial),trivial⟩⟩⟩⟩,⟨(noroB_bif (by simp only [kP,yK,noro,and_self]) trivial),⟨(noroB_bif zW trivial),⟨(noroB_bif zW trivial),⟨(noroB_bif zW trivial),trivial⟩⟩⟩⟩,(by first|(simp only [noro,yK,and_self];done)|(simp only [noro,yK];and_intros<;>first|trivial|exact xX (by simp only [noro]) (by simp only [noro])|(simp only [noro,yK,and_self]))),?_⟩
  rw [Tryz.ntmps22]
  simp only [lC,lN,Nat.reduceAdd,Nat.reduceSub,rS,rZ,aC,aN]
  unfold F22 at H
  try dsimp only at H
  refine sq zA ?_
  simp only [go_sem]
  refine zC ?_
  refine zC ?_
  obtain ⟨r1,e2,H⟩:=bsi H
  refine rg ct22t0_ok ?_
  simp only [go_sem,Nat.reduceLT,Nat.reduceAdd,ct22t0_46,body46,e2]
  repeat ((with_reducible refine aI ?_ ?_);exact an0)
  refine sq zA ?_
  simp only [go_sem]
  refine zX rfl trivial (fun hc=>?_) (fun hc=>?_)
  ·have hk3:(bEq r1 0)=false:=by simpa using hc
   replace H:=zL hc H
   refine sq zA ?_
   simp only [go_sem]
   refine rg zA ?_
   simp only [go_sem]
   obtain rfl:=Option.some.inj H
   refine yE [] [none,none,none,none] ?_ ?_ ?_ ?_ (by rfl) (by rfl)
   ·simp only [go_sem]
    try exact at0
   ·simp only [go_sem]
    try exact at0
   ·simp only [go_sem]
    exact gH (xB (by simp [Cv]) (xB uP uO))
   ·simp only [go_sem,CvH,Option.isSome_none]
    first|exact ⟨yI,yI,yI,yI⟩|trivial
  have hk3:(bEq r1 0)=true:=by simpa using hc
  replace H:=zK hc H
  refine rg zA ?_
  simp only [go_sem]
  refine zC ?_
  refine zC ?_
  obtain ⟨r4,e5,H⟩:=bsi H
  refine rg ct22t1_ok ?_
  simp only [go_sem,ct22t1_17,tW,e5]
  repeat ((with_reducible refine aI ?_ ?_);exact an3)
  refine zX rfl trivial (fun hc=>?_) (fun hc=>?_)
  ·have hk6:(r4 || (bLt p2 0))=true:=by simpa using hc
   replace H:=zL hc H
   refine sq zA ?_
   simp only [go_sem]
   refine rg zA ?_
   simp only [go_sem]
   obtain rfl:=Option.some.inj H
   refine yE [] [none,none,none,none] ?_ ?_ ?_ ?_ (by rfl) (by rfl)
   ·simp only [go_sem]
    try exact at0
   ·simp only [go_sem]
    try exact at0
   ·simp only [go_sem]
    exact gH (xB (by simp [Cv]) (xB uP uO))
   ·simp only [go_sem,CvH,Option.isSome_none]
    first|exact ⟨yI,yI,yI,yI⟩|trivial
  have hk6:(r4 || (bLt p2 0))=false:=by simpa using hc
  replace H:=zK hc H
  refine rg zA ?_
  simp only [go_sem]
  refine zC ?_
  obtain ⟨r7,e8,H⟩:=bsi H
  obtain ⟨r9,e10,H⟩:=bsi H
  obtain ⟨r11,e12,H⟩:=bsi H
  refine xC zU ct22t2_ok 3 (by kernel_rfl) (by kernel_rfl) ?_
  intro an han
  simp only [vH,wI,tC,xrD,xoD,uY,vL,List.append_nil,xF,refs,vN,mask,wN,place,xU,wO,xV,hit,inL,xH,ren,rnN,nrH,nrB,nrL,nr,rZ,rS,Nat.sub_self,Nat.add_zero,Nat.zero_add,Nat.reduceSub,Nat.lt_add_one,go_sem,Nat.reduceLeDiff,Nat.reduceLT,Nat.reduceAdd,Nat.reduceSub,Nat.reduceBEq,ct22t2_15,dN,ct22t2_47,body47,ct22t2_48,body48,e8,e10,e12]
  repeat ((with_reducible refine aI ?_ ?_);exact an5)
  refine sq zA ?_
  simp only [go_sem]
  refine rg zA ?_
  simp only [go_sem]
  obtain rfl:=Option.some.inj H
  refine yE [] [some 0,some 1,some 2,some 3] ?_ ?_ ?_ ?_ (by rfl) (by rfl)
  ·simp only [go_sem]
   try exact at0
  ·simp only [go_sem]
   try exact at0
  ·simp only [go_sem,Nat.reduceAdd]
   exact gH (xB (by simp [Cv,yB]) (xB uP uO))
  ·simp only [go_sem,CvH,zN,Option.isSome_some]
   first|exact ⟨(by simp [CvB,CvL,Cv,uD,geth,yB]),zJ zI cl (fun _ _ _ _=>rfl),zJ zM cl (fun _ _ _ _=>rfl),zJ xL cl (fun _ _ _ _=>rfl)⟩|trivial
 ·cases hb
def F85_0 (p0:Int) (p1_0_1:Int):Option (Bool) :=
 some (bEq p0 p1_0_1)
def qY:List AV->AR
 | [v0,v1]=>.pure (iK .i64 v0/\rM 1 v1/\rM 10 (rG v1 0)/\iK .i64 (rG (rG v1 0) 1)/\(F85_0 (iA v0) (iA (rG (rG v1 0) 1))).isSome=true) (.bool (gt (F85_0 (iA v0) (iA (rG (rG v1 0) 1)))))
 | _=>.fail
theorem ok85_0:FnOk Tryz.prog 85 (pureC qY):=by
 refine yM qY (rs:=[.tmp 3]) Tryz.func85 (by kernel_rfl) rfl rfl ?_
 intro l ob v hb hob
 unfold qY at hb
 split at hb
 ·rename_i v0 v1
  injection hb with q1 q2;subst q1 q2
  obtain ⟨hk0_0,hk1_0,hk1_1,hk1_2,hob⟩:=hob
  obtain ⟨r,H⟩:=oE.1 hob
  rw [H,zN]
  have hw0:=iK_wk hk0_0
  have hw1:=(fN (cells:=[.rptr 10 1 0 0 (fun _ y=>getL [AV.top,AV.int .i64 (iA (rG (rG v1 0) 1)),AV.top,AV.top,AV.top,AV.top,AV.top,AV.top,AV.top,AV.top] y)]) hk1_0 (fun y hy=>match y,hy with|0,_=>(fN (cells:=[AV.top,AV.int .i64 (iA (rG (rG v1 0) 1)),AV.top,AV.top,AV.top,AV.top,AV.top,AV.top,AV.top,AV.top]) hk1_1 (fun y hy=>match y,hy with|0,_=>yD|1,_=>iK_wk hk1_2|2,_=>yD|3,_=>yD|4,_=>yD|5,_=>yD|6,_=>yD|7,_=>yD|8,_=>yD|9,_=>yD|y+10,hy=>absurd hy (by omega)))|y+1,hy=>absurd hy (by omega)))
  generalize iA v0=p0 at H hw0
  generalize iA (rG (rG v1 0) 1)=p1_0_1 at H hw1
  refine ⟨[.int .i64 p0,.rptr 1 1 0 0 (fun _ y=>getL [.rptr 10 1 0 0 (fun _ y=>getL [.top,.int .i64 p1_0_1,.top,.top,.top,.top,.top,.top,.top,.top] y)] y)],_,(fun E vs F=>yC hw0.1 F (fun vs F=>yC hw1.1 F (fun vs F=>F))),rfl,rfl,?_⟩
  rw [Tryz.ntmps85]
  simp only [lC,lN,Nat.reduceAdd,Nat.reduceSub,rS,rZ,aC,aN]
  unfold F85_0 at H
  try dsimp only at H
  refine sq zA ?_
  simp only [go_sem]
  refine sq zA ?_
  simp only [go_sem,Nat.reduceLeDiff,Nat.reduceLT,Nat.reduceAdd]
  repeat ((with_reducible refine aI ?_ ?_);exact an4)
  refine rg zA ?_
  simp only [go_sem]
  obtain rfl:=Option.some.inj H
  exact fB
 ·cases hb
def ct95_0t0:Ct:=tab [(85,pureC qY)]
theorem ct95_0t0_ok:yP Tryz.prog ct95_0t0:=zE ok85_0 <| zO
theorem ct95_0t0_85 (l:List AV) (h:List ABlk):ct95_0t0 85 l h=pureC qY l h:=rfl
def F95_0_L1 (p0:List Int) (p1_0_1:Int) (v1_1:Int):Option (Lp (Int) ((Unit) ⊕ (Int))) :=
 bif (bLt v1_1 (p0.length:Nat)) then (need (inb v1_1 p0.length) <| (F85_0 (gd p0 v1_1.toNat) p1_0_1).bind fun r3=>bif r3 then (some (.done (.inr v1_1))) else (some (.next (wr .i64 (v1_1+1))))) else (some (.done (.inl ())))
def F95_0 (p0:List Int) (p1_0_1:Int):Option (Int) :=
 lp (yF (fun s=>F95_0_L1 p0 p1_0_1 s) 0) (fun _=>some (-1)) some
def eT:List AV->AR
 | [v0,.fn 85 [v1]]=>.pure (lK kE 1 v0/\rM 1 v1/\rM 10 (rG v1 0)/\iK .i64 (rG (rG v1 0) 1)/\(F95_0 (lA xQ v0) (iA (rG (rG v1 0) 1))).isSome=true) (.int .i64 (gt (F95_0 (lA xQ v0) (iA (rG (rG v1 0) 1)))))
 | _=>.fail
theorem ok95_0:FnOk Tryz.prog 95 (pureC eT):=by
 refine yM eT (rs:=[.tmp 4]) Tryz.func95 (by kernel_rfl) rfl rfl ?_
 intro l ob v hb hob
 unfold eT at hb
 split at hb
 ·rename_i v0 v1
  injection hb with q1 q2;subst q1 q2
  obtain ⟨hk0_0,hk1_0,hk1_1,hk1_2,hob⟩:=hob
  obtain ⟨r,H⟩:=oE.1 hob
  rw [H,zN]
  have hw0:=lK_wk (fun r h=>jJ h) hk0_0
  have hw1:=(fN (cells:=[.rptr 10 1 0 0 (fun _ y=>getL [AV.top,AV.int .i64 (iA (rG (rG v1 0) 1)),AV.top,AV.top,AV.top,AV.top,AV.top,AV.top,AV.top,AV.top] y)]) hk1_0 (fun y hy=>match y,hy with|0,_=>(fN (cells:=[AV.top,AV.int .i64 (iA (rG (rG v1 0) 1)),AV.top,AV.top,AV.top,AV.top,AV.top,AV.top,AV.top,AV.top]) hk1_1 (fun y hy=>match y,hy with|0,_=>yD|1,_=>iK_wk hk1_2|2,_=>yD|3,_=>yD|4,_=>yD|5,_=>yD|6,_=>yD|7,_=>yD|8,_=>yD|9,_=>yD|y+10,hy=>absurd hy (by omega)))|y+1,hy=>absurd hy (by omega)))
  generalize lA xQ v0=p0 at H hw0
  generalize iA (rG (rG v1 0) 1)=p1_0_1 at H hw1
  refine ⟨[.ro 1 p0.length false (enR yG p0),.fn 85 [.rptr 1 1 0 0 (fun _ y=>getL [.rptr 10 1 0 0 (fun _ y=>getL [.top,.int .i64 p1_0_1,.top,.top,.top,.top,.top,.top,.top,.top] y)] y)]],_,(fun E vs F=>yC hw0.1 F (fun vs F=>yC (fn_wk (LW_cons hw1.1 fU)) F (fun vs F=>F))),rfl,rfl,?_⟩
  rw [Tryz.ntmps95]
  simp only [lC,lN,Nat.reduceAdd,Nat.reduceSub,rS,rZ,aC,aN]
  unfold F95_0 at H
  try dsimp only at H
  refine sq zA ?_
  simp only [go_sem]
  refine zC ?_
  refine sq zA ?_
  simp only [go_sem]
  repeat ((with_reducible refine aI ?_ ?_);exact an2)
  refine xN ?_
  refine xP (fun s:Int=>(.ro 1 p0.length false (enR yG p0)::.fn 85 [.rptr 1 1 0 0 (fun _ y=>getL [.rptr 10 1 0 0 (fun _ y=>getL [.top,.int .i64 p1_0_1,.top,.top,.top,.top,.top,.top,.top,.top] y)] y)]::tp 5 (.int .i64 (p0.length:Nat)::.int .i64 s::tp 10 []))) (fun s=>[]) (fun e:Unit=>(tp 19 [])) (fun e=>[]) H ?_ (fun v1_1 o H hn1_1 hn2_1=>?_) (fun e H=>?_)
  ·refine xI ⟨[],?_,?_,by rfl,by rfl⟩
   ·simp [CvL,Cv,tp]
   ·trivial
  ·unfold F95_0_L1 at H
   try dsimp only at H ⊢
   try simp only [tp]
   refine sq zA ?_
   simp only [go_sem]
   refine zC ?_
   refine condM' rfl trivial (fun hc=>?_) (fun hc=>?_)
   ·have hk1:(bLt v1_1 (p0.length:Nat))=false:=by simpa using hc
    replace H:=zK hc H
    refine rg zA ?_
    simp only [go_sem]
    refine ⟨_,(Option.some.inj H).symm,?_⟩
    refine xI ⟨[],?_,?_,by rfl,by rfl⟩
    ·simp [CvL,Cv]
    ·trivial
   have hk1:(bLt v1_1 (p0.length:Nat))=true:=by simpa using hc
   replace H:=zL hc H
   refine rg zA ?_
   simp only [go_sem]
   refine zC ?_
   refine xN ?_
   refine sq zA ?_
   simp only [go_sem]
   refine zC ?_
   obtain ⟨f2,H⟩:=nI H
   obtain ⟨r3,e4,H⟩:=bsi H
   refine rg ct95_0t0_ok ?_
   simp only [go_sem,Nat.reduceLT,ct95_0t0_85,qY,f2,e4]
   repeat ((with_reducible refine aI ?_ ?_);exact an2)
   refine zX rfl trivial (fun hc=>?_) (fun hc=>?_)
   ·have hk5:(r3)=true:=by simpa using hc
    replace H:=zL hc H
    refine sq zA ?_
    simp only [go_sem]
    refine rg zA ?_
    simp only [go_sem]
    have H:=hn2_1 _ (Option.some.inj H).symm
    obtain rfl:=Option.some.inj H
    exact fB
   have hk5:(r3)=false:=by simpa using hc
   replace H:=zK hc H
   refine rg zA ?_
   simp only [go_sem]
   refine rg zA ?_
   simp only [go_sem]
   refine ⟨_,(Option.some.inj H).symm,?_⟩
   refine xI ⟨[],?_,?_,by rfl,by rfl⟩
   ·simp [CvL,Cv]
   ·trivial
  ·try dsimp only at H ⊢
   try simp only [tp]
   try simp only [yS]
   refine sq zA ?_
   simp only [go_sem]
   refine rg zA ?_
   simp only [go_sem]
   obtain rfl:=Option.some.inj H
   exact fB
 ·cases hb
def ct84_0t0:Ct:=tab [(95,pureC eT)]
theorem ct84_0t0_ok:yP Tryz.prog ct84_0t0:=zE ok95_0 <| zO
theorem ct84_0t0_95 (l:List AV) (h:List ABlk):ct84_0t0 95 l h=pureC eT l h:=rfl
def ct84_0t1:Ct:=tab [(85,pureC qY)]
theorem ct84_0t1_ok:yP Tryz.prog ct84_0t1:=zE ok85_0 <| zO
theorem ct84_0t1_85 (l:List AV) (h:List ABlk):ct84_0t1 85 l h=pureC qY l h:=rfl
def F84_0_L1 (p1_0_1:Int) (v1_1:List Int) (v1_2:Int) (v1_3:Int):Option (Lp ((List Int) × Int × Int) (((List Int) × Int) ⊕ (List Int))) :=
 bif (bLt v1_3 (v1_1.length:Nat)) then (need (inb v1_3 v1_1.length) <| (F85_0 (gd v1_1 v1_3.toNat) p1_0_1).bind fun r6=>bif (!r6) then (need (inb v1_2 v1_1.length) <| some (.next ((v1_1.set v1_2.toNat (gd v1_1 v1_3.toNat)),wr .i64 (v1_2+1),wr .i64 (v1_3+1)))) else (some (.next (v1_1,v1_2,wr .i64 (v1_3+1))))) else (some (.done (.inl (v1_1,v1_2))))
def F84_0 (p0:List Int) (p1_0_1:Int):Option (List Int) :=
 (F95_0 p0 p1_0_1).bind fun r1=>bif (bEq r1 (-1)) then (some p0) else (lp (yF (fun s=>F84_0_L1 p1_0_1 s.1 s.2.1 s.2.2) (p0,r1,wr .i64 (r1+1))) (fun e1=>need (slb e1.2 (e1.1.length:Nat) e1.1.length) <| need (slb 0 e1.2 e1.1.length) <| some (List.take e1.2.toNat e1.1)) some)
def eS:List AV->List ABlk->ED
 | [v0,.fn 85 [v1]],h=>.ed [slN v0] (oS 3 1 h v0/\lK kE 1 (roW h v0)/\rM 1 (roD (zH h [slN v0]) v1)/\rM 10 (rG (roD (zH h [slN v0]) v1) 0)/\iK .i64 (rG (rG (roD (zH h [slN v0]) v1) 0) 1)/\xJ (zH h [slN v0]) v1/\(F84_0 (lA xQ (roW h v0)) (iA (rG (rG (roD (zH h [slN v0]) v1) 0) 1))).isSome=true) (.sl 1 1 0 ((gt (F84_0 (lA xQ (roW h v0)) (iA (rG (rG (roD (zH h [slN v0]) v1) 0) 1)))).length) false) [.dead,.row 3 1 ((gt (F84_0 (lA xQ (roW h v0)) (iA (rG (rG (roD (zH h [slN v0]) v1) 0) 1)))).length) (enR yG (gt (F84_0 (lA xQ (roW h v0)) (iA (rG (rG (roD (zH h [slN v0]) v1) 0) 1)))))]
 | _,_=>.fail
theorem ok84_0:FnOk Tryz.prog 84 (edC eS):=by
 refine xO eS (rs:=[.tmp 4]) Tryz.func84 (by kernel_rfl) rfl rfl ?_
 intro l h bs ob q0 g0 hb hob
 unfold eS at hb
 split at hb
 ·rename_i v0 v1
  injection hb with q1 q2 q3 q4;subst q1 q2 q3 q4
  obtain ⟨hk0_0,hk0_1,hk1_0,hk1_1,hk1_2,hk1_3,hob⟩:=hob
  obtain ⟨r,H⟩:=oE.1 hob
  rw [H,zN]
  obtain ⟨p0,hp0⟩:∃ p0,p0=lA xQ (roW h v0):=⟨_,rfl⟩
  rw [← hp0] at H
  obtain ⟨ev0,eb0⟩:=wT (f:=yG) (g:=xQ) (bs:=[slN v0]) (i:=0) (fun hr=>jJ hr) hk0_0 hk0_1 (L:=p0) (by rw [hp0]) rfl
  have hw1:=(fN (cells:=[.rptr 10 1 0 0 (fun _ y=>getL [AV.top,AV.int .i64 (iA (rG (rG (roD (zH h [slN v0]) v1) 0) 1)),AV.top,AV.top,AV.top,AV.top,AV.top,AV.top,AV.top,AV.top] y)]) hk1_0 (fun y hy=>match y,hy with|0,_=>(fN (cells:=[AV.top,AV.int .i64 (iA (rG (rG (roD (zH h [slN v0]) v1) 0) 1)),AV.top,AV.top,AV.top,AV.top,AV.top,AV.top,AV.top,AV.top]) hk1_1 (fun y hy=>match y,hy with|0,_=>yD|1,_=>iK_wk hk1_2|2,_=>yD|3,_=>yD|4,_=>yD|5,_=>yD|6,_=>yD|7,_=>yD|8,_=>yD|9,_=>yD|y+10,hy=>absurd hy (by omega)))|y+1,hy=>absurd hy (by omega)))
  obtain ⟨p1_0_1,hp_p1_0_1⟩:∃ p1_0_1,p1_0_1=iA (rG (rG (roD (zH h [slN v0]) v1) 0) 1):=⟨_,rfl⟩
  rw [← hp_p1_0_1] at H hw1
  refine ⟨[.sl 0 1 0 p0.length false,.fn 85 [.rptr 1 1 0 0 (fun _ y=>getL [.rptr 10 1 0 0 (fun _ y=>getL [.top,.int .i64 p1_0_1,.top,.top,.top,.top,.top,.top,.top,.top] y)] y)]],[.row 3 1 p0.length (enR yG p0)],rfl,⟨(cM ev0 (by simp only [noro])),⟨(EW_fn ⟨(yR hk1_3 hw1),trivial⟩),trivial⟩⟩,⟨eb0,trivial⟩,⟨zW,trivial⟩,⟨trivial,⟨(yY xL),trivial⟩⟩,⟨trivial,⟨zW,trivial⟩⟩,(by first|(simp only [noro];done)|(simp only [noro,yK];and_intros<;>first|trivial|exact xX (by simp only [noro]) (by simp only [noro])|(simp only [noro,yK,and_self]))),?_⟩
  rw [Tryz.ntmps84]
  simp only [lC,lN,Nat.reduceAdd,Nat.reduceSub,rS,rZ,aC,aN]
  unfold F84_0 at H
  try dsimp only at H
  refine sq zA ?_
  simp only [go_sem]
  refine zC ?_
  obtain ⟨r1,e2,H⟩:=bsi H
  refine rg ct84_0t0_ok ?_
  simp only [go_sem,Nat.reduceLT,ct84_0t0_95,eT,e2]
  repeat ((with_reducible refine aI ?_ ?_);exact an2)
  refine zC ?_
  refine sq zA ?_
  simp only [go_sem]
  refine zX rfl trivial (fun hc=>?_) (fun hc=>?_)
  ·have hk3:(bEq r1 (-1))=true:=by simpa using hc
   replace H:=zL hc H
   refine sq zA ?_
   simp only [go_sem]
   refine rg zA ?_
   simp only [go_sem]
   obtain rfl:=Option.some.inj H
   refine yE [] [some 0,some 0] ?_ ?_ ?_ ?_ (by rfl) (by rfl)
   ·simp only [go_sem]
    try exact at0
   ·simp only [go_sem]
    try exact at0
   ·simp only [go_sem]
    exact (by first|(simp [Cv,yB];done)|(simp [Cv,CvL,yB,zN];omega))
   ·simp only [go_sem,CvH]
    first|exact ⟨yI,zJ xL cl (fun _ _ _ _=>rfl)⟩|trivial
  have hk3:(bEq r1 (-1))=false:=by simpa using hc
  replace H:=zK hc H
  refine rg zA ?_
  simp only [go_sem]
  refine zC ?_
  refine sq zA ?_
  simp only [go_sem]
  refine xN ?_
  refine xP (fun s:(List Int) × Int × Int=>(.sl 1 1 0 s.1.length false::.fn 85 [.rptr 1 1 0 0 (fun _ y=>getL [.rptr 10 1 0 0 (fun _ y=>getL [.top,.int .i64 p1_0_1,.top,.top,.top,.top,.top,.top,.top,.top] y)] y)]::.top::.top::.top::.int .i64 s.2.1::.int .i64 s.2.2::tp 35 [])) (fun s=>[.dead,.row 3 1 s.1.length (enR yG s.1)]) (fun e:(List Int) × Int=>(.sl 1 1 0 e.1.length false::tp 4 (.int .i64 e.2::tp 36 []))) (fun e=>[.dead,.row 3 1 e.1.length (enR yG e.1)]) H ?_ (fun s o H hn1_1 hn2_1=>?_) (fun e H=>?_)
  ·refine Sq [(0,1),(0,1)] ?_ ?_
   ·simp [CvL,Cv,yB,tp]
   ·exact dQ
  ·obtain ⟨v1_1,v1_2,v1_3⟩:=s
   unfold F84_0_L1 at H
   try dsimp only at H ⊢
   try simp only [tp]
   refine zC ?_
   refine sq zA ?_
   simp only [go_sem]
   repeat ((with_reducible refine aI ?_ ?_);exact an2)
   refine condM' rfl trivial (fun hc=>?_) (fun hc=>?_)
   ·have hk4:(bLt v1_3 (v1_1.length:Nat))=false:=by simpa using hc
    replace H:=zK hc H
    refine rg zA ?_
    simp only [go_sem]
    refine ⟨_,(Option.some.inj H).symm,?_⟩
    refine Sq [(0,2)] ?_ ?_
    ·simp [CvL,Cv,yB]
    ·exact dQ
   have hk4:(bLt v1_3 (v1_1.length:Nat))=true:=by simpa using hc
   replace H:=zL hc H
   refine rg zA ?_
   simp only [go_sem]
   refine zC ?_
   refine xN ?_
   refine zC ?_
   obtain ⟨f5,H⟩:=nI H
   refine rg zA ?_
   simp only [go_sem,Nat.reduceLT,f5]
   repeat ((with_reducible refine aI ?_ ?_);exact an4)
   refine zC ?_
   obtain ⟨r6,e7,H⟩:=bsi H
   refine rg ct84_0t1_ok ?_
   simp only [go_sem,Nat.reduceLT,ct84_0t1_85,qY,e7]
   repeat ((with_reducible refine aI ?_ ?_);exact an2)
   refine condM' rfl trivial (fun hc=>?_) (fun hc=>?_)
   ·have hk8:(r6)=true:=by simpa using hc
    replace H:=zK hc H
    refine rg zA ?_
    simp only [go_sem]
    refine rg zA ?_
    simp only [go_sem]
    refine ⟨_,(Option.some.inj H).symm,?_⟩
    refine Sq [(0,2)] ?_ ?_
    ·simp [CvL,Cv,yB]
    ·exact dQ
   have hk8:(r6)=false:=by simpa using hc
   replace H:=zL hc H
   refine zC ?_
   obtain ⟨f9,H⟩:=nI H
   refine rg zA ?_
   simp only [go_sem,f9]
   repeat ((with_reducible refine aI ?_ ?_);exact an4)
   refine rg zA ?_
   simp only [go_sem]
   refine rg zA ?_
   simp only [go_sem]
   refine ⟨_,(Option.some.inj H).symm,?_⟩
   refine Sq [(0,2)] ?_ ?_
   ·simp [CvL,Cv,yB]
   ·exact ⟨yI,zJ xL cl (kH (f:=yG) v1_1 v1_2.toNat 0 (gd v1_1 v1_3.toNat) (fun _ _ _ _=>rfl) (fun y hy=>match y,hy with|0,_=>rfl|(y+1),h=>absurd h nlt)),trivial⟩
  ·obtain ⟨w1_4,w1_5⟩:=e
   try dsimp only at H ⊢
   try simp only [tp]
   try simp only [yS]
   refine zC ?_
   obtain ⟨f10,H⟩:=nS H
   refine rg zA ?_
   simp only [go_sem,f10]
   repeat ((with_reducible refine aI ?_ ?_);exact an2)
   refine zC ?_
   obtain ⟨f11,H⟩:=nS H
   refine rg zA ?_
   simp only [go_sem,f11]
   repeat ((with_reducible refine aI ?_ ?_);exact an4)
   refine rg zA ?_
   simp only [go_sem]
   obtain rfl:=Option.some.inj H
   refine yE [] [some 0,some 1] ?_ ?_ ?_ ?_ (by rfl) (by rfl)
   ·simp only [go_sem]
    try exact at0
   ·simp only [go_sem]
    try exact at0
   ·simp only [go_sem]
    exact (by first|(simp [Cv,yB,(show (List.take w1_5.toNat w1_4).length=w1_5.toNat from dK (n:=w1_4.length) cl (by omega))];done)|(simp [Cv,CvL,yB,zN,(show (List.take w1_5.toNat w1_4).length=w1_5.toNat from dK (n:=w1_4.length) cl (by omega))];omega))
   ·simp only [go_sem,CvH]
    first|exact ⟨yI,(CvB_pre xL (by rw [show (List.take w1_5.toNat w1_4).length=w1_5.toNat from dK (n:=w1_4.length) cl (by omega)];omega) (clr_row (fun _ _ _ _=>rfl)))⟩|trivial
 ·cases hb
def ct52t0:Ct:=tab [(72,pureC dT)]
theorem ct52t0_ok:yP Tryz.prog ct52t0:=zE ok72 <| zO
theorem ct52t0_72 (l:List AV) (h:List ABlk):ct52t0 72 l h=pureC dT l h:=rfl
def F52 (p0:TRegulateBlock) (p1:Int):Option (Int) :=
 (F72 p0.Channel p1).bind fun r1=>some r1
def body52:List AV->AR
 | [v0,v1]=>.pure (aK 2 yN v0/\iK .i64 v1/\(F52 (zF (aL v0)) (iA v1)).isSome=true) (.int .i64 (gt (F52 (zF (aL v0)) (iA v1))))
 | _=>.fail
theorem ok52:FnOk Tryz.prog 52 (pureC body52):=by
 refine yM body52 (rs:=[.tmp 4]) Tryz.func52 (by kernel_rfl) rfl rfl ?_
 intro l ob v hb hob
 unfold body52 at hb
 split at hb
 ·rename_i v0 v1
  injection hb with q1 q2;subst q1 q2
  obtain ⟨hk0_0,hk1_0,hob⟩:=hob
  obtain ⟨r,H⟩:=oE.1 hob
  rw [H,zN]
  have hw0:=kI hk0_0
  have hw1:=iK_wk hk1_0
  generalize zF (aL v0)=p0 at H hw0
  generalize iA v1=p1 at H hw1
  refine ⟨[.agg [.int .i64 p0.Channel,.int .i64 p0.Until],.int .i64 p1],_,(fun E vs F=>yC hw0.1 F (fun vs F=>yC hw1.1 F (fun vs F=>F))),rfl,rfl,?_⟩
  rw [Tryz.ntmps52]
  simp only [lC,lN,Nat.reduceAdd,Nat.reduceSub,rS,rZ,aC,aN]
  unfold F52 at H
  try dsimp only at H
  refine sq zA ?_
  simp only [go_sem]
  refine zC ?_
  obtain ⟨r1,e2,H⟩:=bsi H
  refine rg ct52t0_ok ?_
  simp only [go_sem,Nat.reduceLeDiff,Nat.reduceLT,Nat.reduceAdd,ct52t0_72,dT,e2]
  repeat ((with_reducible refine aI ?_ ?_);exact an0)
  refine rg zA ?_
  simp only [go_sem]
  obtain rfl:=Option.some.inj H
  exact fB
 ·cases hb
def ct51_0t0:Ct:=tab [(52,pureC body52)]
theorem ct51_0t0_ok:yP Tryz.prog ct51_0t0:=zE ok52 <| zO
theorem ct51_0t0_52 (l:List AV) (h:List ABlk):ct51_0t0 52 l h=pureC body52 l h:=rfl
def F51_0_L1 (p0:List TRegulateBlock) (p1:Int) (v1_1:Int) (v1_2:Int):Option (Lp (Int × Int) ((Int) ⊕ (Int × Bool))) :=
 bif (bLt v1_1 v1_2) then (need (inb (wr .i64 (wW .u64 (wr .u64 (wr .i64 (v1_1+v1_2))) 1)) p0.length) <| (F52 (gd p0 ((wr .i64 (wW .u64 (wr .u64 (wr .i64 (v1_1+v1_2))) 1)).toNat)) p1).bind fun r3=>bif (bLt r3 0) then (some (.next (wr .i64 ((wr .i64 (wW .u64 (wr .u64 (wr .i64 (v1_1+v1_2))) 1))+1),v1_2))) else (some (.next (v1_1,wr .i64 (wW .u64 (wr .u64 (wr .i64 (v1_1+v1_2))) 1))))) else (some (.done (.inl v1_1)))
def F51_0 (p0:List TRegulateBlock) (p1:Int):Option (Int × Bool) :=
 lp (yF (fun s=>F51_0_L1 p0 p1 s.1 s.2) (0,(p0.length:Nat))) (fun w1_3=>need (bif (bLt w1_3 (p0.length:Nat)) then inb w1_3 p0.length else true) <| need (bif (bLt w1_3 (p0.length:Nat)) then ((F52 (gd p0 w1_3.toNat) p1).isSome) else true) <| some (w1_3,((bLt w1_3 (p0.length:Nat)) && (bEq (gt (F52 (gd p0 w1_3.toNat) p1)) 0)))) some
def qX:List AV->AR
 | [v0,v1,.fn 52 []]=>.pure (lK yN 2 v0/\iK .i64 v1/\(F51_0 (lA zF v0) (iA v1)).isSome=true) (.tup [.int .i64 ((gt (F51_0 (lA zF v0) (iA v1))).1),.bool ((gt (F51_0 (lA zF v0) (iA v1))).2)])
 | _=>.fail
theorem ok51_0:FnOk Tryz.prog 51 (pureC qX):=by
 refine yM qX (rs:=[.tmp 6,.tmp 7]) Tryz.func51 (by kernel_rfl) rfl rfl ?_
 intro l ob v hb hob
 unfold qX at hb
 split at hb
 ·rename_i v0 v1
  injection hb with q1 q2;subst q1 q2
  obtain ⟨hk0_0,hk1_0,hob⟩:=hob
  obtain ⟨r,H⟩:=oE.1 hob
  rw [H,zN]
  have hw0:=lK_wk (fun r h=>xD h) hk0_0
  have hw1:=iK_wk hk1_0
  generalize lA zF v0=p0 at H hw0
  generalize iA v1=p1 at H hw1
  refine ⟨[.ro 2 p0.length false (enR zB p0),.int .i64 p1,.fn 52 []],_,(fun E vs F=>yC hw0.1 F (fun vs F=>yC hw1.1 F (fun vs F=>yC (fn_wk fU) F (fun vs F=>F)))),rfl,rfl,?_⟩
  rw [Tryz.ntmps51]
  simp only [lC,lN,Nat.reduceAdd,Nat.reduceSub,rS,rZ,aC,aN]
  unfold F51_0 at H
  try dsimp only at H
  refine sq zA ?_
  simp only [go_sem]
  refine sq zA ?_
  simp only [go_sem]
  repeat ((with_reducible refine aI ?_ ?_);exact an0)
  refine sq zA ?_
  simp only [go_sem]
  refine zC ?_
  refine xN ?_
  refine xP (fun s:Int × Int=>(.ro 2 p0.length false (enR zB p0)::.int .i64 p1::.fn 52 []::tp 5 (.int .i64 (p0.length:Nat)::.int .i64 s.1::.int .i64 s.2::tp 38 []))) (fun s=>[]) (fun e:Int=>(.ro 2 p0.length false (enR zB p0)::.int .i64 p1::.fn 52 []::tp 5 (.int .i64 (p0.length:Nat)::.int .i64 e::tp 39 []))) (fun e=>[]) H ?_ (fun s o H hn1_1 hn2_1=>?_) (fun w1_3 H=>?_)
  ·refine xI ⟨[],?_,?_,by rfl,by rfl⟩
   ·simp [CvL,Cv,tp]
   ·trivial
  ·obtain ⟨v1_1,v1_2⟩:=s
   unfold F51_0_L1 at H
   try dsimp only at H ⊢
   try simp only [tp]
   refine zC ?_
   refine sq zA ?_
   simp only [go_sem]
   refine condM' rfl trivial (fun hc=>?_) (fun hc=>?_)
   ·have hk1:(bLt v1_1 v1_2)=false:=by simpa using hc
    replace H:=zK hc H
    refine rg zA ?_
    simp only [go_sem]
    refine ⟨_,(Option.some.inj H).symm,?_⟩
    refine xI ⟨[],?_,?_,by rfl,by rfl⟩
    ·simp [CvL,Cv]
    ·trivial
   have hk1:(bLt v1_1 v1_2)=true:=by simpa using hc
   replace H:=zL hc H
   refine rg zA ?_
   simp only [go_sem]
   refine xN ?_
   refine sq zA ?_
   simp only [go_sem]
   repeat ((with_reducible refine aI ?_ ?_);exact an4)
   refine zC ?_
   obtain ⟨f2,H⟩:=nI H
   obtain ⟨r3,e4,H⟩:=bsi H
   refine rg ct51_0t0_ok ?_
   simp only [go_sem,Nat.reduceLT,Nat.reduceAdd,ct51_0t0_52,body52,f2,e4]
   repeat ((with_reducible refine aI ?_ ?_);exact an0)
   refine zX rfl trivial (fun hc=>?_) (fun hc=>?_)
   ·have hk5:(bLt r3 0)=true:=by simpa using hc
    replace H:=zL hc H
    refine rg zA ?_
    simp only [go_sem]
    refine ⟨_,(Option.some.inj H).symm,?_⟩
    refine xI ⟨[],?_,?_,by rfl,by rfl⟩
    ·simp [CvL,Cv]
    ·trivial
   have hk5:(bLt r3 0)=false:=by simpa using hc
   replace H:=zK hc H
   refine rg zA ?_
   simp only [go_sem]
   refine ⟨_,(Option.some.inj H).symm,?_⟩
   refine xI ⟨[],?_,?_,by rfl,by rfl⟩
   ·simp [CvL,Cv]
   ·trivial
  ·try dsimp only at H ⊢
   try simp only [tp]
   try simp only [yS]
   refine zC ?_
   obtain ⟨f6,H⟩:=zP.1 H
   replace f6:=xR.1 f6
   replace f6:=fun g=>uF.1 (f6 g)
   obtain ⟨f7,H⟩:=zP.1 H
   replace f7:=xR.1 f7
   refine rg ct51_0t0_ok ?_
   simp only [go_sem,Nat.reduceLT,Nat.reduceAdd,ct51_0t0_52,body52]
   repeat ((with_reducible refine And.intro ?_ ?_);focus exact bn0 f6 f7)
   refine rg zA ?_
   simp only [go_sem]
   obtain rfl:=Option.some.inj H
   exact fB
 ·cases hb
end
end Go.Proofs.YtooepgpfaaddbaaGreat
