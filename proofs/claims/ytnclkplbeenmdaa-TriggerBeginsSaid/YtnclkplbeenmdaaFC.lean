/-
  Contracts of functions: each computes its partial function.
-/
import Derived.Test.YtnclkplbeenmdaaFB
namespace Go.Proofs.Ytnclkplbeenmdaa
open Go.Am
set_option linter.unusedVariables false
set_option linter.unusedSimpArgs false
def mixR (q:Nat) (L:List TSleeper):Nat->Nat->AV:=fun x y=>if x < q then enR d_TSleeper L x y else enR c_TSleeper L x y
theorem mix_self (q:Nat) (L:List TSleeper) (y:Nat):mixR q L q y=enR c_TSleeper L q y:=if_neg (Nat.lt_irrefl q)
theorem mix_nr (q:Nat) (L:List TSleeper) (x y:Nat):nref (mixR q L x y):=by
 unfold mixR
 split
 ·exact nref_getL (nr_d_TSleeper _) y
 ·exact nref_getL (nr_TSleeper _) y
theorem mix_0 (L:List TSleeper) (x y:Nat):mixR 0 L x y=enR c_TSleeper L x y:=if_neg (Nat.not_lt_zero x)
theorem mix_end {q:Nat} {L:List TSleeper} (h:L.length <= q) {x y:Nat} (hx:x < L.length):mixR q L x y=enR d_TSleeper L x y:=if_pos (by omega)
theorem mix_set {q:Nat} {L:List TSleeper} {a:TSleeper} (hq:q < L.length) (x y:Nat):mixR (q+1) (L.set q a) x y=if x=q then getL (d_TSleeper a) y else mixR q L x y:=by
 unfold mixR
 by_cases h:x=q
 ·subst h
  rw [if_pos (by omega),if_pos rfl,enR_row,gd_set_eq hq]
 ·rw [if_neg h,enR_row,enR_row,gd_set_ne (Ne.symm h)]
  by_cases h2:x < q
  ·rw [if_pos (by omega),if_pos h2];rfl
  ·rw [if_neg (by omega),if_neg h2];rfl
section
variable {μ:Mu} {e es es2 n i j b b' m k k':Nat} {C C':Nat->Nat->AV}
theorem CvB_con (hr:∀ x y,nref (C x y)) (h:∀ x y,x < n->y < es->C' x y=C x y):CvB μ (.row e es n C') (some m) (.row e es n C):=by
 simp only [CvB]
 refine ⟨trivial,trivial,Nat.le_refl _,fun x y hx hy=>?_⟩
 rw [h x y hx hy]
 exact Cv_refl _ (hr x y)
theorem CvB_fS (hr:∀ x y,nref (C x y)) (hb:getM μ b=some b') (hk:k=k') (h:∀ x y,x < n->y < es->¬ (x=i/\y=j)->C' x y=C x y) :
  CvB μ (.row e es n (upc C' i j [.sl b es2 0 k false])) (some m) (.row e es n (upc C i j [.sl b' es2 0 k' false])):=by
 subst hk
 simp only [CvB]
 refine ⟨trivial,trivial,Nat.le_refl _,fun x y hx hy=>?_⟩
 rw [upc1,upc1]
 by_cases q:x=i/\y=j
 ·rw [if_pos q,if_pos q];exact Cv_sl1 hb
 ·rw [if_neg q,if_neg q,h x y hx hy q];exact Cv_refl _ (hr x y)
theorem CvB_fC {z j2:Nat} {vs:List AV} (hr:∀ x y,nref (C' x y)) (hz:z ≠ i) (hb:getM μ b=some b') (hk:k=k') (h:∀ x y,x < n->y < es->¬ (x=i/\y=j)->C' x y=upc C z j2 vs x y) :
  CvB μ (.row e es n (upc C' i j [.sl b es2 0 k false])) (some m) (.row e es n (upc (upc C i j [.sl b' es2 0 k' false]) z j2 vs)):=by
 subst hk
 simp only [CvB]
 refine ⟨trivial,trivial,Nat.le_refl _,fun x y hx hy=>?_⟩
 rw [upc1]
 by_cases q:x=i/\y=j
 ·rw [if_pos q,upc_ne (by omega),upc1,if_pos q];exact Cv_sl1 hb
 ·rw [if_neg q,h x y hx hy q]
  have:upc (upc C i j [.sl b' es2 0 k false]) z j2 vs x y=upc C z j2 vs x y:=by
   by_cases hx':x=z
   ·subst hx'
    unfold upc
    split
    ·rfl
    ·rw [if_neg (fun w=>hz w.1)]
   ·rw [upc_ne hx',upc_ne hx',upc1,if_neg q]
  rw [this,← h x y hx hy q]
  exact Cv_refl _ (hr x y)
end
attribute [go_sem] mix_self
noncomputable def ct54t0:Ct:=tab [(72,genC body72)]
theorem ct54t0_ok:CtOk Try.prog ct54t0:=tab_cons ok72 <| tab_nil
theorem ct54t0_72 (l:List AV) (h:List ABlk):ct54t0 72 l h=genC body72 l h:=rfl
noncomputable def ct54t1:Ct:=tab [(71,genC body71_0)]
theorem ct54t1_ok:CtOk Try.prog ct54t1:=tab_cons ok71_0 <| tab_nil
theorem ct54t1_71 (l:List AV) (h:List ABlk):ct54t1 71 l h=genC body71_0 l h:=rfl
noncomputable def ct54t2:Ct:=tab [(71,genC body71)]
theorem ct54t2_ok:CtOk Try.prog ct54t2:=tab_cons ok71 <| tab_nil
theorem ct54t2_71 (l:List AV) (h:List ABlk):ct54t2 71 l h=genC body71 l h:=rfl
noncomputable def F54f_L1 (r1:List TSleeper) (v1_1:Int) (v1_2:List TSleeper):Option (Lp (Int × (List TSleeper)) ((Int × (List TSleeper)) ⊕ (TBuffer))) :=
 bif (bLt v1_1 (r1.length:Nat)) then (need (bLt v1_1 1000000) <| need (inb v1_1 v1_2.length) <| (F71_0 ((gd v1_2 v1_1.toNat).Held)).bind fun r4=>need (inb v1_1 v1_2.length) <| some (.next (wr .i64 (v1_1+1),(v1_2.set v1_1.toNat (TSleeper.mk ((gd v1_2 v1_1.toNat).Aid) ((gd v1_2 v1_1.toNat).Asleep) r4))))) else (some (.done (.inl (v1_1,v1_2))))
noncomputable def F54f (gi:Nat) (p0:TBuffer):Option (TBuffer) :=
 (F72 p0.List).bind fun r1=>lp (loopD (fun s=>F54f_L1 r1 s.1 s.2) (0,r1)) (fun e=>need (bLt (gi:Int) e.1) <| need (decide (e.2.length <= e.1.toNat)) <| (F71 p0.Group).bind fun r7=>some (TBuffer.mk p0.Limit p0.Stay e.2 r7)) some
noncomputable def body54f (gi:Nat):List AV->Nat->AR
 | [v0],s=>.heap (aK 4 k_TBuffer v0/\(F54f gi (g_TBuffer (aL v0))).isSome=true) (.agg [.int .i64 ((gt (F54f gi (g_TBuffer (aL v0)))).Limit),.int .i64 ((gt (F54f gi (g_TBuffer (aL v0)))).Stay),.sl (s) 3 0 ((gt (F54f gi (g_TBuffer (aL v0)))).List).length false,.sl (s+2) 43 0 ((gt (F54f gi (g_TBuffer (aL v0)))).Group).length false]) [.row 71 3 ((gt (F54f gi (g_TBuffer (aL v0)))).List).length (upc (enR d_TSleeper ((gt (F54f gi (g_TBuffer (aL v0)))).List)) gi 2 [.sl (s+1) 43 0 ((gd ((gt (F54f gi (g_TBuffer (aL v0)))).List) gi).Held).length false]),.row 73 43 ((gd ((gt (F54f gi (g_TBuffer (aL v0)))).List) gi).Held).length (enR d_TStored ((gd ((gt (F54f gi (g_TBuffer (aL v0)))).List) gi).Held)),.row 73 43 ((gt (F54f gi (g_TBuffer (aL v0)))).Group).length (enR d_TStored ((gt (F54f gi (g_TBuffer (aL v0)))).Group))]
 | _,_=>.fail
set_option maxHeartbeats 4000000 in
set_option maxRecDepth 20000 in
theorem ok54f (gi:Nat):FnOk Try.prog 54 (genC (body54f gi)):=by
 refine gen_fn (body54f gi) (rs:=[.cell 2 52]) Try.func54 (by kernel_rfl) rfl rfl ?_
 intro l s ob v ns hb hob
 rcases hb with ⟨hb,rfl⟩|hb
 ·unfold body54f at hb
  split at hb<;>cases hb
 ·unfold body54f at hb
  split at hb
  ·rename_i v0
   injection hb with q1 q2 q3;subst q1 q2 q3
   obtain ⟨hk0_0,hob⟩:=hob
   obtain ⟨r,H⟩:=Option.isSome_iff_exists.1 hob
   rw [H,gt_some]
   have hw0:=wA_TBuffer hk0_0
   generalize g_TBuffer (aL v0)=p0 at H hw0
   refine ⟨[.agg [.int .i64 p0.Limit,.int .i64 p0.Stay,.ro 3 p0.List.length false (enR c_TSleeper p0.List),.ro 43 p0.Group.length false (enR c_TStored p0.Group)]],.agg [.int .i64 (r.Limit),.int .i64 (r.Stay),.sl (0) 3 0 (r.List).length false,.sl (2) 43 0 (r.Group).length false],[.row 71 3 (r.List).length (upc (enR d_TSleeper (r.List)) gi 2 [.sl (1) 43 0 ((gd (r.List) gi).Held).length false]),.row 73 43 ((gd (r.List) gi).Held).length (enR d_TStored ((gd (r.List) gi).Held)),.row 73 43 (r.Group).length (enR d_TStored (r.Group))],(fun E vs F=>FR_wk1 hw0.1 F (fun vs F=>F)),by simp only [ren,renL,rnN_0,rnN_s,Nat.reduceAdd],⟨RenB_foc nr_d_TSleeper (by simp only [rnN_s]),RenB_row nr_d_TStored,RenB_row nr_d_TStored,trivial⟩,?_⟩
   rw [Try.ntmps54]
   simp only [List.length_cons,List.length_nil,Nat.reduceAdd,Nat.reduceSub,List.replicate_succ,List.replicate_zero,List.cons_append,List.nil_append]
   unfold F54f at H
   try dsimp only at H
   refine sq ctNo_ok ?_
   simp only [go_sem]
   refine sq ctNo_ok ?_
   simp only [go_sem]
   refine seqM ?_
   obtain ⟨r1,e2,H⟩:=bsi H
   refine rg ct54t0_ok ?_
   simp only [go_sem,Nat.reduceLeDiff,Nat.reduceLT,Nat.reduceAdd,ct54t0_72,body72,e2]
   repeat ((with_reducible refine And.intro ?_ ?_);focus (first|(and_intros<;>first|(with_reducible trivial)|omega|assumption|exact nfc|first|exact rfl|exact trivial|exact fitI|exact .inr rfl|exact .inl rfl|exact fun x hx=>absurd hx (by omega))|grind))
   refine seqM ?_
   refine sq ctNo_ok ?_
   simp only [go_sem,Nat.reduceLeDiff,Nat.reduceLT,Nat.reduceAdd]
   repeat ((with_reducible refine And.intro ?_ ?_);focus (first|(and_intros<;>first|(with_reducible trivial)|omega|assumption|exact nfc|first|exact rfl|exact trivial|exact fitI|exact .inr rfl|exact .inl rfl|exact fun x hx=>absurd hx (by omega))|grind))
   refine blkM ?_
   refine loop_den (fun s:Int × (List TSleeper)=>(.top::.ptr 0 0 0 0::.ptr 1 0 0 0::.fn 71 []::tp 7 (.int .i64 (r1.length:Nat)::.int .i64 s.1::tp 22 []))) (fun s=>[.lit 52 [.int .i64 p0.Limit,.int .i64 p0.Stay,.sl 3 3 0 s.2.length false,.ro 43 p0.Group.length false (enR c_TStored p0.Group)],.lit 52 [.int .i64 0,.int .i64 0,.ro 0 0 true (fun _ _=>.top),.ro 0 0 true (fun _ _=>.top)],.dead,.row 71 3 s.2.length (bif bLt (gi:Int) s.1 then upc (mixR s.1.toNat s.2) gi 2 [.sl 4 43 0 (gd s.2 gi).Held.length false] else mixR s.1.toNat s.2),.row 73 43 (bif bLt (gi:Int) s.1 then (gd s.2 gi).Held.length else 0) (enR d_TStored (gd s.2 gi).Held)]) (fun e:Int × (List TSleeper)=>(.top::.ptr 0 0 0 0::.ptr 1 0 0 0::.fn 71 []::tp 31 [])) (fun e=>[.lit 52 [.int .i64 p0.Limit,.int .i64 p0.Stay,.sl 3 3 0 e.2.length false,.ro 43 p0.Group.length false (enR c_TStored p0.Group)],.lit 52 [.int .i64 0,.int .i64 0,.ro 0 0 true (fun _ _=>.top),.ro 0 0 true (fun _ _=>.top)],.dead,.row 71 3 e.2.length (bif bLt (gi:Int) e.1 then upc (mixR e.1.toNat e.2) gi 2 [.sl 4 43 0 (gd e.2 gi).Held.length false] else mixR e.1.toNat e.2),.row 73 43 (bif bLt (gi:Int) e.1 then (gd e.2 gi).Held.length else 0) (enR d_TStored (gd e.2 gi).Held)]) H ?_ (fun s o H hn1_1 hn2_1=>?_) (fun e H=>?_)
   ·have h0:bLt (gi:Int) 0=false:=by simp [bLt]
    try dsimp only
    simp only [h0,cond_false]
    refine SubF_of ⟨[some 0,some 1,some 2,some 2,none],?_,?_,by rfl,by rfl⟩
    ·simp [CvL,Cv,getM,tp]
    ·exact ⟨(by simp [CvB,CvL,Cv,blkAt,geth,getM]),(by simp [CvB,CvL,Cv,blkAt,geth]),CvB_dead,CvB_con (fun x y=>nref_getL (nr_TSleeper _) y) (fun x y _ _=>mix_0 r1 x y),(by simp only [CvB]),trivial⟩
   ·obtain ⟨v1_1,v1_2⟩:=s
    unfold F54f_L1 at H
    try dsimp only at H ⊢
    try simp only [tp]
    refine sq ctNo_ok ?_
    simp only [go_sem,Nat.reduceAdd]
    refine seqM ?_
    refine condM' rfl trivial (fun hc=>?_) (fun hc=>?_)
    ·replace H:=cond_f hc H
     refine rg ctNo_ok ?_
     simp only [go_sem]
     refine ⟨_,(Option.some.inj H).symm,?_⟩
     cases hgi:bLt (gi:Int) v1_1
     ·try dsimp only
      simp only [cond_false]
      refine SubF_of ⟨[some 0,some 1,some 2,some 3,some 4],?_,?_,by rfl,by rfl⟩
      ·simp [CvL,Cv,getM]
      ·exact ⟨(by simp [CvB,CvL,Cv,blkAt,geth,getM]),(by simp [CvB,CvL,Cv,blkAt,geth]),CvB_dead,CvB_con (fun x y=>mix_nr _ _ x y) (fun _ _ _ _=>rfl),CvB_z,trivial⟩
     ·try dsimp only
      simp only [cond_true]
      refine SubF_of ⟨[some 0,some 1,some 2,some 3,some 4],?_,?_,by rfl,by rfl⟩
      ·simp [CvL,Cv,getM]
      ·exact ⟨(by simp [CvB,CvL,Cv,blkAt,geth,getM]),(by simp [CvB,CvL,Cv,blkAt,geth]),CvB_dead,CvB_fS (fun x y=>mix_nr _ _ x y) (by simp [getM]) rfl (fun _ _ _ _ _=>rfl),CvB_row nr_d_TStored rfl (fun _ _ _ _=>rfl),trivial⟩
    replace H:=cond_t hc H
    refine rg ctNo_ok ?_
    simp only [go_sem]
    refine seqM ?_
    refine blkM ?_
    refine sq ctNo_ok ?_
    simp only [go_sem]
    obtain ⟨fz0,H⟩:=need_some.1 H
    have fz0:v1_1 < 1000000:=by simpa [bLt] using fz0
    obtain ⟨f3,H⟩:=need_some.1 H
    replace f3:=inb_iff.1 f3
    obtain ⟨r4,e5,H⟩:=bsi H
    obtain ⟨f6,H⟩:=need_some.1 H
    replace f6:=inb_iff.1 f6
    have hwr:wr .i64 (v1_1+1)=v1_1+1:=wr_in (by omega)
    have hq1:(wr .i64 (v1_1+1)).toNat=v1_1.toNat+1:=by rw [hwr];omega
    have hq2:v1_1.toNat < v1_2.length:=by omega
    rcases Nat.lt_trichotomy v1_1.toNat gi with hgi|hgi|hgi
    ·have hb:bLt (gi:Int) v1_1=false:=by simp only [bLt,decide_eq_false_iff_not];omega
     have hb2:bLt (gi:Int) (wr .i64 (v1_1+1))=false:=by rw [hwr];simp only [bLt,decide_eq_false_iff_not];omega
     simp only [hb,cond_false]
     refine draw_rule shT_ok ct54t1_ok 0 (by kernel_rfl) (by kernel_rfl) ?_
     intro an han
     simp only [d_nil,d_cons,nxtD,xrD,xoD,roEq,minL,List.append_nil,refsOp,refs,refsL,mask,maskF,place,placeF,okLog,pairOk,hit,inL,slotsF,ren,nrH,nrB,List.replicate_zero,Nat.sub_self,Nat.add_zero,Nat.zero_add,Nat.reduceSub,Nat.lt_add_one,go_sem,Nat.reduceLeDiff,Nat.reduceLT,Nat.reduceAdd,Nat.reduceSub,Nat.reduceBEq,ct54t1_71,body71_0,f3,e5]
     repeat ((with_reducible refine And.intro ?_ ?_);focus (and_intros<;>first|(with_reducible trivial)|(show anB _ _ _=true;subst han;kernel_rfl)|(show (anB _ _ _ && _)=true;subst han;kernel_rfl)|omega|assumption|exact nrc|exact nfc|first|exact rfl|exact trivial|exact fitI|exact .inr rfl|exact .inl rfl|exact fun x hx=>absurd hx (by omega)))
     refine rg ctNo_ok ?_
     simp only [go_sem]
     refine ⟨_,(Option.some.inj H).symm,?_⟩
     try dsimp only
     simp only [hb2,cond_false]
     refine SubF_of ⟨[some 0,some 1,some 2,some 3,some 4],?_,?_,by rfl,by rfl⟩
     ·simp [CvL,Cv,getM]
     ·exact ⟨(by simp [CvB,CvL,Cv,blkAt,geth,getM]),(by simp [CvB,CvL,Cv,blkAt,geth]),CvB_dead,(by rw [List.length_set,hq1];exact CvB_con (fun x y=>by rw [upc1];split;(simp only [nref]);exact mix_nr _ _ x y) (fun x y _ hy=>by rw [mix_set hq2];unfold upc;by_cases hx:x=v1_1.toNat;(subst hx;rw [if_pos rfl,mix_self];exact (match y,hy with|0,_=>(by rw [if_neg (fun w=>absurd w.2.1 (by decide))];rfl)|1,_=>(by rw [if_neg (fun w=>absurd w.2.1 (by decide))];rfl)|2,_=>(by rw [if_pos ⟨rfl,Nat.le_refl _,Nat.lt_succ_self _⟩];rfl)|y+3,h=>absurd h nlt));rw [if_neg hx,if_neg (fun w=>hx w.1)])),CvB_z,trivial⟩
    ·have hb:bLt (gi:Int) v1_1=false:=by simp only [bLt,decide_eq_false_iff_not];omega
     have hb2:bLt (gi:Int) (wr .i64 (v1_1+1))=true:=by rw [hwr];simp only [bLt,decide_eq_true_eq];omega
     have Hk:=H
     obtain rfl:=hgi
     have H:=Hk
     have e5b:F71 (gd v1_2 v1_1.toNat).Held=some r4:=by have h:=e5;unfold F71_0 at h;unfold F71;exact h
     have hgs:gd (v1_2.set v1_1.toNat (TSleeper.mk ((gd v1_2 v1_1.toNat).Aid) ((gd v1_2 v1_1.toNat).Asleep) r4)) v1_1.toNat=(TSleeper.mk ((gd v1_2 v1_1.toNat).Aid) ((gd v1_2 v1_1.toNat).Asleep) r4):=gd_set_eq (by omega)
     simp only [hb,cond_false]
     refine draw_rule shT_ok ct54t2_ok 1 (by kernel_rfl) (by kernel_rfl) ?_
     intro an han
     simp only [d_nil,d_cons,nxtD,xrD,xoD,roEq,minL,List.append_nil,refsOp,refs,refsL,mask,maskF,place,placeF,okLog,pairOk,hit,inL,slotsF,ren,rnN,nrH,nrB,List.replicate_zero,List.replicate_succ,Nat.sub_self,Nat.add_zero,Nat.zero_add,Nat.reduceSub,Nat.lt_add_one,go_sem,Nat.reduceLeDiff,Nat.reduceLT,Nat.reduceAdd,Nat.reduceSub,Nat.reduceBEq,ct54t2_71,body71,f3,e5b]
     repeat ((with_reducible refine And.intro ?_ ?_);focus (and_intros<;>first|(with_reducible trivial)|(show anB _ _ _=true;subst han;kernel_rfl)|(show (anB _ _ _ && _)=true;subst han;kernel_rfl)|omega|assumption|exact nrc|exact nfc|first|exact rfl|exact trivial|exact fitI|exact .inr rfl|exact .inl rfl|exact fun x hx=>absurd hx (by omega)))
     refine rg ctNo_ok ?_
     simp only [go_sem]
     refine ⟨_,(Option.some.inj H).symm,?_⟩
     try dsimp only
     simp only [hb2,cond_true,hgs]
     refine SubF_of ⟨[some 0,some 1,some 2,some 3,some 5],?_,?_,by rfl,by rfl⟩
     ·simp [CvL,Cv,getM]
     ·exact ⟨(by simp [CvB,CvL,Cv,blkAt,geth,getM]),(by simp [CvB,CvL,Cv,blkAt,geth]),CvB_dead,(by rw [List.length_set,hq1];exact CvB_fS (fun x y=>mix_nr _ _ x y) (by simp [getM]) rfl (fun x y _ hy hne=>by rw [mix_set hq2];by_cases hx:x=v1_1.toNat;(subst hx;rw [if_pos rfl,mix_self];exact (match y,hy with|0,_=>rfl|1,_=>rfl|2,_=>absurd ⟨rfl,rfl⟩ hne|y+3,h=>absurd h nlt));rw [if_neg hx])),CvB_row nr_d_TStored rfl (fun _ _ _ _=>rfl),trivial⟩
    ·have hb:bLt (gi:Int) v1_1=true:=by simp only [bLt,decide_eq_true_eq];omega
     have hb2:bLt (gi:Int) (wr .i64 (v1_1+1))=true:=by rw [hwr];simp only [bLt,decide_eq_true_eq];omega
     have hne:v1_1.toNat ≠ gi:=by omega
     have hgs:gd (v1_2.set v1_1.toNat (TSleeper.mk ((gd v1_2 v1_1.toNat).Aid) ((gd v1_2 v1_1.toNat).Asleep) r4)) gi=gd v1_2 gi:=gd_set_ne hne
     simp only [hb,cond_true]
     refine draw_rule shT_ok ct54t1_ok 0 (by kernel_rfl) (by kernel_rfl) ?_
     intro an han
     simp only [d_nil,d_cons,nxtD,xrD,xoD,roEq,minL,List.append_nil,refsOp,refs,refsL,mask,maskF,place,placeF,okLog,pairOk,hit,inL,slotsF,ren,nrH,nrB,List.replicate_zero,Nat.sub_self,Nat.add_zero,Nat.zero_add,Nat.reduceSub,Nat.lt_add_one,go_sem,Nat.reduceLeDiff,Nat.reduceLT,Nat.reduceAdd,Nat.reduceSub,Nat.reduceBEq,upc_ne hne,ct54t1_71,body71_0,f3,e5]
     repeat ((with_reducible refine And.intro ?_ ?_);focus (and_intros<;>first|(with_reducible trivial)|(show anB _ _ _=true;subst han;kernel_rfl)|(show (anB _ _ _ && _)=true;subst han;kernel_rfl)|omega|assumption|exact nrc|exact nfc|first|exact rfl|exact trivial|exact fitI|exact .inr rfl|exact .inl rfl|exact fun x hx=>absurd hx (by omega)))
     refine rg ctNo_ok ?_
     simp only [go_sem]
     refine ⟨_,(Option.some.inj H).symm,?_⟩
     try dsimp only
     simp only [hb2,cond_true,hgs]
     refine SubF_of ⟨[some 0,some 1,some 2,some 3,some 4],?_,?_,by rfl,by rfl⟩
     ·simp [CvL,Cv,getM]
     ·exact ⟨(by simp [CvB,CvL,Cv,blkAt,geth,getM]),(by simp [CvB,CvL,Cv,blkAt,geth]),CvB_dead,(by rw [List.length_set,hq1];exact CvB_fC (fun x y=>mix_nr _ _ x y) hne (by simp [getM]) rfl (fun x y _ hy _=>by rw [mix_set hq2];unfold upc;by_cases hx:x=v1_1.toNat;(subst hx;rw [if_pos rfl,mix_self];exact (match y,hy with|0,_=>(by rw [if_neg (fun w=>absurd w.2.1 (by decide))];rfl)|1,_=>(by rw [if_neg (fun w=>absurd w.2.1 (by decide))];rfl)|2,_=>(by rw [if_pos ⟨rfl,Nat.le_refl _,Nat.lt_succ_self _⟩];rfl)|y+3,h=>absurd h nlt));rw [if_neg hx,if_neg (fun w=>hx w.1)])),CvB_row nr_d_TStored rfl (fun _ _ _ _=>rfl),trivial⟩
   ·obtain ⟨e1,e2⟩:=e
    try dsimp only at H ⊢
    try simp only [tp]
    try simp only [m_normal]
    refine seqM ?_
    obtain ⟨fgi,H⟩:=need_some.1 H
    try simp only [fgi,cond_true]
    obtain ⟨fge,H⟩:=need_some.1 H
    replace fge:=of_decide_eq_true fge
    obtain ⟨r7,e8,H⟩:=bsi H
    refine rg ct54t2_ok ?_
    simp only [go_sem,Nat.reduceLT,Nat.reduceAdd,ct54t2_71,body71,e8]
    repeat ((with_reducible refine And.intro ?_ ?_);focus (first|(and_intros<;>first|(with_reducible trivial)|omega|assumption|exact nfc|first|exact rfl|exact trivial|exact fitI|exact .inr rfl|exact .inl rfl|exact fun x hx=>absurd hx (by omega))|grind))
    refine sq ctNo_ok ?_
    simp only [go_sem,Nat.reduceLT,Nat.reduceAdd]
    repeat ((with_reducible refine And.intro ?_ ?_);focus (first|(with_reducible trivial)|omega|grind))
    refine rg ctNo_ok ?_
    simp only [go_sem,Nat.reduceLT,Nat.reduceAdd]
    obtain rfl:=Option.some.inj H
    refine ⟨[],?_,?_,[some 3,some 4,some 5],?_,?_,by rfl⟩
    ·simp only [go_sem]
    ·simp only [go_sem]
    ·simp [fzV,fzL,inL,Cv,CvL,getM]
     all_goals first|exact (by first|rfl|(simp;done)|(simp;omega))|exact (by first|rfl|(simp;done)|(simp;omega))
    ·simp only [go_sem,CvH]
     exact ⟨CvB_fS (fun x y=>mix_nr _ _ x y) (by simp [getM]) rfl (fun x y hx _ _=>(mix_end fge hx).symm),CvB_row nr_d_TStored rfl (fun _ _ _ _=>rfl),CvB_row nr_d_TStored (by first|rfl|(simp;done)|(simp;omega)) (fun _ _ _ _=>rfl)⟩
  ·cases hb
end Go.Proofs.Ytnclkplbeenmdaa
