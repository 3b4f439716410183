/-
  Regulate: what holds after each step of a cell.
-/
import Derived.Test.YtooepgpfaaddbaaGreatTR
namespace Go.Proofs.YtooepgpfaaddbaaGreat
open Go.Am
set_option linter.unusedVariables false
set_option linter.unusedSimpArgs false
def st1 (w:Int) (s nx:TRegulate) (t:Int) (m:List (Int × Int)):List (Int × Int):=bif ((bEq w 0 && nx.Stopped) && !s.Stopped) then bY m s.Channel t else m
def st2 (w:Int) (s nx:TRegulate) (t:Int) (m:List (Int × Int)):List (Int × Int):=bif (bEq w 0 && !bEq nx.Channel s.Channel) then delM (st1 w s nx t m) nx.Channel else st1 w s nx t m
theorem upd_len (m:List (Int × Int)) (a b:Int):(bY m a b).length <= m.length+1:=by
 unfold bY;split
 ·rw [List.length_map];omega
 ·rw [List.length_append];simp
theorem st2_len (w:Int) (s nx:TRegulate) (t:Int) (m:List (Int × Int)):(st2 w s nx t m).length <= m.length+1:=by
 have h1:(st1 w s nx t m).length <= m.length+1:=by
  unfold st1
  cases (bEq w 0 && nx.Stopped) && !s.Stopped with
  | true=>exact upd_len ..
  | false=>exact Nat.le_succ _
 unfold st2
 cases (bEq w 0 && !bEq nx.Channel s.Channel) with
 | true=>exact Nat.le_trans (List.length_filter_le ..) h1
 | false=>exact h1
inductive Sp (t:Int) (all:List TRegulate) (sent:List TRegulateWord) (stop:List (Int × Int)):List TRegulate->List TRegulateWord->List (Int × Int)->Prop
 | no:Sp t all sent stop all sent stop
 | say (c:TRegulateChannel) (hc:c ∈ (gd all 0).Table) (hn:c.Number=(gd all 0).Channel) (h:Ma (gd all 0) c 0 t):Sp t all sent stop all (sent ++ [⟨3,(gd all 0).Channel,0,t⟩]) stop
 | mvd (w:Nat) (hw:w < all.length) (nx:TRegulate) (out:List TRegulateWord) (h:Nx sent t (gd all w) nx out):Sp t all sent stop (all.set w nx) (sent ++ out) (st2 w (gd all w) nx t stop)
theorem tG {α:Type} [Inhabited α] {l:List α} {w i:Nat} {x:α} (hw:w < l.length):gd (l.set w x) i=if i=w then x else gd l i:=by
 simp only [gd,List.getD_eq_getElem?_getD,List.getElem?_set]
 by_cases h:w=i
 ·subst h;simp [hw]
 ·simp [h,Ne.symm h]
def an (s:TRegulate):TRegulateWord:=⟨1,s.Channel,s.To,s.At⟩
structure Ce (tb:List TRegulateChannel) (t:Int) (all:List TRegulate) (sent:List TRegulateWord):Prop where
 len:0 < all.length
 st:∀ i,i < all.length->S3 tb (gd all i)/\((gd all i).Lead=true ↔ i=0)
 wd:∀ w ∈ sent,W3 tb w
theorem Ce_step {tb:List TRegulateChannel} {t t':Int} {all all':List TRegulate} {sent sent':List TRegulateWord} {stop stop':List (Int × Int)} (h:Ce tb t all sent) (ht:Mo t') (s:Sp t' all sent stop all' sent' stop'):Ce tb t' all' sent'/\all'.length=all.length/\sent'.length <= sent.length+1/\stop'.length <= stop.length+1/\∀ w ∈ sent,w ∈ sent':=by
 cases s with
 | no=>exact ⟨⟨h.len,h.st,h.wd⟩,rfl,Nat.le_succ _,Nat.le_succ _,fun _ h=>h⟩
 | say c hc hn hm =>
  refine ⟨⟨h.len,h.st,fun w hw=>?_⟩,rfl,by simp,Nat.le_succ _,fun w h=>List.mem_append_left _ h⟩
  rcases List.mem_append.1 hw with q|q
  ·exact h.wd w q
  ·rw [List.mem_singleton] at q;subst q
   have h3:=c255 ((h.st 0 h.len).1.2 ▸ (h.st 0 h.len).1.1.1) ((ht3 (h.st 0 h.len).1.2).1 (h.st 0 h.len).1.1.2.1)
   refine ⟨⟨?_,ht,.inr (.inr ⟨rfl,rfl⟩)⟩,fun q=>absurd (show (3:Int)=1 from q) (by decide)⟩
   show 1 <= (gd all 0).Channel/\(gd all 0).Channel <= 255
   exact h3
 | mvd w hw nx out hx =>
  obtain ⟨k1,k2,k3,k4⟩:=Nx_keep hx (h.st w hw).1 ht h.wd
  refine ⟨⟨by rw [List.length_set];exact h.len,fun i hi=>?_,fun v hv=>?_⟩,List.length_set,by rw [List.length_append];omega,st2_len ..,fun w h=>List.mem_append_left _ h⟩
  ·rw [List.length_set] at hi
   rw [tG hw]
   by_cases e:i=w
   ·subst e;rw [if_pos rfl,k2];exact ⟨k1,(h.st i hi).2⟩
   ·rw [if_neg e];exact h.st i hi
  ·rcases List.mem_append.1 hv with q|q
   ·exact h.wd v q
   ·exact k4 v q
structure Me (t:Int) (all:List TRegulate) (sent:List TRegulateWord):Prop where
 mov:∀ i,i < all.length->(gd all i).Moving=true->an (gd all i) ∈ sent
 lead:(gd all 0).Moving=true->∀ w ∈ sent,w.Kind=1->w.At <= (gd all 0).At/\(w.At=(gd all 0).At->w=an (gd all 0))
 quiet:(gd all 0).Moving=false->∀ w ∈ sent,w.Kind=1->w.At <= t
 one:∀ w ∈ sent,∀ v ∈ sent,w.Kind=1->v.Kind=1->w.At=v.At->w.To=v.To
theorem Me.app3 {t t':Int} {all:List TRegulate} {sent out:List TRegulateWord} (h:Me t all sent) (ht:t <= t') (ho:∀ w ∈ out,w.Kind ≠ 1):Me t' all (sent ++ out):=by
 have key:∀ w ∈ sent ++ out,w.Kind=1->w ∈ sent:=fun w hw hk=>by
  rcases List.mem_append.1 hw with q|q
  ·exact q
  ·exact absurd hk (ho w q)
 exact ⟨fun i hi hm=>List.mem_append_left _ (h.mov i hi hm),fun hm w hw hk=>h.lead hm w (key w hw hk) hk,fun hm w hw hk=>Int.le_trans (h.quiet hm w (key w hw hk) hk) ht,fun w hw v hv k1 k2 e=>h.one w (key w hw k1) v (key v hv k2) k1 k2 e⟩
theorem Me.mem {t:Int} {all:List TRegulate} {sent:List TRegulateWord} (h:Me t all sent) {w:Nat} (hw:w < all.length) (h0:w ≠ 0) {nx:TRegulate} (hx:nx.Moving=true->an nx ∈ sent):Me t (all.set w nx) sent:=by
 have e0:gd (all.set w nx) 0=gd all 0:=by rw [tG hw,if_neg (Ne.symm h0)]
 refine ⟨fun i hi hm=>?_,by rw [e0];exact h.lead,by rw [e0];exact h.quiet,h.one⟩
 rw [List.length_set] at hi
 rw [tG hw] at hm ⊢
 by_cases e:i=w
 ·rw [if_pos e] at hm ⊢;exact hx hm
 ·rw [if_neg e] at hm ⊢;exact h.mov i hi hm
theorem Me_step {tb:List TRegulateChannel} {t t':Int} {all all':List TRegulate} {sent sent':List TRegulateWord} {stop stop':List (Int × Int)} (c:Ce tb t all sent) (h:Me t all sent) (ht:Mo t') (hle:t <= t') (hbig:t' <= 1000000000) (s:Sp t' all sent stop all' sent' stop'):Me t' all' sent':=by
 have hu:unt t' 150000=t'+150000:=by unfold unt jI;split<;>omega
 have h':Me t' all sent:=by have:=h.app3 (out:=[]) hle (fun w hw=>absurd hw (List.not_mem_nil));rwa [List.append_nil] at this
 cases s with
 | no=>exact h'
 | say c hc hn hm=>exact h'.app3 (Int.le_refl _) (fun w hw=>by rw [List.mem_singleton] at hw;subst hw;exact fun q=>absurd (show (3:Int)=1 from q) (by decide))
 | mvd w hw nx out hx =>
  have hS:=(c.st w hw).1
  have hL:=(c.st w hw).2
  cases hx with
  | ann v hv hk hc hl ha =>
   rw [List.append_nil]
   refine h'.mem hw (fun e=>by rw [hL.2 e] at hl;exact Bool.noConfusion hl) (fun _=>?_)
   have:an (ann (gd all w) v t')=v:=by
    obtain ⟨a,b,d,e⟩:=v
    simp only at hk hc
    subst hk hc
    rfl
   rw [this];exact hv
  | her v hv hk hc hl hs h1 h2 =>
   rw [List.append_nil]
   exact h'.mem hw (fun e=>by rw [hL.2 e] at hl;exact Bool.noConfusion hl) (fun hm=>h'.mov w hw hm)
  | radar p hp hst =>
   have hnm:(gd all w).Moving=false:=by
    rcases Bool.eq_false_or_eq_true (gd all w).Moving with q|q
    ·have:=(hS.1.2.2.2.2.2.1 q).1;rw [hst] at this;exact Bool.noConfusion this
    ·exact q
   unfold rad
   cases hl:(gd all w).Lead with
   | false =>
    rw [xS (c:=!false) rfl]
    have h1:Me t' (all.set w (stp (gd all w) t')) sent:=h'.mem hw (fun e=>by rw [hL.2 e] at hl;exact Bool.noConfusion hl) (fun hm=>by
     have hm:(gd all w).Moving=true:=hm
     rw [hnm] at hm;exact Bool.noConfusion hm)
    exact h1.app3 (Int.le_refl _) (fun w hw=>by rw [List.mem_singleton] at hw;subst hw;exact fun q=>absurd (show (2:Int)=1 from q) (by decide))
   | true =>
    obtain rfl:=hL.1 hl
    rw [yO (c:=!true) rfl]
    cases hu2:bEq ((usL (gd all 0).Table (gd all 0).Channel (stB (gd all 0) t') (stC (gd all 0)) t').length:Nat) 0 with
    | true =>
     rw [cond_true,List.append_nil]
     have e0:gd (all.set 0 (stp (gd all 0) t')) 0=stp (gd all 0) t':=by rw [tG hw,if_pos rfl]
     refine ⟨fun i hi hm=>?_,by rw [e0];exact fun hm=>h'.lead hm,by rw [e0];exact fun hm=>h'.quiet hm,h'.one⟩
     rw [List.length_set] at hi
     rw [tG hw] at hm ⊢
     by_cases e:i=0
     ·rw [if_pos e] at hm
      have hm:(gd all 0).Moving=true:=hm
      rw [hnm] at hm;exact Bool.noConfusion hm
     ·rw [if_neg e] at hm ⊢;exact h'.mov i hi hm
    | false =>
     rw [cond_false]
     generalize gd (usL (gd all 0).Table (gd all 0).Channel (stB (gd all 0) t') (stC (gd all 0)) t') _=to
     have q:=h'.quiet hnm
     rw [hu]
     have e0:∀ nx:TRegulate,gd (all.set 0 nx) 0=nx:=fun nx=>by rw [tG hw,if_pos rfl]
     refine ⟨fun i hi hm=>?_,fun _ v hv hk=>?_,fun hm=>?_,fun v hv u hu k1 k2 e=>?_⟩
     ·rw [List.length_set] at hi
      rw [tG hw] at hm ⊢
      by_cases e:i=0
      ·rw [if_pos e];exact List.mem_append_right _ List.mem_cons_self
      ·rw [if_neg e] at hm ⊢;exact List.mem_append_left _ (h'.mov i hi hm)
     ·rw [e0]
      rcases List.mem_append.1 hv with g|g
      ·have:=q v g hk
       refine ⟨by show v.At <= t'+150000;omega,fun e=>?_⟩
       have e:v.At=t'+150000:=e
       omega
      ·rw [List.mem_singleton] at g;subst g
       exact ⟨Int.le_refl _,fun _=>rfl⟩
     ·rw [e0] at hm;exact Bool.noConfusion (show true=false from hm)
     ·rcases List.mem_append.1 hv with g|g<;>rcases List.mem_append.1 hu with g2|g2
      ·exact h'.one v g u g2 k1 k2 e
      ·rw [List.mem_singleton] at g2;subst g2
       have:=q v g k1
       have e:v.At=t'+150000:=e
       omega
      ·rw [List.mem_singleton] at g;subst g
       have:=q u g2 k2
       have e:t'+150000=u.At:=e
       omega
      ·rw [List.mem_singleton] at g g2;subst g g2;rfl
  | tick =>
   unfold tik tiw
   cases hd:((gd all w).Moving && bLe (gd all w).At t') with
   | true =>
    rw [cond_true,cond_true,List.append_nil]
    simp [vB] at hd
    by_cases h0:w=0
    ·subst h0
     have e0:∀ nx:TRegulate,gd (all.set 0 nx) 0=nx:=fun nx=>by rw [tG hw,if_pos rfl]
     refine ⟨fun i hi hm=>?_,fun hm=>?_,fun _ v hv hk=>?_,h'.one⟩
     ·rw [List.length_set] at hi
      rw [tG hw] at hm ⊢
      by_cases e:i=0
      ·rw [if_pos e] at hm;exact Bool.noConfusion (show false=true from hm)
      ·rw [if_neg e] at hm ⊢;exact h'.mov i hi hm
     ·rw [e0] at hm;exact Bool.noConfusion (show false=true from hm)
     ·exact Int.le_trans (h'.lead hd.1 v hv hk).1 hd.2
    ·exact h'.mem hw h0 (fun hm=>Bool.noConfusion (show false=true from hm))
   | false =>
    rw [cond_false,cond_false]
    by_cases h0:w=0
    ·subst h0
     have e0:∀ nx:TRegulate,gd (all.set 0 nx) 0=nx:=fun nx=>by rw [tG hw,if_pos rfl]
     have h1:Me t' (all.set 0 ⟨(gd all 0).Table,(gd all 0).Channel,(gd all 0).Lead,(gd all 0).Heard,(gd all 0).Stopped,(gd all 0).Moving,(gd all 0).To,(gd all 0).At,tkB (gd all 0) t',(gd all 0).Clear⟩) sent:=by
      refine ⟨fun i hi hm=>?_,by rw [e0];exact fun hm=>h'.lead hm,by rw [e0];exact fun hm=>h'.quiet hm,h'.one⟩
      rw [List.length_set] at hi
      rw [tG hw] at hm ⊢
      by_cases e:i=0
      ·subst e;rw [if_pos rfl] at hm ⊢;exact h'.mov 0 hw hm
      ·rw [if_neg e] at hm ⊢;exact h'.mov i hi hm
     cases hm:((gd all 0).Moving && (gd all 0).Lead) with
     | false=>rw [cond_false,List.append_nil];exact h1
     | true =>
      rw [cond_true]
      simp at hm
      have hin:=h'.mov 0 hw hm.1
      have key:∀ v ∈ sent ++ [an (gd all 0)],v ∈ sent:=fun v hv=>by
       rcases List.mem_append.1 hv with g|g
       ·exact g
       ·rw [List.mem_singleton] at g;subst g;exact hin
      exact ⟨fun i hi hm=>List.mem_append_left _ (h1.mov i hi hm),fun hm v hv hk=>h1.lead hm v (key v hv) hk,fun hm v hv hk=>h1.quiet hm v (key v hv) hk,fun v hv u hu k1 k2 e=>h1.one v (key v hv) u (key u hu) k1 k2 e⟩
    ·have hl:(gd all w).Lead=false:=by
      rcases Bool.eq_false_or_eq_true (gd all w).Lead with q|q
      ·exact absurd (hL.1 q) h0
      ·exact q
     rw [hl,Bool.and_false,cond_false,List.append_nil]
     exact h'.mem hw h0 (fun hm=>h'.mov w hw hm)
theorem rad_mem (s:TRegulate) (p t:Int) (hl:s.Lead=false):rad s p t=([⟨2,s.Channel,0,0⟩],stp s t):=by
 unfold rad;rw [hl];rfl
theorem rad_lead (s:TRegulate) (p t:Int) (hp:0 <= p) (hl:s.Lead=true):rad s p t=([],stp s t) ∨ ∃ to,to ∈ usL s.Table s.Channel (stB s t) (stC s) t/\rad s p t=([⟨1,s.Channel,to,unt t 150000⟩],⟨s.Table,s.Channel,s.Lead,s.Heard,true,true,to,unt t 150000,stB s t,stC s⟩):=by
 unfold rad
 rw [hl,yO (c:=!true) rfl]
 by_cases hu:(usL s.Table s.Channel (stB s t) (stC s) t).length=0
 ·rw [xS (c:=bEq _ _) (by simp [yT,hu])];exact .inl rfl
 ·rw [yO (c:=bEq _ _) (by simp [yT];intro h;exact hu (by simp [h]))]
  obtain ⟨k,k1,k2⟩:=md_in hp hu
  refine .inr ⟨_,?_,rfl⟩
  rw [k2,Int.toNat_natCast]
  exact vZ k1
def Bk (s:TRegulate) (n:Int):Prop:=∃ b ∈ s.Blocked,b.Channel=n/\1000000000 < b.Until
structure Qn (all:List TRegulate) (sent:List TRegulateWord) (n T:Int):Prop where
 blk:Bk (gd all 0) n
 own:(gd all 0).Channel=n->(gd all 0).Stopped=true
 to:(gd all 0).Moving=true->(gd all 0).To ≠ n
 mem:∀ i,i < all.length->i ≠ 0->(gd all i).Channel=n->(gd all i).Heard <= T
 here:∀ w ∈ sent,w.Kind=3->w.Channel=n->w.At <= T
 ann:∀ w ∈ sent,w.Kind=1->w.To=n->w.At <= T
structure Qu (t:Int) (all:List TRegulate) (sent:List TRegulateWord) (stop:List (Int × Int)):Prop where
 st:∀ n T,lkp stop n=some T->Qn all sent n T
 here:∀ w ∈ sent,w.Kind=3->w.At <= t
 cur:∀ w ∈ sent,w.Kind=1->w.To=(gd all 0).Channel->w.At <= t
 mem:∀ i,i < all.length->i ≠ 0->(gd all i).Heard <= t
theorem Qu.le {t t':Int} {all:List TRegulate} {sent:List TRegulateWord} {stop:List (Int × Int)} (h:Qu t all sent stop) (ht:t <= t'):Qu t' all sent stop :=
 ⟨h.st,fun w hw k=>Int.le_trans (h.here w hw k) ht,fun w hw k e=>Int.le_trans (h.cur w hw k e) ht,fun i hi h0=>Int.le_trans (h.mem i hi h0) ht⟩
theorem Qu.other {t:Int} {all:List TRegulate} {sent out:List TRegulateWord} {stop:List (Int × Int)} (h:Qu t all sent stop) {w:Nat} (hw:w < all.length) (h0:w ≠ 0) {nx:TRegulate} (ho:∀ v ∈ out,v.Kind=2)
  (hn:nx.Heard <= t) (hx:∀ n T,lkp stop n=some T->nx.Channel=n->nx.Heard <= T):Qu t (all.set w nx) (sent ++ out) stop:=by
 have e0:gd (all.set w nx) 0=gd all 0:=by rw [tG hw,if_neg (Ne.symm h0)]
 have key:∀ v ∈ sent ++ out,(v.Kind=1 ∨ v.Kind=3)->v ∈ sent:=fun v hv hk=>by
  rcases List.mem_append.1 hv with q|q
  ·exact q
  ·have:=ho v q;omega
 refine ⟨fun n T e=>?_,fun v hv k=>h.here v (key v hv (.inr k)) k,by rw [e0];exact fun v hv k e=>h.cur v (key v hv (.inl k)) k e,fun i hi i0=>?_⟩
 ·have q:=h.st n T e
  refine ⟨by rw [e0];exact q.blk,by rw [e0];exact q.own,by rw [e0];exact q.to,fun i hi i0 hc=>?_,fun v hv k e=>q.here v (key v hv (.inr k)) k e,fun v hv k e=>q.ann v (key v hv (.inl k)) k e⟩
  rw [List.length_set] at hi
  rw [tG hw] at hc ⊢
  by_cases e2:i=w
  ·rw [if_pos e2] at hc ⊢;exact hx n T e hc
  ·rw [if_neg e2] at hc ⊢;exact q.mem i hi i0 hc
 ·rw [List.length_set] at hi
  rw [tG hw]
  by_cases e2:i=w
  ·rw [if_pos e2];exact hn
  ·rw [if_neg e2];exact h.mem i hi i0
theorem st2_mem {w:Nat} (h:w ≠ 0) (s nx:TRegulate) (t:Int) (m:List (Int × Int)):st2 w s nx t m=m:=by
 have e:bEq (w:Int) 0=false:=by simp [yT];exact h
 unfold st2 st1;rw [e];rfl
theorem gd_0 {all:List TRegulate} (hw:0 < all.length) (nx:TRegulate):gd (all.set 0 nx) 0=nx:=by rw [tG hw,if_pos rfl]
theorem gd_n {all:List TRegulate} (hw:0 < all.length) (nx:TRegulate) {i:Nat} (hi:i ≠ 0):gd (all.set 0 nx) i=gd all i:=by rw [tG hw,if_neg hi]
theorem stB_old {s:TRegulate} {t:Int} (rb:Rb s.Blocked) {n:Int} (hn:n ≠ s.Channel) {b:TRegulateBlock} (hb:b ∈ s.Blocked) (hc:b.Channel=n):b ∈ stB s t:=by
 obtain ⟨A,B,e,_,_,h|⟨x,hx,h⟩⟩:=stB_is s t rb
 ·rw [e];rw [h] at hb
  rcases List.mem_append.1 hb with q|q
  ·exact List.mem_append_left _ q
  ·exact List.mem_append_right _ (List.mem_cons_of_mem _ q)
 ·rw [e];rw [h] at hb
  rcases List.mem_append.1 hb with q|q
  ·exact List.mem_append_left _ q
  ·rcases List.mem_cons.1 q with rfl|q
   ·exact absurd (hc.symm.trans hx) hn
   ·exact List.mem_append_right _ (List.mem_cons_of_mem _ q)
theorem stB_new {s:TRegulate} {t:Int} (rb:Rb s.Blocked):(⟨s.Channel,unt t 1800000000⟩:TRegulateBlock) ∈ stB s t:=by
 obtain ⟨A,B,e,_⟩:=stB_is s t rb
 rw [e];exact List.mem_append_right _ List.mem_cons_self
theorem Qu_step {tb:List TRegulateChannel} {t t':Int} {all all':List TRegulate} {sent sent':List TRegulateWord} {stop stop':List (Int × Int)} (c:Ce tb t all sent) (m:Me t all sent) (h:Qu t all sent stop) (ht:Mo t') (hle:t <= t') (hbig:t' <= 1000000000) (s:Sp t' all sent stop all' sent' stop'):Qu t' all' sent' stop':=by
 have hu:unt t' 1800000000=t'+1800000000:=by unfold Mo at ht;unfold unt jI;split<;>omega
 have h':=h.le hle
 have c0:=(c.st 0 c.len).1
 cases s with
 | no=>exact h'
 | say ch hc hn hm =>
  have hst:=hm.1
  refine ⟨fun n T e=>?_,fun w hw k=>?_,fun w hw k e=>?_,h'.mem⟩
  ·have q:=h'.st n T e
   refine ⟨q.blk,q.own,q.to,q.mem,fun w hw k e=>?_,fun w hw k e=>?_⟩
   ·rcases List.mem_append.1 hw with g|g
    ·exact q.here w g k e
    ·rw [List.mem_singleton] at g;subst g
     have:=q.own e
     rw [hst] at this;exact Bool.noConfusion this
   ·rcases List.mem_append.1 hw with g|g
    ·exact q.ann w g k e
    ·rw [List.mem_singleton] at g;subst g;exact absurd (show (3:Int)=1 from k) (by decide)
  ·rcases List.mem_append.1 hw with g|g
   ·exact h'.here w g k
   ·rw [List.mem_singleton] at g;subst g;exact Int.le_refl _
  ·rcases List.mem_append.1 hw with g|g
   ·exact h'.cur w g k e
   ·rw [List.mem_singleton] at g;subst g;exact absurd (show (3:Int)=1 from k) (by decide)
 | mvd w hw nx out hx =>
  have hS:=(c.st w hw).1
  have hL:=(c.st w hw).2
  have rb:Rb (gd all w).Blocked:=hS.1.2.2.2.2.2.2.2.1
  by_cases h0:w=0
  ·subst h0
   have hl:(gd all 0).Lead=true:=hL.2 rfl
   cases hx with
   | ann v hv hk hc hl2 ha=>rw [hl] at hl2;exact Bool.noConfusion hl2
   | her v hv hk hc hl2 hs h1 h2=>rw [hl] at hl2;exact Bool.noConfusion hl2
   | radar p hp hst =>
    have hne:∀ n T,lkp stop n=some T->n ≠ (gd all 0).Channel:=fun n T e e2=>by
     have:=(h'.st n T e).own e2.symm
     rw [hst] at this;exact Bool.noConfusion this
    -- both cases at once
    obtain ⟨mv,to,at',out,e,hto⟩:∃ mv to at' out,rad (gd all 0) p t'=(out,⟨(gd all 0).Table,(gd all 0).Channel,(gd all 0).Lead,(gd all 0).Heard,true,mv,to,at',stB (gd all 0) t',stC (gd all 0)⟩) /\
      ((out=[]/\mv=false) ∨ (to ∈ usL (gd all 0).Table (gd all 0).Channel (stB (gd all 0) t') (stC (gd all 0)) t'/\out=[⟨1,(gd all 0).Channel,to,at'⟩])):=by
     rcases rad_lead (gd all 0) p t' hp hl with e|⟨to,h1,e⟩
     ·refine ⟨_,_,_,_,e,.inl ⟨rfl,?_⟩⟩
      rcases Bool.eq_false_or_eq_true (gd all 0).Moving with q|q
      ·have:=(hS.1.2.2.2.2.2.1 q).1;rw [hst] at this;exact Bool.noConfusion this
      ·exact q
     ·exact ⟨_,_,_,_,e,.inr ⟨h1,rfl⟩⟩
    rw [e]
    show Qu t' (all.set 0 ⟨(gd all 0).Table,(gd all 0).Channel,(gd all 0).Lead,(gd all 0).Heard,true,mv,to,at',stB (gd all 0) t',stC (gd all 0)⟩) (sent ++ out) (st2 _ _ ⟨(gd all 0).Table,(gd all 0).Channel,(gd all 0).Lead,(gd all 0).Heard,true,mv,to,at',stB (gd all 0) t',stC (gd all 0)⟩ _ _)
    generalize hnx:(⟨(gd all 0).Table,(gd all 0).Channel,(gd all 0).Lead,(gd all 0).Heard,true,mv,to,at',stB (gd all 0) t',stC (gd all 0)⟩:TRegulate)=nx
    have n1:nx.Channel=(gd all 0).Channel:=by rw [← hnx]
    have n2:nx.Stopped=true:=by rw [← hnx]
    have n3:nx.Blocked=stB (gd all 0) t':=by rw [← hnx]
    have n4:nx.Moving=mv:=by rw [← hnx]
    have n5:nx.To=to:=by rw [← hnx]
    have estop:st2 ((0:Nat):Int) (gd all 0) nx t' stop=bY stop (gd all 0).Channel t':=by
     unfold st2 st1
     rw [n1,n2,hst]
     simp [yT]
    rw [estop]
    have hus:∀ n,Bk nx n->mv=true->to ≠ n:=fun n ⟨b,b1,b2,b3⟩ hm e2=>by
     rcases hto with ⟨_,q⟩|⟨q,_⟩
     ·rw [q] at hm;exact Bool.noConfusion hm
     ·obtain ⟨cc,c1,c2,c3,c4⟩:=us_mem.1 q
      rw [n3] at b1
      have:=c4.1 b b1 (by rw [b2,c2,e2])
      omega
    have hown:mv=true->to ≠ (gd all 0).Channel:=fun hm=>by
     rcases hto with ⟨_,q⟩|⟨q,_⟩
     ·rw [q] at hm;exact Bool.noConfusion hm
     ·obtain ⟨cc,c1,c2,c3,c4⟩:=us_mem.1 q
      exact c3
    have hout:∀ v ∈ out,v.Kind=1/\mv=true->v.To=to:=fun v hv _=>by
     rcases hto with ⟨q,_⟩|⟨_,q⟩
     ·rw [q] at hv;exact absurd hv (List.not_mem_nil)
     ·rw [q,List.mem_singleton] at hv;rw [hv]
    have hout1:∀ v ∈ out,v.Kind=1/\v.To=to/\to ∈ usL (gd all 0).Table (gd all 0).Channel (stB (gd all 0) t') (stC (gd all 0)) t':=fun v hv=>by
     rcases hto with ⟨q,_⟩|⟨g,q⟩
     ·rw [q] at hv;exact absurd hv (List.not_mem_nil)
     ·rw [q,List.mem_singleton] at hv;rw [hv];exact ⟨rfl,rfl,g⟩
    have hus2:∀ n,Bk nx n->∀ v ∈ out,v.To ≠ n:=fun n ⟨b,b1,b2,b3⟩ v hv e2=>by
     obtain ⟨_,v2,v3⟩:=hout1 v hv
     obtain ⟨cc,c1,c2,c3,c4⟩:=us_mem.1 v3
     rw [n3] at b1
     have:=c4.1 b b1 (by rw [b2,c2,← v2,e2])
     omega
    have hk3:∀ v ∈ sent ++ out,v.Kind=3->v ∈ sent:=fun v hv k=>by
     rcases List.mem_append.1 hv with g|g
     ·exact g
     ·have:=(hout1 v g).1;omega
    have bkn:Bk nx (gd all 0).Channel:=⟨_,by rw [n3];exact stB_new rb,rfl,by show 1000000000 < unt t' 1800000000;unfold Mo at ht;omega⟩
    refine ⟨fun n T e2=>?_,fun v hv k=>h'.here v (hk3 v hv k) k,fun v hv k e2=>?_,fun i hi i0=>?_⟩
    ·rw [lkp_upd] at e2
     by_cases en:n=(gd all 0).Channel
     ·subst en
      rw [if_pos rfl] at e2
      obtain rfl:=Option.some.inj e2
      refine ⟨by rw [gd_0 hw];exact bkn,by rw [gd_0 hw];exact fun _=>n2,by rw [gd_0 hw,n4,n5];exact hown,fun i hi i0 _=>?_,fun v hv k _=>h'.here v (hk3 v hv k) k,fun v hv k e3=>?_⟩
      ·rw [List.length_set] at hi
       rw [gd_n hw _ i0];exact h'.mem i hi i0
      ·rcases List.mem_append.1 hv with g|g
       ·exact h'.cur v g k e3
       ·exact absurd e3 (hus2 _ bkn v g)
     ·rw [if_neg en] at e2
      have q:=h'.st n T e2
      have bk:Bk nx n:=by
       obtain ⟨b,b1,b2,b3⟩:=q.blk
       exact ⟨b,by rw [n3];exact stB_old rb en b1 b2,b2,b3⟩
      refine ⟨by rw [gd_0 hw];exact bk,by rw [gd_0 hw];exact fun _=>n2,by rw [gd_0 hw,n4,n5];exact hus n bk,fun i hi i0 hc=>?_,fun v hv k e3=>q.here v (hk3 v hv k) k e3,fun v hv k e3=>?_⟩
      ·rw [List.length_set] at hi
       rw [gd_n hw _ i0] at hc ⊢;exact q.mem i hi i0 hc
      ·rcases List.mem_append.1 hv with g|g
       ·exact q.ann v g k e3
       ·exact absurd e3 (hus2 _ bk v g)
    ·rw [gd_0 hw,n1] at e2
     rcases List.mem_append.1 hv with g|g
     ·exact h'.cur v g k e2
     ·exact absurd e2 (hus2 _ bkn v g)
    ·rw [List.length_set] at hi
     rw [gd_n hw _ i0];exact h'.mem i hi i0
   | tick =>
    have keep:∀ n,Bk (gd all 0) n->Bk (tik (gd all 0) t') n:=fun n ⟨b,b1,b2,b3⟩=>by
     refine ⟨b,?_,b2,b3⟩
     rw [(tik_tab (gd all 0) t').2.1]
     unfold tkB
     rw [List.mem_filter]
     refine ⟨b1,?_⟩
     simp [vB];omega
    cases hd:((gd all 0).Moving && bLe (gd all 0).At t') with
    | true =>
     have e1:tik (gd all 0) t' = ⟨(gd all 0).Table,(gd all 0).To,(gd all 0).Lead,bif !(gd all 0).Lead then (gd all 0).At else (gd all 0).Heard,false,false,0,0,tkB (gd all 0) t',(gd all 0).Clear⟩:=by unfold tik;rw [hd];rfl
     have e2:tiw (gd all 0) t'=[]:=by unfold tiw;rw [hd];rfl
     rw [e2,List.append_nil]
     have n1:(tik (gd all 0) t').Channel=(gd all 0).To:=by rw [e1]
     have n2:(tik (gd all 0) t').Stopped=false:=by rw [e1]
     have n4:(tik (gd all 0) t').Moving=false:=by rw [e1]
     simp [vB] at hd
     generalize tik (gd all 0) t'=nx at *
     have estop:∀ n T,lkp (st2 ((0:Nat):Int) (gd all 0) nx t' stop) n=some T->lkp stop n=some T:=fun n T e=>by
      have e3:st1 ((0:Nat):Int) (gd all 0) nx t' stop=stop:=by unfold st1;rw [n2];simp
      unfold st2 at e
      rw [e3] at e
      cases hb:(bEq ((0:Nat):Int) 0 && !bEq nx.Channel (gd all 0).Channel) with
      | false=>rw [hb] at e;exact e
      | true =>
       rw [hb,cond_true,lkp_del] at e
       split at e
       ·cases e
       ·exact e
     refine ⟨fun n T e=>?_,h'.here,fun v hv k e=>?_,fun i hi i0=>?_⟩
     ·have q:=h'.st n T (estop n T e)
      refine ⟨by rw [gd_0 hw];exact keep n q.blk,by rw [gd_0 hw,n1];exact fun e2=>absurd e2 (q.to hd.1),by rw [gd_0 hw,n4];exact fun e2=>Bool.noConfusion e2,fun i hi i0 hc=>?_,q.here,q.ann⟩
      rw [List.length_set] at hi
      rw [gd_n hw _ i0] at hc ⊢;exact q.mem i hi i0 hc
     ·exact Int.le_trans (m.lead hd.1 v hv k).1 hd.2
     ·rw [List.length_set] at hi
      rw [gd_n hw _ i0];exact h'.mem i hi i0
    | false =>
     have e1:tik (gd all 0) t' = ⟨(gd all 0).Table,(gd all 0).Channel,(gd all 0).Lead,(gd all 0).Heard,(gd all 0).Stopped,(gd all 0).Moving,(gd all 0).To,(gd all 0).At,tkB (gd all 0) t',(gd all 0).Clear⟩:=by unfold tik;rw [hd];rfl
     have e2:∀ v ∈ tiw (gd all 0) t',v ∈ sent:=fun v hv=>by
      unfold tiw at hv;rw [hd,cond_false] at hv
      cases hm:((gd all 0).Moving && (gd all 0).Lead) with
      | false=>rw [hm] at hv;exact absurd hv (List.not_mem_nil)
      | true =>
       rw [hm,cond_true,List.mem_singleton] at hv
       simp at hm
       rw [hv];exact m.mov 0 hw hm.1
     have key:∀ v ∈ sent ++ tiw (gd all 0) t',v ∈ sent:=fun v hv=>by
      rcases List.mem_append.1 hv with g|g
      ·exact g
      ·exact e2 v g
     have n1:(tik (gd all 0) t').Channel=(gd all 0).Channel:=by rw [e1]
     have n2:(tik (gd all 0) t').Stopped=(gd all 0).Stopped:=by rw [e1]
     have n4:(tik (gd all 0) t').Moving=(gd all 0).Moving:=by rw [e1]
     have n5:(tik (gd all 0) t').To=(gd all 0).To:=by rw [e1]
     generalize tiw (gd all 0) t'=out at *
     generalize tik (gd all 0) t'=nx at *
     have estop:st2 ((0:Nat):Int) (gd all 0) nx t' stop=stop:=by
      unfold st2 st1
      rw [n1,n2]
      cases (gd all 0).Stopped<;>simp [yT]
     rw [estop]
     refine ⟨fun n T e=>?_,fun v hv=>h'.here v (key v hv),fun v hv k e=>?_,fun i hi i0=>?_⟩
     ·have q:=h'.st n T e
      refine ⟨by rw [gd_0 hw];exact keep n q.blk,by rw [gd_0 hw,n1,n2];exact q.own,by rw [gd_0 hw,n4,n5];exact q.to,fun i hi i0 hc=>?_,fun v hv=>q.here v (key v hv),fun v hv=>q.ann v (key v hv)⟩
      rw [List.length_set] at hi
      rw [gd_n hw _ i0] at hc ⊢;exact q.mem i hi i0 hc
     ·rw [gd_0 hw,n1] at e
      exact h'.cur v (key v hv) k e
     ·rw [List.length_set] at hi
      rw [gd_n hw _ i0];exact h'.mem i hi i0
  ·rw [st2_mem h0]
   have hl:(gd all w).Lead=false:=by
    rcases Bool.eq_false_or_eq_true (gd all w).Lead with q|q
    ·exact absurd (hL.1 q) h0
    ·exact q
   have old:∀ n T,lkp stop n=some T->(gd all w).Channel=n->(gd all w).Heard <= T:=fun n T e hc=>(h'.st n T e).mem w hw h0 hc
   have no:∀ v ∈ ([]:List TRegulateWord),v.Kind=2:=fun v hv=>absurd hv (List.not_mem_nil)
   cases hx with
   | ann v hv hk hc hl2 ha=>exact h'.other hw h0 no (h'.mem w hw h0) old
   | her v hv hk hc hl2 hs h1 h2=>exact h'.other hw h0 no h2 (fun n T e e2=>(h'.st n T e).here v hv hk (hc.trans e2))
   | radar p hp hst =>
    rw [rad_mem _ _ _ hl]
    exact h'.other hw h0 (fun v hv=>by rw [List.mem_singleton] at hv;rw [hv]) (h'.mem w hw h0) old
   | tick =>
    have e2:tiw (gd all w) t'=[]:=by unfold tiw;rw [hl,Bool.and_false];cases (gd all w).Moving && bLe (gd all w).At t'<;>rfl
    rw [e2]
    unfold tik
    cases hd:((gd all w).Moving && bLe (gd all w).At t') with
    | true =>
     rw [cond_true,hl]
     simp [vB] at hd
     exact h'.other hw h0 no hd.2 (fun n T e e2=>(h'.st n T e).ann _ (m.mov w hw hd.1) rfl e2)
    | false =>
     rw [cond_false]
     exact h'.other hw h0 no (h'.mem w hw h0) old
end Go.Proofs.YtooepgpfaaddbaaGreat
