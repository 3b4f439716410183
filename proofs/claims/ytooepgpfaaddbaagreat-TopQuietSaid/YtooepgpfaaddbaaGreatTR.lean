/-
  Regulate: one step of a station over the chapter's table.
-/
import Derived.Test.YtooepgpfaaddbaaGreatQE
namespace Go.Proofs.YtooepgpfaaddbaaGreat
open Go.Am
set_option linter.unusedVariables false
set_option linter.unusedSimpArgs false
def Wd (w:TRegulateWord):Prop:=(1 <= w.Channel/\w.Channel <= 255)/\Mo w.At/\((w.Kind=1/\1 <= w.To/\w.To <= 255) ∨ (w.Kind=2/\w.To=0/\w.At=0) ∨ (w.Kind=3/\w.To=0))
theorem F29_ok (w:TRegulateWord):∃ b,F29 w=some b/\(b=true ↔ Wd w):=by
 unfold F29 F63 Wd Mo
 by_cases h1:w.Kind=1
 ·rw [xS (by simp [yT,h1])]
  refine ⟨_,by simp only [Option.bind_some,Option.isSome_some,Bool.cond_self,zD,zN];rfl,?_⟩
  simp [vB,h1];omega
 ·rw [yO (by simp [yT,h1])]
  by_cases h2:w.Kind=2
  ·rw [xS (by simp [yT,h2])]
   refine ⟨_,by simp only [Option.bind_some,Option.isSome_some,Bool.cond_self,zD,zN];rfl,?_⟩
   simp [vB,h2];omega
  ·rw [yO (by simp [yT,h2])]
   by_cases h3:w.Kind=3
   ·rw [xS (by simp [yT,h3])]
    refine ⟨_,by simp only [Option.bind_some,Option.isSome_some,Bool.cond_self,zD,zN];rfl,?_⟩
    simp [vB,h3];omega
   ·rw [yO (by simp [yT,h3])]
    exact ⟨_,rfl,by simp [h1,h2,h3]⟩
def NR (tb:List TRegulateChannel):Prop:=Vt tb/\∀ q ∈ tb,q.Radar=false
def S3 (tb:List TRegulateChannel) (s:TRegulate):Prop:=Vs s/\s.Table=tb
def C3 (tb:List TRegulateChannel) (n:Int):Prop:=∃ q ∈ tb,q.Number=n
theorem ht3 {tb:List TRegulateChannel} {s:TRegulate} (e:s.Table=tb) {n:Int}:Ht s n ↔ C3 tb n:=by
 unfold Ht C3
 rw [e]
theorem c255 {tb:List TRegulateChannel} (h:Vt tb) {n:Int} (c:C3 tb n):1 <= n/\n <= 255:=by
 obtain ⟨q,hq,rfl⟩:=c
 exact (h.2.1 q hq).1
theorem sub_len:∀ (A B:List Int),A.Pairwise (· < ·)->B.Pairwise (· < ·)->(∀ x ∈ A,x ∈ B)->A.length <= B.length
 | [],_,_,_,_=>Nat.zero_le _
 | a::A,[],_,_,h=>absurd (h a List.mem_cons_self) List.not_mem_nil
 | a::A,b::B,hA,hB,h=>by
  obtain ⟨a1,a2⟩:=List.pairwise_cons.1 hA
  obtain ⟨b1,b2⟩:=List.pairwise_cons.1 hB
  rcases List.mem_cons.1 (h a List.mem_cons_self) with rfl|ha
  ·have:=sub_len A B a2 b2 fun x hx=>by
    rcases List.mem_cons.1 (h x (List.mem_cons_of_mem _ hx)) with rfl|q
    ·have:=a1 x hx;omega
    ·exact q
   simp only [List.length_cons];omega
  ·have hab:=b1 a ha
   have:=sub_len (a::A) B hA b2 fun x hx=>by
    rcases List.mem_cons.1 (h x hx) with rfl|q
    ·rcases List.mem_cons.1 hx with rfl|q2
     ·omega
     ·have:=a1 x q2;omega
    ·exact q
   simp only [List.length_cons] at this ⊢;omega
theorem S3_clear {tb:List TRegulateChannel} (hn:NR tb) {s:TRegulate} (h:S3 tb s):s.Clear=[]:=by
 obtain ⟨⟨_,_,_,_,_,_,_,_,_,_,v⟩,e⟩:=h
 cases hc:s.Clear with
 | nil=>rfl
 | cons a l =>
  obtain ⟨q,q1,q2,q3⟩:=v a (by rw [hc];exact List.mem_cons_self)
  rw [e] at q1
  rw [hn.2 q q1] at q3
  cases q3
theorem S3_gr {tb:List TRegulateChannel} (hn:NR tb) {s:TRegulate} (h:S3 tb s):Gr0 s:=by
 have hc:=S3_clear hn h
 obtain ⟨⟨v0,_,_,_,_,_,_,v8,_,v10,_⟩,e⟩:=h
 have:=sub_len (s.Blocked.map (·.Channel)) (s.Table.map (·.Number)) (by rw [List.pairwise_map];exact v8) (by rw [List.pairwise_map];exact v0.2.2) fun x hx=>by
  obtain ⟨b,hb,rfl⟩:=List.mem_map.1 hx
  obtain ⟨q,hq,e⟩:=(v10 b hb).1
  exact List.mem_map.2 ⟨q,hq,e⟩
 rw [List.length_map,List.length_map] at this
 have v1:=v0.1.2
 exact ⟨by omega,by omega,by rw [hc];decide⟩
def ann (s:TRegulate) (w:TRegulateWord) (t:Int):TRegulate:=⟨s.Table,s.Channel,s.Lead,s.Heard,true,true,w.To,w.At,stB s t,stC s⟩
def her (s:TRegulate) (w:TRegulateWord):TRegulate:=⟨s.Table,s.Channel,s.Lead,w.At,s.Stopped,s.Moving,s.To,s.At,s.Blocked,s.Clear⟩
inductive Nx (sent:List TRegulateWord) (t:Int) (s:TRegulate):TRegulate->List TRegulateWord->Prop
 | radar (p:Int) (hp:0 <= p) (h:s.Stopped=false):Nx sent t s (rad s p t).2 (rad s p t).1
 | ann (w:TRegulateWord) (hw:w ∈ sent) (hk:w.Kind=1) (hc:w.Channel=s.Channel) (hl:s.Lead=false) (ha:t <= w.At):Nx sent t s (ann s w t) []
 | her (w:TRegulateWord) (hw:w ∈ sent) (hk:w.Kind=3) (hc:w.Channel=s.Channel) (hl:s.Lead=false) (hs:s.Stopped=false) (h1:s.Heard <= w.At) (h2:w.At <= t):Nx sent t s (her s w) []
 | tick:Nx sent t s (tik s t) (tiw s t)
def W3 (tb:List TRegulateChannel) (w:TRegulateWord):Prop:=Wd w/\(w.Kind=1->C3 tb w.To)
theorem han_is {tb:List TRegulateChannel} (hn:NR tb) (sent:List TRegulateWord) (s:TRegulate) (w:TRegulateWord) (p t:Int) (h:S3 tb s) (ht:Mo t) (hp:0 <= p) (hw:W3 tb w) (hm:w ∈ sent) :
  (∃ x,F13 s w p t=some (x,[],21)) ∨ ∃ nx out,F13 s w p t=some (nx,out,0)/\Nx sent t s nx out:=by
 have hg:=S3_gr hn h
 have hG:=Gr_of hg
 unfold F13
 rcases F22_ok s t p hG with ⟨q,_⟩|⟨_,q,_⟩|⟨_,h2,_,e⟩
 ·exact absurd h.1 q
 ·exact absurd ⟨ht,hp⟩ q
 ·have rt:=h.1.1.2.2
  have rb:Rb s.Blocked:=h.1.2.2.2.2.2.2.2.1
  obtain ⟨b,b1,b2⟩:=F29_ok w
  rw [b2.2 hw.1] at b1
  rw [e,b1]
  simp only [Option.bind_some,Option.isSome_some,Bool.cond_self,zD,zN,cond_true,vY]
  rw [yO (c:=!bEq (0:Int) 0) (by decide)]
  rw [yO (c:=!true) (by rfl)]
  by_cases h1:w.Kind=1
  ·have k1:bEq w.Kind 1=true:=by simp [yT,h1]
   simp only [k1,cond_true]
   unfold F64_0
   simp only [Option.isSome_some,Bool.cond_self,zD,zN]
   cases hc:(!bEq w.Channel s.Channel || !(!s.Lead && bLe t w.At)) with
   | true=>exact .inl ⟨_,rfl⟩
   | false =>
    simp [yT,vB] at hc
    obtain ⟨c1,c2,c3⟩:=hc
    simp only [cond_false]
    unfold F65_0
    obtain ⟨d,d1,d2⟩:=F18_ok s.Table w.To (by have:=hG.1;omega) rt
    rw [d2.2 ((ht3 h.2).2 (hw.2 h1))] at d1
    simp only [vY]
    rw [d1,Option.bind_some]
    simp only [Bool.not_true,cond_false]
    rw [F49_ok s t hG rb h2,Option.bind_some]
    exact .inr ⟨ann s w t,[],rfl,.ann w hm h1 c1 c2 c3⟩
  ·have k1:bEq w.Kind 1=false:=by simp [yT,h1]
   simp only [k1,cond_false]
   by_cases h3:w.Kind=2
   ·have k2:bEq w.Kind 2=true:=by simp [yT,h3]
    simp only [k2,cond_true]
    unfold F66_0
    simp only [Option.isSome_some,Bool.cond_self,zD,zN]
    cases hc:(!bEq w.Channel s.Channel || !(s.Lead && !s.Stopped)) with
    | true=>exact .inl ⟨_,rfl⟩
    | false =>
     simp [yT] at hc
     obtain ⟨c1,c2,c3⟩:=hc
     simp only [cond_false]
     unfold F67_0
     simp only [vY]
     rw [F23_ok s p t hg rt rb hp h2,Option.bind_some]
     exact .inr ⟨_,_,rfl,.radar p hp c3⟩
   ·have k2:bEq w.Kind 2=false:=by simp [yT,h3]
    have h4:w.Kind=3:=by
     rcases hw.1.2.2 with q|q|q
     ·exact absurd q.1 h1
     ·exact absurd q.1 h3
     ·exact q.1
    have k3:bEq w.Kind 3=true:=by simp [yT,h4]
    simp only [k2,k3,cond_false,cond_true]
    unfold F68_0
    simp only [Option.isSome_some,Bool.cond_self,zD,zN]
    cases hc:(!bEq w.Channel s.Channel || !(!s.Lead && !s.Stopped && bLe s.Heard w.At && bLe w.At t)) with
    | true=>exact .inl ⟨_,rfl⟩
    | false =>
     simp [yT,vB] at hc
     obtain ⟨c1,⟨⟨c2,c3⟩,c4⟩,c5⟩:=hc
     simp only [cond_false]
     unfold F69_0
     rw [Option.bind_some]
     exact .inr ⟨her s w,[],rfl,.her w hm h4 c1 c2 c3 c4 c5⟩
theorem Nx_keep {tb:List TRegulateChannel} {sent:List TRegulateWord} {t:Int} {s nx:TRegulate} {out:List TRegulateWord} (h:Nx sent t s nx out) (hs:S3 tb s) (ht:Mo t) (hw:∀ w ∈ sent,W3 tb w):S3 tb nx/\nx.Lead=s.Lead/\out.length <= 1/\∀ w ∈ out,W3 tb w:=by
 have hv:=hs.1
 have h3:∀ n,Ht s n ↔ C3 tb n:=fun n=>ht3 hs.2
 have c255:∀ n,C3 tb n->1 <= n/\n <= 255:=fun n h=>c255 (hs.2 ▸ hv.1) h
 have z0:Mo 0:=by unfold Mo;decide
 cases h with
 | radar p hp h =>
  obtain ⟨mv,to,at',e,v⟩:=rad_is s p t hv hp ht
  have hto:mv=true->C3 tb to:=fun q=>(ht3 (s:=⟨s.Table,s.Channel,s.Lead,s.Heard,true,mv,to,at',stB s t,stC s⟩) hs.2).1 (v.2.2.2.2.2.1 q).2
  refine ⟨by rw [e];exact ⟨v,hs.2⟩,by rw [e],?_⟩
  have hc:=(h3 _).1 hv.2.1
  unfold rad at e ⊢
  cases hl:s.Lead with
  | false =>
   rw [xS (c:=!false) rfl]
   refine ⟨Nat.le_refl _,fun w hw=>?_⟩
   rw [List.mem_singleton] at hw;subst hw
   exact ⟨⟨c255 _ hc,z0,.inr (.inl ⟨rfl,rfl,rfl⟩)⟩,fun q=>absurd (show (2:Int)=1 from q) (by decide)⟩
  | true =>
   rw [hl] at e
   rw [yO (c:=!true) rfl] at e ⊢
   by_cases hu:(usL s.Table s.Channel (stB s t) (stC s) t).length=0
   ·rw [xS (c:=bEq _ _) (by simp [yT,hu])]
    exact ⟨Nat.zero_le _,fun w hw=>absurd hw (List.not_mem_nil)⟩
   ·rw [yO (c:=bEq _ _) (by simp [yT];intro h;exact hu (by simp [h]))] at e ⊢
    simp only [TRegulate.mk.injEq] at e
    obtain ⟨_,_,_,_,_,e1,e2,e3,_⟩:=e
    refine ⟨Nat.le_refl _,fun w hw=>?_⟩
    rw [List.mem_singleton] at hw;subst hw
    have h4:=hto e1.symm
    refine ⟨⟨c255 _ hc,?_,.inl ⟨rfl,?_⟩⟩,fun _=>?_⟩
    ·show Mo (unt t 150000)
     unfold Mo at ht ⊢
     unfold unt jI
     split<;>omega
    ·show 1 <= gd _ _/\gd _ _ <= 255
     rw [e2];exact c255 _ h4
    ·show C3 tb (gd _ _)
     rw [e2];exact h4
 | ann w hw2 hk hc hl ha =>
  have h5:=hw w hw2
  refine ⟨⟨?_,hs.2⟩,rfl,Nat.zero_le _,fun w hw=>absurd hw (List.not_mem_nil)⟩
  obtain ⟨v1,v2,v3,v4,v5,v6,v7,v8,v9,v10,v11⟩:=Vs_stp s t hv ht
  exact ⟨v1,v2,v3,h5.1.2.1,v5,fun _=>⟨rfl,(h3 _).2 (h5.2 hk)⟩,fun q=>Bool.noConfusion (show true=false from q),v8,v9,v10,v11⟩
 | her w hw2 hk hc hl hs2 h1 h2 =>
  have h5:=hw w hw2
  refine ⟨⟨?_,hs.2⟩,rfl,Nat.zero_le _,fun w hw=>absurd hw (List.not_mem_nil)⟩
  obtain ⟨v1,v2,v3,v4,v5,v6,v7,v8,v9,v10,v11⟩:=hv
  exact ⟨v1,v2,h5.1.2.1,v4,fun q=>Bool.noConfusion (hl.symm.trans q),v6,v7,v8,v9,v10,v11⟩
 | tick =>
  refine ⟨⟨Vs_tik s t hv,(tik_tab s t).1.trans hs.2⟩,?_,?_,?_⟩
  ·unfold tik;cases (s.Moving && bLe s.At t)<;>rfl
  ·unfold tiw;cases (s.Moving && bLe s.At t)<;>cases (s.Moving && s.Lead)<;>simp
  ·unfold tiw
   cases (s.Moving && bLe s.At t) with
   | true=>exact fun w hw=>absurd hw (List.not_mem_nil)
   | false =>
    cases hm:(s.Moving && s.Lead) with
    | false=>exact fun w hw=>absurd hw (List.not_mem_nil)
    | true =>
     intro w hw
     have hw:w ∈ [(⟨1,s.Channel,s.To,s.At⟩:TRegulateWord)]:=hw
     rw [List.mem_singleton] at hw;subst hw
     have hmv:s.Moving=true:=by simp at hm;exact hm.1
     have h4:=(h3 _).1 (hv.2.2.2.2.2.1 hmv).2
     exact ⟨⟨c255 _ ((h3 _).1 hv.2.1),hv.2.2.2.1,.inl ⟨rfl,c255 _ h4⟩⟩,fun _=>h4⟩
end Go.Proofs.YtooepgpfaaddbaaGreat
