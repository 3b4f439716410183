/-
  RootSettled: what holds in the end; the cheapest ways.
-/
import Derived.Test.YtdcepineppafpaaSG
namespace Go.Proofs.Ytdcepineppafpaa
open Go.Am
set_option linter.unusedVariables false
set_option linter.unusedSimpArgs false
section
variable {w:List Int} {L:List TRoots} {s0:Int}
theorem tree_V (I:Inv (lkw w) L [] s0) {i:Nat} (h1:1 <= i) (h2:i < 8) {t:TTree} (h:(gd L i).Trees=[t]):(1 <= t.Seq/\1 <= t.Hops/\1 <= t.Cost)/\t.Root=nd 0:=by
 obtain ⟨n1,n2,n3,n4⟩:=I.nod i h1 h2
 have hv:=((Vr_iff _).1 n2).2.1 t (by rw [h];simp)
 unfold Vt at hv
 rcases n4 with h0|⟨u,h0,h3⟩
 ·rw [h] at h0;cases h0
 ·rw [h] at h0;cases h0
  exact ⟨by omega,h3⟩
theorem fin_par (I:Inv (lkw w) L [] s0) {i:Nat} (h1:1 <= i) (h2:i < 8) {t:TTree} (h:(gd L i).Trees=[t]):∃ p,p < 8/\p ≠ i/\t.Parent=nd p/\0 < lkw w p i/\ky L p=some (t.Seq,t.Cost - lkw w p i,t.Hops - 1):=by
 obtain ⟨g1,p,g2,g3,g4,g5,y,g6,g7⟩:=I.tre i t h1 h2 h
 refine ⟨p,g2,g3,g4,g5,?_⟩
 obtain ⟨⟨v1,v2,v3⟩,_⟩:=tree_V I h1 h2 h
 obtain ⟨a,b,c⟩:=y
 have hs:1 <= a:=by simp only [ex] at g7;omega
 rcases I.cov p i (a,b,c) g2 h2 h1 g3 g5 g6 hs with ⟨x,hx,_⟩|⟨z,z1,z2⟩
 ·cases hx
 ·rw [ky_one h1 h] at z1
  cases z1
  simp only [ex] at g7
  simp only [le] at z2
  rw [g6]
  have e1:a=t.Seq:=by omega
  have e2:b=t.Cost - lkw w p i:=by omega
  have e3:c=t.Hops - 1:=by omega
  rw [e1,e2,e3]
theorem known (I:Inv (lkw w) L [] s0) {i:Nat} (h1:1 <= i) (h2:i < 8) {y:Int × Int × Int} (h:ky L i=some y):∃ t,(gd L i).Trees=[t]/\t.Root=nd 0/\y=(t.Seq,t.Cost,t.Hops):=ky_some h1 (I.nod i h1 h2) h
theorem fN (I:Inv (lkw w) L [] s0):ky L 0=some (s0,0,0):=by rw [ky_0,I.root];rfl
theorem fin_seq (I:Inv (lkw w) L [] s0):∀ (n i:Nat) (t:TTree),t.Cost.toNat < n->1 <= i->i < 8->(gd L i).Trees=[t]->t.Seq=s0/\∃ k,k < 8/\k ≠ 0/\0 < lkw w 0 k
 | 0,_,_,h,_,_,_=>absurd h (Nat.not_lt_zero _)
 | n+1,i,t,h,h1,h2,hT=>by
  obtain ⟨p,g1,g2,g3,g4,g5⟩:=fin_par I h1 h2 hT
  obtain ⟨⟨v1,v2,v3⟩,_⟩:=tree_V I h1 h2 hT
  by_cases hp:p=0
  ·subst hp
   rw [fN I] at g5
   injection g5 with g5
   exact ⟨(Prod.mk.inj g5).1.symm,i,h2,by omega,g4⟩
  ·obtain ⟨u,u1,u2,u3⟩:=known I (by omega) g1 g5
   have e1:=(Prod.mk.inj u3).1
   have e2:=(Prod.mk.inj (Prod.mk.inj u3).2).1
   obtain ⟨q1,q2⟩:=fin_seq I n p u (by omega) (by omega) g1 u1
   exact ⟨by omega,q2⟩
theorem fin_seq' (I:Inv (lkw w) L [] s0) {i:Nat} (h2:i < 8) {y:Int × Int × Int} (h:ky L i=some y):y.1=s0/\0 <= y.2.1/\0 <= y.2.2/\(y.2.2 <= 0->i=0):=by
 by_cases h1:i=0
 ·subst h1
  rw [fN I] at h
  cases h
  exact ⟨rfl,Int.le_refl _,Int.le_refl _,fun _=>rfl⟩
 ·obtain ⟨t,t1,t2,rfl⟩:=known I (by omega) h2 h
  obtain ⟨⟨v1,v2,v3⟩,_⟩:=tree_V I (by omega) h2 t1
  exact ⟨(fin_seq I _ i t (Nat.lt_succ_self _) (by omega) h2 t1).1,by simp only;omega,by simp only;omega,fun q=>by simp only at q;omega⟩
theorem fin_way (I:Inv (lkw w) L [] s0):∀ (n i:Nat) (y:Int × Int × Int),i < 8->ky L i=some y->y.2.2=n->∃ Q:List Nat,Q.Nodup/\Q.length=n+1/\∀ q ∈ Q,q < 8/\∃ z,ky L q=some z/\z.2.1 <= y.2.1
 | 0,i,y,h2,h,hn=>⟨[i],by simp,rfl,fun q hq=>by rw [List.mem_singleton.1 hq];exact ⟨h2,y,h,Int.le_refl _⟩⟩
 | n+1,i,y,h2,h,hn=>by
  have h0:i ≠ 0:=by
   rintro rfl
   rw [fN I] at h
   cases h
   simp only at hn;omega
  obtain ⟨t,t1,t2,rfl⟩:=known I (by omega) h2 h
  obtain ⟨p,g1,g2,g3,g4,g5⟩:=fin_par I (by omega) h2 t1
  obtain ⟨Q,q1,q2,q3⟩:=fin_way I n p _ g1 g5 (by simp only at hn ⊢;omega)
  refine ⟨i::Q,List.nodup_cons.2 ⟨fun hi=>?_,q1⟩,by rw [List.length_cons,q2],fun q hq=>?_⟩
  ·obtain ⟨_,z,z1,z2⟩:=q3 i hi
   rw [h] at z1
   cases z1
   simp only at z2;omega
  ·rcases List.mem_cons.1 hq with rfl|hq
   ·exact ⟨h2,_,h,Int.le_refl _⟩
   ·obtain ⟨r1,z,z1,z2⟩:=q3 q hq
    exact ⟨r1,z,z1,by simp only at z2 ⊢;omega⟩
theorem fin_hops (I:Inv (lkw w) L [] s0) {i:Nat} (h2:i < 8) {y:Int × Int × Int} (h:ky L i=some y):y.2.2 <= 7:=by
 have h0:=(fin_seq' I h2 h).2.2.1
 obtain ⟨Q,q1,q2,q3⟩:=fin_way I y.2.2.toNat i y h2 h (by omega)
 have:=dG q1 fun q hq=>(q3 q hq).1
 omega
structure Bf (w:List Int) (L:List TRoots) (r i k:Nat) (cs:List Int):Prop where
 len:cs.length=8
 zero:gd cs 0=0
 rng:∀ j,j < 8 -> -1 <= gd cs j/\gd cs j <= 1000000 * ((r * 64+i * 8+k:Nat):Int)
 low:∀ j,j < 8->0 <= gd cs j->∃ y,ky L j=some y/\y.2.1 <= gd cs j
 upr:∀ j y,j < 8->ky L j=some y->y.2.2 <= r->0 <= gd cs j/\gd cs j <= y.2.1
 upn:∀ (j p:Nat) (y:Int × Int × Int),j < 8->p < 8->ky L j=some y->ky L p=some (y.1,y.2.1 - lkw w p j,y.2.2 - 1)->0 < lkw w p j->y.2.2 <= (r:Int)+1->(p < i ∨ (p=i/\j < k))->0 <= gd cs j/\gd cs j <= y.2.1
theorem bf_in (l:Lk (lkw w)) (I:Inv (lkw w) L [] s0) (h0:1 <= s0) {r i k:Nat} (hr:r < 8) (hi:i < 8) (hk:k < 8) {cs:List Int} (B:Bf w L r i k cs) :
  Bf w L r i (k+1) (if 0 <= gd cs i/\0 < lkw w i k/\(gd cs k < 0 ∨ gd cs i+lkw w i k < gd cs k) then cs.set k (gd cs i+lkw w i k) else cs):=by
 have lr:=l.rng i k
 have ri:=B.rng i hi
 by_cases c:0 <= gd cs i/\0 < lkw w i k/\(gd cs k < 0 ∨ gd cs i+lkw w i k < gd cs k)
 ·rw [if_pos c]
  have hk0:k ≠ 0:=by
   rintro rfl
   rw [B.zero] at c;omega
  have hik:i ≠ k:=by rintro rfl;omega
  have gk:gd (cs.set k (gd cs i+lkw w i k)) k=gd cs i+lkw w i k:=uS (by rw [B.len];exact hk)
  have gn:∀ j,j ≠ k->gd (cs.set k (gd cs i+lkw w i k)) j=gd cs j:=fun j hj=>vB (Ne.symm hj)
  have dn:∀ (j:Nat) (x:Int),0 <= gd cs j/\gd cs j <= x->0 <= gd (cs.set k (gd cs i+lkw w i k)) j/\gd (cs.set k (gd cs i+lkw w i k)) j <= x:=fun j x hx=>by
   by_cases e:j=k
   ·subst e;rw [gk];omega
   ·rw [gn j e];exact hx
  refine ⟨by rw [List.length_set];exact B.len,by rw [gn 0 (Ne.symm hk0)];exact B.zero,fun j hj=>?_,fun j hj hj0=>?_,fun j y h1 h2 h3=>dn j _ (B.upr j y h1 h2 h3),fun j p y h1 h2 h3 h4 h5 h6 h7=>?_⟩
  ·by_cases e:j=k
   ·subst e;rw [gk];omega
   ·have:=B.rng j hj
    rw [gn j e];omega
  ·by_cases e:j=k
   ·subst e
    rw [gk]
    obtain ⟨y,y1,y2⟩:=B.low i hi c.1
    have ys:=(fin_seq' I hi y1).1
    rcases I.cov i j y hi hk (by omega) hik c.2.1 y1 (by omega) with ⟨x,hx,_⟩|⟨z,z1,z2⟩
    ·cases hx
    ·have zs:=(fin_seq' I hk z1).1
     simp only [le] at z2
     exact ⟨z,z1,by omega⟩
   ·rw [gn j e] at hj0 ⊢
    exact B.low j hj hj0
  ·by_cases e:p=i/\j=k
   ·obtain ⟨rfl,rfl⟩:=e
    rw [gk]
    have:=B.upr p _ h2 h4 (by simp only;omega)
    simp only at this
    omega
   ·exact dn j _ (B.upn j p y h1 h2 h3 h4 h5 h6 (by omega))
 ·rw [if_neg c]
  refine ⟨B.len,B.zero,fun j hj=>by have:=B.rng j hj;omega,B.low,B.upr,fun j p y h1 h2 h3 h4 h5 h6 h7=>?_⟩
  by_cases e:p=i/\j=k
  ·obtain ⟨rfl,rfl⟩:=e
   have h:=B.upr p _ h2 h4 (by simp only;omega)
   simp only at h
   omega
  ·exact B.upn j p y h1 h2 h3 h4 h5 h6 (by omega)
theorem cheap_in (hw:w.length=64) (l:Lk (lkw w)) (I:Inv (lkw w) L [] s0) (h0:1 <= s0) {r i:Nat} (hr:r < 8) (hi:i < 8) {cs:List Int} (B:Bf w L r i 0 cs):∃ cs',yP (fun s:List Int × Int=>F41_L4 w (i:Int) s.1 s.2) (cs,0)=some (.inl cs')/\Bf w L r i 8 cs':=by
 obtain ⟨b,h1,h2⟩:=uP (step:=fun s:List Int × Int=>F41_L4 w (i:Int) s.1 s.2) (fun s=>∃ k:Nat,s.2=k/\k <= 8/\Bf w L r i k s.1) (fun b=>∃ cs',b = .inl cs'/\Bf w L r i 8 cs') (fun s=>8 - s.2.toNat) (fun s hI=>by
  obtain ⟨u,x⟩:=s
  obtain ⟨k,rfl,g1,g2⟩:=hI
  simp only at g2 ⊢
  by_cases hk8:k=8
  ·subst hk8
   refine .inl ⟨.inl u,?_,u,rfl,g2⟩
   unfold F41_L4
   rw [yR (by simp [yH])]
  ·have hk:k < 8:=by omega
   have st:=bf_in l I h0 hr hi hk g2
   have i1:inb (i:Int) 8=true:=yK hi
   have i2:inb (k:Int) 8=true:=yK hk
   have i3:inb (i:Int) u.length=true:=yK (by rw [g2.len];exact hi)
   have i4:inb (k:Int) u.length=true:=yK (by rw [g2.len];exact hk)
   have d1:decide (i * 8+k < w.length)=true:=decide_eq_true (by omega)
   have lr:=l.rng i k
   have ri:=g2.rng i hi
   have ws:wr .i64 (gd u i+gd w (i * 8+k))=gd u i+lkw w i k:=by rw [← lkw_at hi hk,kB (by omega)]
   refine .inr ⟨(if 0 <= gd u i/\0 < lkw w i k/\(gd u k < 0 ∨ gd u i+lkw w i k < gd u k) then u.set k (gd u i+lkw w i k) else u,((k+1:Nat):Int)),?_,⟨k+1,rfl,by omega,st⟩,by simp only [Int.toNat_natCast];omega⟩
   unfold F41_L4
   simp only [Int.toNat_natCast]
   rw [xI (by simp only [yH,decide_eq_true_eq];omega)]
   simp only [i1,i2,i3,i4,d1,Bool.cond_self,zJ,ws]
   simp only [← lkw_at hi hk]
   by_cases c:0 <= gd u i/\0 < lkw w i k/\(gd u k < 0 ∨ gd u i+lkw w i k < gd u k)
   ·rw [xI (by simp only [yH,wW,Bool.and_eq_true,Bool.or_eq_true,decide_eq_true_eq];omega),if_pos c,wM (n:=8) hk (by omega)]
   ·rw [yR (by simp only [yH,wW,Bool.and_eq_false_iff,Bool.or_eq_false_iff,decide_eq_false_iff_not];omega),if_neg c,wM (n:=8) hk (by omega)]) (cs,0) ⟨0,rfl,by omega,B⟩
 obtain ⟨cs',rfl,h3⟩:=h2
 exact ⟨cs',h1,h3⟩
theorem cheap_mid (hw:w.length=64) (l:Lk (lkw w)) (I:Inv (lkw w) L [] s0) (h0:1 <= s0) {r:Nat} (hr:r < 8) {cs:List Int} (B:Bf w L r 0 0 cs):∃ cs',yP (fun s:List Int × Int=>F41_L3 w s.1 s.2) (cs,0)=some (.inl cs')/\Bf w L r 8 0 cs':=by
 obtain ⟨b,h1,h2⟩:=uP (step:=fun s:List Int × Int=>F41_L3 w s.1 s.2) (fun s=>∃ i:Nat,s.2=i/\i <= 8/\Bf w L r i 0 s.1) (fun b=>∃ cs',b = .inl cs'/\Bf w L r 8 0 cs') (fun s=>8 - s.2.toNat) (fun s hI=>by
  obtain ⟨u,x⟩:=s
  obtain ⟨i,rfl,g1,g2⟩:=hI
  simp only at g2 ⊢
  by_cases hi8:i=8
  ·subst hi8
   refine .inl ⟨.inl u,?_,u,rfl,g2⟩
   unfold F41_L3
   rw [yR (by simp [yH])]
  ·have hi:i < 8:=by omega
   obtain ⟨cs',c1,c2⟩:=cheap_in hw l I h0 hr hi g2
   refine .inr ⟨(cs',((i+1:Nat):Int)),?_,⟨i+1,rfl,by omega,⟨c2.len,c2.zero,fun j hj=>by have:=c2.rng j hj;simp only;omega,c2.low,c2.upr,fun j p y h1 h2 h3 h4 h5 h6 h7=>c2.upn j p y h1 h2 h3 h4 h5 h6 (by omega)⟩⟩,by simp only [Int.toNat_natCast];omega⟩
   unfold F41_L3
   rw [xI (by simp only [yH,decide_eq_true_eq];omega),wX c1,wM (n:=8) hi (by omega)]) (cs,0) ⟨0,rfl,by omega,B⟩
 obtain ⟨cs',rfl,h3⟩:=h2
 exact ⟨cs',h1,h3⟩
theorem cheap_out (hw:w.length=64) (l:Lk (lkw w)) (I:Inv (lkw w) L [] s0) (h0:1 <= s0) {cs:List Int} (B:Bf w L 0 0 0 cs):∃ cs',yP (fun s:List Int × Int=>F41_L2 w s.1 s.2) (cs,0)=some (.inl cs')/\Bf w L 8 0 0 cs':=by
 obtain ⟨b,h1,h2⟩:=uP (step:=fun s:List Int × Int=>F41_L2 w s.1 s.2) (fun s=>∃ r:Nat,s.2=r/\r <= 8/\Bf w L r 0 0 s.1) (fun b=>∃ cs',b = .inl cs'/\Bf w L 8 0 0 cs') (fun s=>8 - s.2.toNat) (fun s hI=>by
  obtain ⟨u,x⟩:=s
  obtain ⟨r,rfl,g1,g2⟩:=hI
  simp only at g2 ⊢
  by_cases hr8:r=8
  ·subst hr8
   refine .inl ⟨.inl u,?_,u,rfl,g2⟩
   unfold F41_L2
   rw [yR (by simp [yH])]
  ·have hr:r < 8:=by omega
   obtain ⟨cs',c1,c2⟩:=cheap_mid hw l I h0 hr g2
   refine .inr ⟨(cs',((r+1:Nat):Int)),?_,⟨r+1,rfl,by omega,⟨c2.len,c2.zero,fun j hj=>by have:=c2.rng j hj;simp only;omega,c2.low,fun j y h1 h2 h3=>?_,fun j p y h1 h2 h3 h4 h5 h6 h7=>absurd h7 (by omega)⟩⟩,by simp only [Int.toNat_natCast];omega⟩
   ·unfold F41_L2
    rw [xI (by simp only [yH,decide_eq_true_eq];omega),wX c1,wM (n:=8) hr (by omega)]
   ·by_cases hj:j=0
    ·subst hj
     rw [fN I] at h2
     cases h2
     rw [c2.zero];simp
    ·obtain ⟨t,t1,t2,rfl⟩:=known I (by omega) h1 h2
     obtain ⟨p,g1,g2,g3,g4,g5⟩:=fin_par I (by omega) h1 t1
     exact c2.upn j p _ h1 g1 h2 g5 g4 (by simp only at h3 ⊢;omega) (.inl g1)) (cs,0) ⟨0,rfl,by omega,B⟩
 obtain ⟨cs',rfl,h3⟩:=h2
 exact ⟨cs',h1,h3⟩
abbrev a8i (cs:List Int):A8i64:=A8i64.mk (gd cs 0) (gd cs 1) (gd cs 2) (gd cs 3) (gd cs 4) (gd cs 5) (gd cs 6) (gd cs 7)
theorem cheap_init:∃ cs,yP (fun s:List Int × Int=>F41_L1 s.1 s.2) ((List.replicate 8 0:List Int),1)=some (.inl cs)/\cs.length=8/\gd cs 0=0/\∀ j,1 <= j->j < 8->gd cs j = -1:=by
 obtain ⟨b,h1,h2⟩:=uP (step:=fun s:List Int × Int=>F41_L1 s.1 s.2) (fun s=>∃ i:Nat,s.2=i/\1 <= i/\i <= 8/\s.1.length=8/\gd s.1 0=0/\∀ j,1 <= j->j < i->gd s.1 j = -1) (fun b=>∃ cs,b = .inl cs/\cs.length=8/\gd cs 0=0/\∀ j,1 <= j->j < 8->gd cs j = -1) (fun s=>8 - s.2.toNat) (fun s hI=>by
  obtain ⟨u,x⟩:=s
  obtain ⟨i,rfl,g0,g1,g2,g3,g4⟩:=hI
  simp only at g2 g3 g4 ⊢
  by_cases hi8:i=8
  ·subst hi8
   refine .inl ⟨.inl u,?_,u,rfl,g2,g3,g4⟩
   unfold F41_L1
   rw [yR (by simp [yH])]
  ·have hi:i < 8:=by omega
   refine .inr ⟨(u.set i (-1),((i+1:Nat):Int)),?_,⟨i+1,rfl,by omega,by omega,by simp [g2],by rw [vB (by omega)];exact g3,fun j h1 h2=>?_⟩,by simp only [Int.toNat_natCast];omega⟩
   ·unfold F41_L1
    simp only [Int.toNat_natCast]
    rw [xI (by simp only [yH,decide_eq_true_eq];omega),zJ (yK hi),zJ (yK (by omega)),wM (n:=8) hi (by omega)]
   ·by_cases e:j=i
    ·subst e;exact uS (by omega)
    ·rw [vB (Ne.symm e)];exact g4 j h1 (by omega)) (List.replicate 8 0,1) ⟨1,rfl,by omega,by omega,rfl,rfl,fun j h1 h2=>absurd h2 (by omega)⟩
 obtain ⟨cs,rfl,h3⟩:=h2
 exact ⟨cs,h1,h3⟩
theorem cheapest_ok (hw:w.length=64) (l:Lk (lkw w)) (I:Inv (lkw w) L [] s0) (h0:1 <= s0):∃ cs,F41 (mat w)=some (a8i cs)/\cs.length=8/\∀ i,i < 8->(ky L i=none->gd cs i < 0)/\∀ y,ky L i=some y->gd cs i=y.2.1/\0 <= y.2.1:=by
 obtain ⟨c0,a1,a2,a3,a4⟩:=cheap_init
 have B0:Bf w L 0 0 0 c0:=by
  refine ⟨a2,a3,fun j hj=>?_,fun j hj h=>?_,fun j y h1 h2 h3=>?_,fun j p y h1 h2 h3 h4 h5 h6 h7=>absurd h7 (by omega)⟩
  ·by_cases e:j=0
   ·subst e;rw [a3];omega
   ·rw [a4 j (by omega) hj];omega
  ·by_cases e:j=0
   ·subst e;exact ⟨_,fN I,by rw [a3];exact Int.le_refl _⟩
   ·rw [a4 j (by omega) hj] at h;omega
  ·obtain rfl:=(fin_seq' I h1 h2).2.2.2 (by omega)
   rw [fN I] at h2
   cases h2
   rw [a3];simp
 obtain ⟨cs,b1,b2⟩:=cheap_out hw l I h0 B0
 refine ⟨cs,?_,b2.len,fun i hi=>⟨fun h=>?_,fun y h=>?_⟩⟩
 ·unfold F41
  show (some (mcells (mat w))).bind _=_
  rw [gY hw,Option.bind_some,Option.bind_some,wX a1,wX b1,zJ (decide_eq_true b2.len)]
 ·refine Int.not_le.1 fun hh=>?_
  obtain ⟨y,y1,_⟩:=b2.low i hi hh
  rw [h] at y1;cases y1
 ·have h1:=b2.upr i y hi h (by have:=fin_hops I hi h;omega)
  obtain ⟨z,z1,z2⟩:=b2.low i hi h1.1
  rw [h] at z1
  cases z1
  exact ⟨by omega,by omega⟩
end
end Go.Proofs.Ytdcepineppafpaa
