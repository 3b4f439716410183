/-
  Regulate over the air: the law.
-/
import Derived.Test.YtooepgpfaaddbaaGreatTI
namespace Go.Proofs.YtooepgpfaaddbaaGreat
open Go.Am
set_option linter.unusedVariables false
set_option linter.unusedSimpArgs false
def T2:List TRegulateChannel:=[⟨1,9,false⟩,⟨6,9,false⟩]
def w2:TRegulateWord:=⟨1,1,6,150010⟩
theorem c1:F6 T2 1 true 0=some (⟨T2,1,true,0,false,false,0,0,[],[]⟩,0):=by kernel_rfl
theorem c2:F6 T2 1 false 0=some (⟨T2,1,false,0,false,false,0,0,[],[]⟩,0):=by kernel_rfl
theorem c3:F9 ⟨T2,1,true,0,false,false,0,0,[],[]⟩ 0 10=some (⟨T2,1,true,0,true,true,6,150010,[⟨1,1800000010⟩],[]⟩,[w2],0):=by kernel_rfl
theorem c4:F13 ⟨T2,1,false,0,false,false,0,0,[],[]⟩ w2 0 20=some (⟨T2,1,false,0,true,true,6,150010,[⟨1,1800000020⟩],[]⟩,[],0):=by kernel_rfl
theorem c5:F10 ⟨T2,1,false,0,false,false,0,0,[],[]⟩ 9 20=some (true,0):=by kernel_rfl
theorem c6:F10 ⟨T2,1,false,0,true,true,6,150010,[⟨1,1800000020⟩],[]⟩ 9 20=some (false,0):=by kernel_rfl
theorem alive_ok:F4=some true:=by
 obtain ⟨y,h1,h2⟩:∃ y,F8 w2 (A6u8.mk 2 0 0 0 0 1)=some (y,true)/\F12 y=some (w2,true):=by
  have h:Wd w2:=by unfold Wd Mo w2;simp
  exact ⟨_,wrap_ok h rfl,unwrap_ok h rfl⟩
 unfold F4
 rw [Option.bind_some,show [(TRegulateChannel.mk 1 9 false),(TRegulateChannel.mk 6 9 false)]=T2 from rfl,c1,Option.bind_some,c2,Option.bind_some]
 simp only [vY]
 rw [c3,Option.bind_some,yO (c:=_ || _) (by rfl),zD (by rfl),F11_ok,Option.bind_some,show gd [w2] 0=w2 from rfl,h1,Option.bind_some,h2,Option.bind_some,c4,Option.bind_some,c5,Option.bind_some,c6]
 rfl
theorem F6_ok (p:List TRegulateChannel) (h0:p.length ≠ 0) (hl:p.length <= 16):(∀ b,F6 p (gd p 0).Number b 0=some (⟨[],0,false,0,false,false,0,0,[],[]⟩,8)) ∨ (Vt p/\∀ b,F6 p (gd p 0).Number b 0=some (⟨p,(gd p 0).Number,b,0,false,false,0,0,[],[]⟩,0)):=by
 unfold F6 F15
 have hc:capb 24 p.length=true:=uT.2 (by omega)
 simp only [hc,zD,Option.bind_some]
 obtain ⟨v,e,ev⟩:=F16_ok p (by omega)
 rw [e]
 cases v with
 | false=>exact .inl fun b=>rfl
 | true =>
  have hv:=ev.1 rfl
  obtain ⟨d,e,ed⟩:=F18_ok p (gd p 0).Number (by omega) hv.2.2
  rw [ed.2 ⟨_,vZ (by omega),rfl⟩] at e
  refine .inr ⟨hv,fun b=>?_⟩
  rw [Option.bind_some,yO (c:=!true) rfl,show F17 0=some false from rfl,Option.bind_some,yO (c:=false) rfl,e,Option.bind_some,yO (c:=!true) rfl]
  cases b<;>rfl
theorem F5_ok (l:List TMove):∃ b,F5 l 120=some b/\(b=true->l.length <= 120/\∀ j,j < l.length->(0 <= (gd l j).Wait/\(gd l j).Wait <= 1000000)/\0 <= (gd l j).N):=by
 obtain ⟨b,e,hb⟩:=kG (step:=fun s=>F5_L1 l 120 s) (fun s=>∃ j:Nat,s=j/\j <= l.length/\∀ k,k < j->(0 <= (gd l k).Wait/\(gd l k).Wait <= 1000000)/\0 <= (gd l k).N)
  (fun b=>b = .inr false ∨ (b = .inl ()/\(l.length <= 120->∀ j,j < l.length->(0 <= (gd l j).Wait/\(gd l j).Wait <= 1000000)/\0 <= (gd l j).N))) (fun s=>(l.length - s).toNat) (by
   rintro _ ⟨j,rfl,hj,h⟩
   show (∃ b,F5_L1 l 120 (j:Int)=some (.done b)/\_) ∨ ∃ s',F5_L1 l 120 (j:Int)=some (.next s')/\_
   unfold F5_L1
   by_cases hc:j < l.length/\l.length <= 120
   ·have hi:=xG hc.1
    rw [xS (c:=bLt _ _ && bLe _ _) (by simp [yW,vB];omega)]
    simp only [hi,Bool.cond_self,zD,Int.toNat_natCast]
    cases hb:((bLt (gd l j).Wait 0 || bLt 1000000 (gd l j).Wait) || bLt (gd l j).N 0) with
    | true=>exact .inl ⟨_,rfl,.inl rfl⟩
    | false =>
     simp [yW] at hb
     rw [cond_false,vA hc.1 (by omega)]
     refine .inr ⟨_,rfl,⟨j+1,rfl,hc.1,fun k hk=>?_⟩,?_⟩
     ·by_cases hkj:k < j
      ·exact h k hkj
      ·obtain rfl:k=j:=by omega
       exact ⟨hb.1,hb.2⟩
     ·show ((l.length:Int) - ((j+1:Nat):Int)).toNat < ((l.length:Int) - (j:Int)).toNat
      omega
   ·rw [yO (c:=bLt _ _ && bLe _ _) (by
     cases hb:(bLt (j:Int) (l.length:Nat) && bLe (l.length:Nat) 120) with
     | false=>rfl
     | true=>simp [yW,vB] at hb;exact absurd ⟨by omega,by omega⟩ hc)]
    exact .inl ⟨_,rfl,.inr ⟨rfl,fun hl k hk=>h k (by omega)⟩⟩) 0 ⟨0,rfl,Nat.zero_le _,fun k hk=>absurd hk (Nat.not_lt_zero _)⟩
 unfold F5
 rcases hb with rfl|⟨rfl,hb⟩
 ·rw [lp_inr e]
  exact ⟨_,rfl,fun h=>Bool.noConfusion h⟩
 ·rw [wE e]
  refine ⟨_,rfl,fun h=>?_⟩
  simp [vB] at h
  exact ⟨by omega,hb (by omega)⟩
theorem L1_ok (p:List TRegulateChannel) (hl:p.length <= 16):yF (fun s=>F3_L1 p s) 0=some (.inr true) ∨ (yF (fun s=>F3_L1 p s) 0=some (.inl ())/\∀ q ∈ p,q.Radar=false):=by
 obtain ⟨b,e,hb⟩:=kG (step:=fun s=>F3_L1 p s) (fun s=>∃ j:Nat,s=j/\j <= p.length/\∀ k,k < j->(gd p k).Radar=false)
  (fun b=>b = .inr true ∨ (b = .inl ()/\∀ q ∈ p,q.Radar=false)) (fun s=>(p.length - s).toNat) (by
   rintro _ ⟨j,rfl,hj,h⟩
   show (∃ b,F3_L1 p (j:Int)=some (.done b)/\_) ∨ ∃ s',F3_L1 p (j:Int)=some (.next s')/\_
   unfold F3_L1
   by_cases hc:j < p.length
   ·rw [xS (c:=bLt _ _) (by simp [yW];omega),zD (xG hc),Int.toNat_natCast]
    cases hb:(gd p j).Radar with
    | true=>exact .inl ⟨_,rfl,.inl rfl⟩
    | false =>
     rw [cond_false,vA hc (by omega)]
     refine .inr ⟨_,rfl,⟨j+1,rfl,hc,fun k hk=>?_⟩,?_⟩
     ·by_cases hkj:k < j
      ·exact h k hkj
      ·obtain rfl:k=j:=by omega
       exact hb
     ·show ((p.length:Int) - ((j+1:Nat):Int)).toNat < ((p.length:Int) - (j:Int)).toNat
      omega
   ·rw [yO (c:=bLt _ _) (by simp [yW];omega)]
    exact .inl ⟨_,rfl,.inr ⟨rfl,fun q hq=>by
     obtain ⟨k,hk,rfl⟩:=mem_gd hq
     exact h k (Nat.lt_of_lt_of_le hk (Nat.le_of_not_lt hc))⟩⟩) 0 ⟨0,rfl,Nat.zero_le _,fun k hk=>absurd hk (Nat.not_lt_zero _)⟩
 rcases hb with rfl|⟨rfl,hb⟩
 ·exact .inl e
 ·exact .inr ⟨e,hb⟩
def N4 (p:List TRegulateChannel) (b:Bool):TRegulate:=⟨p,(gd p 0).Number,b,0,false,false,0,0,[],[]⟩
theorem In_0 (p:List TRegulateChannel) (h0:p.length ≠ 0) (hv:Vt p):In p 0 [N4 p true,N4 p false,N4 p false,N4 p false] [] [] [] 0:=by
 have z0:Mo 0:=by unfold Mo;decide
 have hS:∀ b,S3 p (N4 p b):=fun b=>⟨⟨hv,⟨gd p 0,(have:gd p 0 ∈ p:=vZ (by omega);this),rfl⟩,z0,z0,fun _=>rfl,fun h=>Bool.noConfusion (show false=true from h),fun _=>⟨rfl,rfl⟩,List.Pairwise.nil,List.Pairwise.nil,fun b hb=>absurd hb (List.not_mem_nil),fun n hn=>absurd hn (List.not_mem_nil)⟩,rfl⟩
 have q:∀ i,i < 4->gd [N4 p true,N4 p false,N4 p false,N4 p false] i=N4 p (decide (i=0)):=fun i hi=>match i,hi with
  | 0,_=>rfl
  | 1,_=>rfl
  | 2,_=>rfl
  | 3,_=>rfl
  | i+4,h=>absurd h (by omega)
 refine ⟨⟨by show 0 < 4;decide,fun i hi=>?_,fun w hw=>absurd hw (List.not_mem_nil)⟩,⟨fun i hi hm=>?_,fun _ w hw=>absurd hw (List.not_mem_nil),fun _ w hw=>absurd hw (List.not_mem_nil),fun w hw=>absurd hw (List.not_mem_nil)⟩,⟨fun n T e=>absurd (show (none:Option Int)=some T from e) (by simp),fun w hw=>absurd hw (List.not_mem_nil),fun w hw=>absurd hw (List.not_mem_nil),fun i hi _=>?_⟩,fun n T e=>absurd (show (none:Option Int)=some T from e) (by simp),⟨rfl,fun j hj=>absurd hj (Nat.not_lt_zero _)⟩,rfl,Nat.le_refl _,Nat.le_refl _⟩
 ·rw [q i hi]
  exact ⟨hS _,decide_eq_true_iff⟩
 ·rw [q i hi] at hm
  exact Bool.noConfusion (show false=true from hm)
 ·rw [q i hi]
  exact Int.le_refl _
theorem law3 (p:List TRegulateChannel) (l:List TMove):F3 p l=some true:=by
 unfold F3
 obtain ⟨b,e5,g5⟩:=F5_ok l
 rw [alive_ok,Option.bind_some,yO (c:=!true) rfl,e5,zD (by cases (!bLt 16 (p.length:Nat))<;>rfl)]
 cases hb:(bLt 16 (p.length:Nat) || !gt (some b)) with
 | true=>rfl
 | false =>
  simp [yW,zN] at hb
  obtain ⟨b1,rfl⟩:=hb
  have b1:p.length <= 16:=by omega
  obtain ⟨g1,g2⟩:=g5 rfl
  rw [cond_false]
  by_cases h0:p.length=0
  ·rw [xS (c:=bEq _ _) (by simp [yT];exact List.length_eq_zero_iff.1 h0)]
  ·have hi:inb 0 p.length=true:=xG (i:=0) (by omega)
   rw [yO (c:=bEq _ _) (by simp [yT];exact fun h=>h0 (by rw [h];rfl)),zD hi]
   rcases F6_ok p h0 b1 with e|⟨hv,e⟩
   ·rw [e];rfl
   have e:∀ b,F6 p (gd p 0).Number b 0=some (N4 p b,0):=e
   rw [e,Option.bind_some,yO (c:=!bEq _ _) (by rfl),zD (by rfl),zD hi,e,Option.bind_some,yO (c:=!bEq _ _) (by rfl),zD (by rfl),zD hi,Option.bind_some,yO (c:=!bEq _ _) (by rfl),zD (by rfl),zD hi,Option.bind_some,yO (c:=!bEq _ _) (by rfl),zD (by rfl)]
   rcases L1_ok p b1 with h|⟨h,hr⟩
   ·rw [lp_inr h]
   ·rw [wE h]
    have:=L2_ok (tb:=p) ⟨hv,hr⟩ l g1 g2 [N4 p true,N4 p false,N4 p false,N4 p false] (In_0 p h0 hv)
    exact wE this
end Go.Proofs.YtooepgpfaaddbaaGreat
