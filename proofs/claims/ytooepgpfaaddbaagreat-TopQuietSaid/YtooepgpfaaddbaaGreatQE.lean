/-
  Regulate: a radar event, a tick; the law of blocked channels.
-/
import Derived.Test.YtooepgpfaaddbaaGreatQN
namespace Go.Proofs.YtooepgpfaaddbaaGreat
open Go.Am
set_option linter.unusedVariables false
set_option linter.unusedSimpArgs false
theorem F23_ok (s:TRegulate) (p t:Int) (hg:Gr0 s) (rt:Rc s.Table) (rb:Rb s.Blocked) (hp:0 <= p) (ht:Mo t):F23_0 s p t=some (rad s p t):=by
 obtain ⟨g1,g2,g3⟩:=hg
 unfold F23_0 rad
 simp only [vY]
 rw [F49_ok s t (Gr_of ⟨g1,g2,g3⟩) rb ht,Option.bind_some]
 cases hL:s.Lead with
 | false =>
  rw [xS (c:=!(stp s t).Lead) (by show (!s.Lead)=true;rw [hL];rfl)]
  rfl
 | true =>
  rw [yO (c:=!(stp s t).Lead) (by show (!s.Lead)=false;rw [hL];rfl)]
  have hlc:(stC s).length <= 40:=Nat.le_trans (List.length_filter_le ..) g3
  have hlb:=stB_len s t rb
  have e53:=F50_ok s.Table s.Channel (stB s t) (stC s) t (by omega) (by omega) (by omega) rt (Rb_stB s t rb)
  have e53':F50_0 (stp s t).Table (stp s t).Channel (stp s t).Blocked (stp s t).Clear t=some (usL s.Table s.Channel (stB s t) (stC s) t):=e53
  rw [e53',Option.bind_some]
  simp only [Bool.not_true,cond_false]
  generalize usL s.Table s.Channel (stB s t) (stC s) t=u
  by_cases hu:u.length=0
  ·rw [xS (c:=bEq _ _) (by simp [yT,hu]),xS (c:=bEq _ _) (by simp [yT,hu])]
  ·obtain ⟨k,k1,k2⟩:=md_in hp hu
   rw [yO (c:=bEq _ _) (by simp [yT];intro h;exact hu (by simp [h])),yO (c:=bEq _ _) (by simp [yT];intro h;exact hu (by simp [h])),zD (by simp [yT];intro h;exact hu (by simp [h])),k2,zD (xG k1),wr_unt ht (by decide)]
   unfold F33_0
   rw [Option.bind_some]
   simp only [stp,hL]
theorem F9_ok (s:TRegulate) (p t:Int) (hg:Gr0 s):(¬ Vs s/\F9 s p t=some (⟨[],0,false,0,false,false,0,0,[],[]⟩,[],8)) ∨ (Vs s/\¬ (Mo t/\0 <= p)/\F9 s p t=some (⟨[],0,false,0,false,false,0,0,[],[]⟩,[],2)) ∨ (Vs s/\Mo t/\0 <= p/\s.Stopped=true/\F9 s p t=some (⟨[],0,false,0,false,false,0,0,[],[]⟩,[],20)) ∨ (Vs s/\Mo t/\0 <= p/\s.Stopped=false/\F9 s p t=some ((rad s p t).2,(rad s p t).1,0)):=by
 unfold F9
 rcases F22_ok s t p (Gr_of hg) with ⟨h,e⟩|⟨h,h2,e⟩|⟨h,h2,hp,e⟩
 ·rw [e];exact .inl ⟨h,rfl⟩
 ·rw [e];exact .inr (.inl ⟨h,h2,rfl⟩)
 ·rw [e]
  simp only [Option.bind_some,Option.isSome_some,zN,cond_true,vY]
  rw [yO (c:=!bEq (0:Int) 0) (by decide)]
  cases hS:s.Stopped with
  | true=>exact .inr (.inr (.inl ⟨h,h2,hp,rfl,rfl⟩))
  | false =>
   refine .inr (.inr (.inr ⟨h,h2,hp,rfl,?_⟩))
   rw [cond_false,F23_ok s p t hg h.1.2.2 h.2.2.2.2.2.2.2.1 hp h2,Option.bind_some]
theorem Vs_stp (s:TRegulate) (t:Int) (h:Vs s) (ht:Mo t):Vs (stp s t):=by
 obtain ⟨v1,v2,v3,v4,v5,v6,v7,v8,v9,v10,v11⟩:=h
 obtain ⟨A,B,e,hA,hB,hAB⟩:=stB_is s t v8
 refine ⟨v1,v2,v3,v4,v5,fun q=>⟨rfl,(v6 q).2⟩,v7,Rb_stB s t v8,pw_fil (k:=fun q:Int=>q) _ v9,fun b hb=>?_,fun n hn=>?_⟩
 ·have hb':b ∈ stB s t:=hb
  rw [e] at hb'
  have hin:∀ q,q ∈ A ∨ q ∈ B->Pb (stp s t) q:=by
   intro q hq
   have hq':q ∈ s.Blocked:=by
    rcases hAB with h|⟨b,_,h⟩<;>rw [h]<;>rcases hq with q|q<;>simp [q]
   obtain ⟨p1,p2,p3⟩:=v10 q hq'
   exact ⟨p1,p2,fun hc=>p3 (List.mem_filter.1 hc).1⟩
  rcases List.mem_append.1 hb' with q|q
  ·exact hin b (.inl q)
  ·rcases List.mem_cons.1 q with rfl|q
   ·refine ⟨v2,?_,fun hc=>?_⟩
    ·show Mo (unt t 1800000000)
     unfold Mo at ht ⊢
     unfold unt jI
     split<;>omega
    ·have:=(List.mem_filter.1 hc).2
     simp [yT] at this
   ·exact hin b (.inr q)
 ·exact v11 n (List.mem_filter.1 hn).1
theorem rad_is (s:TRegulate) (p t:Int) (h:Vs s) (hp:0 <= p) (ht:Mo t):∃ mv to at',(rad s p t).2 = ⟨s.Table,s.Channel,s.Lead,s.Heard,true,mv,to,at',stB s t,stC s⟩/\Vs ⟨s.Table,s.Channel,s.Lead,s.Heard,true,mv,to,at',stB s t,stC s⟩:=by
 have hs:=Vs_stp s t h ht
 unfold rad
 rcases Bool.eq_false_or_eq_true s.Lead with hL|hL
 ·rw [yO (c:=!s.Lead) (by rw [hL];rfl)]
  by_cases hu:(usL s.Table s.Channel (stB s t) (stC s) t).length=0
  ·rw [xS (c:=bEq _ _) (by simp [yT,hu])];exact ⟨_,_,_,rfl,hs⟩
  ·rw [yO (c:=bEq _ _) (by simp [yT];intro h;exact hu (by simp [h]))]
   refine ⟨_,_,_,rfl,?_⟩
   obtain ⟨v1,v2,v3,v4,v5,v6,v7,v8,v9,v10,v11⟩:=hs
   refine ⟨v1,v2,v3,?_,v5,fun _=>⟨rfl,?_⟩,fun q=>Bool.noConfusion (show true=false from q),v8,v9,v10,v11⟩
   ·show Mo (unt t 150000)
    unfold Mo at ht ⊢
    unfold unt jI
    split<;>omega
   ·obtain ⟨k,k1,k2⟩:=md_in hp hu
    have hm:=vZ k1
    obtain ⟨c,c1,c2,_⟩:=us_mem.1 hm
    show ∃ q ∈ s.Table,q.Number=gd _ _
    rw [k2]
    exact ⟨c,c1,c2⟩
 ·rw [xS (c:=!s.Lead) (by rw [hL];rfl)];exact ⟨_,_,_,rfl,hs⟩
def tkB (s:TRegulate) (t:Int):List TRegulateBlock:=s.Blocked.filter (fun q=>!bLe q.Until t)
def tik (s:TRegulate) (t:Int):TRegulate:=bif (s.Moving && bLe s.At t) then ⟨s.Table,s.To,s.Lead,bif !s.Lead then s.At else s.Heard,false,false,0,0,tkB s t,s.Clear⟩ else ⟨s.Table,s.Channel,s.Lead,s.Heard,s.Stopped,s.Moving,s.To,s.At,tkB s t,s.Clear⟩
def tiw (s:TRegulate) (t:Int):List TRegulateWord:=bif (s.Moving && bLe s.At t) then [] else bif (s.Moving && s.Lead) then [⟨1,s.Channel,s.To,s.At⟩] else []
theorem F14_ok (s:TRegulate) (t:Int) (hg:Gr s):(¬ Vs s/\F14 s t=some (⟨[],0,false,0,false,false,0,0,[],[]⟩,[],8)) ∨ (Vs s/\¬ Mo t/\F14 s t=some (⟨[],0,false,0,false,false,0,0,[],[]⟩,[],2)) ∨ (Vs s/\Mo t/\F14 s t=some (tik s t,tiw s t,0)):=by
 unfold F14
 rcases F22_ok s t 0 hg with ⟨h,e⟩|⟨h,h2,e⟩|⟨h,h2,_,e⟩
 ·rw [e];exact .inl ⟨h,rfl⟩
 ·rw [e];exact .inr (.inl ⟨h,fun q=>h2 ⟨q,by decide⟩,rfl⟩)
 ·rw [e]
  refine .inr (.inr ⟨h,h2,?_⟩)
  simp only [Option.bind_some,Option.isSome_some,zN,cond_true]
  rw [yO (c:=!bEq (0:Int) 0) (by decide),F31_ok _ _ hg.2.1,Option.bind_some]
  unfold tik tiw tkB F33_0
  cases s.Moving && bLe s.At t with
  | true=>cases s.Lead<;>rfl
  | false=>cases s.Moving && s.Lead<;>rfl
theorem tik_tab (s:TRegulate) (t:Int):(tik s t).Table=s.Table/\(tik s t).Blocked=tkB s t/\(tik s t).Clear=s.Clear:=by
 unfold tik;cases s.Moving && bLe s.At t<;>exact ⟨rfl,rfl,rfl⟩
theorem Vs_tik (s:TRegulate) (t:Int) (h:Vs s):Vs (tik s t):=by
 obtain ⟨v1,v2,v3,v4,v5,v6,v7,v8,v9,v10,v11⟩:=h
 have hb:Rb (tkB s t):=pw_fil (k:=fun q:TRegulateBlock=>q.Channel) _ v8
 have hp:∀ b ∈ tkB s t,Pb s b:=fun b hb=>v10 b (List.mem_filter.1 hb).1
 unfold tik
 rcases Bool.eq_false_or_eq_true s.Moving with hm|hm
 ·rcases Bool.eq_false_or_eq_true (bLe s.At t) with ha|ha
  ·rw [xS (by rw [hm,ha];rfl)]
   refine ⟨v1,(v6 hm).2,?_,(show Mo 0 from ⟨by decide,by decide⟩),?_,fun q=>Bool.noConfusion (show false=true from q),fun q=>⟨rfl,rfl⟩,hb,v9,hp,v11⟩
   ·show Mo (bif !s.Lead then s.At else s.Heard)
    cases s.Lead
    ·exact v4
    ·exact v3
   ·intro q
    show (bif !s.Lead then s.At else s.Heard)=0
    have q':s.Lead=true:=q
    rw [q']
    exact v5 q'
  ·rw [yO (by rw [hm,ha];rfl)]
   exact ⟨v1,v2,v3,v4,v5,v6,v7,hb,v9,hp,v11⟩
 ·rw [yO (by rw [hm];rfl)]
  exact ⟨v1,v2,v3,v4,v5,v6,v7,hb,v9,hp,v11⟩
end Go.Proofs.YtooepgpfaaddbaaGreat
