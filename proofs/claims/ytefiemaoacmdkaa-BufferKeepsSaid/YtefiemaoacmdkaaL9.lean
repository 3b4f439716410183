/-
  BufferKeeps: the law over values.
-/
import Derived.Test.YtefiemaoacmdkaaBK
namespace Go.Proofs.Ytefiemaoacmdkaa
open Go.Am
set_option linter.unusedVariables false
set_option linter.unusedSimpArgs false
theorem alive_ok9:F20=some true:=by kernel_rfl
theorem zsame:F16 zB (TBuffer.mk 0 0 [] [])=some true:=by kernel_rfl
def Stp (b:TBuffer) (s:TStep) (x:List TFrame × List TFrame × TBuffer × Int):Prop :=
 (x.1=[]/\x.2.1=[]/\x.2.2.1=zB/\x.2.2.2 ≠ 0) ∨ (x.2.2.2=0/\Lim b x.2.2.1/\(s.Kind ≠ 8->Oth b x.2.2.1 s.Aid))
theorem do_ok (b:TBuffer) (s:TStep) (hg:Ng b) (hq:Bq b) (hv:Vb b) (hf:Fq s.Frame):∃ x,F31 b s=some x/\Stp b s x:=by
 have hc:=vb_chk hv
 unfold F31
 by_cases k:s.Kind=0
 ·rw [xA (by simp [xK,k])]
  obtain ⟨n,e,e1,e2⟩:=join_ok b s.Aid hg hq hv
  rw [e1,Option.bind_some]
  refine ⟨_,rfl,?_⟩
  rcases e2 with ⟨x1,x2⟩|⟨x1,x2,x3⟩
  ·exact .inl ⟨rfl,rfl,x1,x2⟩
  ·exact .inr ⟨x1,x2,fun _=>x3⟩
 rw [yS (by simp [xK,k])]
 clear k
 by_cases k:s.Kind=1
 ·rw [xA (by simp [xK,k])]
  obtain ⟨d,n,e,e1,e2⟩:=leave_ok b s.Aid hg hq hv
  rw [e1,Option.bind_some]
  refine ⟨_,rfl,?_⟩
  rcases e2 with ⟨x0,x1,x2⟩|⟨x1,x2,x3⟩
  ·exact .inl ⟨rfl,x0,x1,x2⟩
  ·exact .inr ⟨x1,x2,fun _=>x3⟩
 rw [yS (by simp [xK,k])]
 clear k
 by_cases k:s.Kind=2
 ·rw [xA (by simp [xK,k])]
  obtain ⟨n,e,e1,e2⟩:=sleep_ok b s.Aid hg hq hv
  rw [e1,Option.bind_some]
  refine ⟨_,rfl,?_⟩
  rcases e2 with ⟨x1,x2⟩|⟨x1,x2,x3⟩
  ·exact .inl ⟨rfl,rfl,x1,x2⟩
  ·exact .inr ⟨x1,x2,fun _=>x3⟩
 rw [yS (by simp [xK,k])]
 clear k
 by_cases k:s.Kind=3
 ·rw [xA (by simp [xK,k])]
  rcases wake_ok b s.Aid hg hq hv with ⟨a,r1,r2,g,a1,a2,_,_,_,_,a3,a4⟩|⟨c,c1,c2⟩
  ·rw [a4,Option.bind_some]
   refine ⟨_,rfl,.inr ⟨rfl,⟨rfl,rfl,(wk_good a1 hg hq hv a3).2.2⟩,fun _=>?_⟩⟩
   rw [← a2]
   exact st_oth (s:=false) (h:=[]) a1
  ·rw [c2,Option.bind_some]
   exact ⟨_,rfl,.inl ⟨rfl,rfl,rfl,c1⟩⟩
 rw [yS (by simp [xK,k])]
 clear k
 by_cases k:s.Kind=4
 ·rw [xA (by simp [xK,k])]
  obtain ⟨o,d,n,e,e1,e2⟩:=put_ok b s.Aid s.Cat s.Frame s.Now hg hq hv hf
  rw [e1,Option.bind_some]
  refine ⟨_,rfl,?_⟩
  rcases e2 with ⟨x0,x1,x2,x3⟩|⟨x1,x2,x3⟩
  ·exact .inl ⟨x0,x1,x2,x3⟩
  ·exact .inr ⟨x1,x2,fun _=>x3⟩
 rw [yS (by simp [xK,k])]
 clear k
 by_cases k:s.Kind=5
 ·rw [xA (by simp [xK,k])]
  obtain ⟨o,d,n,e,e1,e2⟩:=pgrp_ok b s.Frame s.Now s.Aid hg hq hv hf
  rw [e1,Option.bind_some]
  refine ⟨_,rfl,?_⟩
  rcases e2 with ⟨x0,x1,x2,x3⟩|⟨x1,x2,x3⟩
  ·exact .inl ⟨x0,x1,x2,x3⟩
  ·exact .inr ⟨x1,x2,fun _=>x3⟩
 rw [yS (by simp [xK,k])]
 clear k
 by_cases k:s.Kind=6
 ·rw [xA (by simp [xK,k])]
  rcases poll_ok b s.Aid hg hq hv with ⟨a,m,a1,a2,a3,a4,_,a6⟩|⟨⟨c,c0,c1⟩,_⟩
  ·rw [a6,Option.bind_some,xA (by rfl)]
   refine ⟨_,rfl,.inr ⟨rfl,?_⟩⟩
   have V:=st_vbT (h:=eA (gd b.List a).Held m ((m+1:Nat):Int)) a1 hv (del_qu a4 (hv.1.2 a a1).2.2.1)
   have O:=st_oth (s:=true) (h:=eA (gd b.List a).Held m ((m+1:Nat):Int)) a1
   rw [st_held a3] at V O
   rw [a2] at O
   exact ⟨⟨rfl,rfl,V⟩,fun _=>O⟩
  ·rw [c1,Option.bind_some,yS (by simp [xK,c0])]
   exact ⟨_,rfl,.inl ⟨rfl,rfl,rfl,c0⟩⟩
 rw [yS (by simp [xK,k])]
 clear k
 by_cases k:s.Kind=7
 ·rw [xA (by simp [xK,k])]
  obtain ⟨r,e1,_⟩:=flush_ok b hg hq hv
  rw [e1,Option.bind_some]
  exact ⟨_,rfl,.inr ⟨rfl,⟨rfl,rfl,grp_vb hv (qu_nil hv) (.inl rfl)⟩,fun _ i hi=>.inr ⟨i,hi,rfl⟩⟩⟩
 rw [yS (by simp [xK,k])]
 clear k
 by_cases k:s.Kind=8
 ·rw [xA (by simp [xK,k])]
  by_cases hm:0 <= s.Now/\s.Now <= 1099511627776
  ·have A:=age_ok b s.Now hc (Nb_of hg) hq ⟨by have:=hv.1.1.2.1;omega,hv.1.1.2.1.2⟩ (vb_aq hv) hm hg.1 (fun s hs=>by obtain ⟨i,hi,rfl⟩:=jA hs;exact hg.2.2 i hi)
   rw [A,Option.bind_some]
   exact ⟨_,rfl,.inr ⟨rfl,⟨rfl,rfl,vb_aged hv⟩,fun h=>absurd k h⟩⟩
  ·have A:F25 b s.Now=some ([],TBuffer.mk 0 0 [] [],2):=by
    unfold F25 F61
    rw [hc,Option.bind_some,yS (by simp [xK]),Option.bind_some,xA (by simp [vY];omega)]
   rw [A,Option.bind_some]
   exact ⟨_,rfl,.inl ⟨rfl,rfl,rfl,by show (2:Int) ≠ 0;omega⟩⟩
 rw [yS (by simp [xK,k])]
 exact ⟨_,rfl,.inl ⟨rfl,rfl,rfl,by show (2:Int) ≠ 0;omega⟩⟩
theorem one_deR (l:List TSleeper) (i:Nat):deR yI 1 (enR zD (l.drop i))=[gd l i]:=by
 show [yI (zN (zD (gd (l.drop i) 0)))]=_
 rw [gY,gd_drop]
 rfl
theorem law9 (b:TBuffer) (s:TStep) (hu:U8b b):F9 b s=some true:=by
 unfold F9
 rw [alive_ok9,Option.bind_some]
 obtain ⟨r,e,hr⟩:=great_ok b s.Frame
 rw [e,Option.bind_some]
 cases r with
 | true=>rfl
 | false =>
 obtain ⟨hg,hq,hf⟩:=hr rfl
 rcases cL b hg with ⟨hv,hc⟩|⟨_,hc⟩
 ·rw [hc,zR (by rfl),yS (by rfl)]
  obtain ⟨⟨o,d,n,c⟩,e1,e2⟩:=do_ok b s hg hq hv hf
  rw [e1,Option.bind_some]
  simp only
  rcases e2 with ⟨x1,x2,x3,x4⟩|⟨x1,⟨l1,l2,l3⟩,ho⟩
  ·simp only at x1 x2 x3 x4
   subst x1 x2 x3
   rw [xA (by simp [xK,x4]),zsame]
   rfl
  ·simp only at x1 l1 l2 l3 ho
   subst x1
   rw [yS (by rfl),vb_chk l3,Option.bind_some,yS (by simp [xK,l1,l2])]
   by_cases k:s.Kind=8
   ·rw [xA (by simp [xK,k])]
   ·rw [yS (by simp [xK,k])]
    have O:=ho k
    have hn:=vb_ng l3
    have hl:=hg.1
    have hln:=hn.1
    have r1:=qS (step:=fun q=>F9_L1 b s (o,d,n,0) q) (R:=Bool) b.List.length (fun i=>(i:Int)) () (fun i hi=>by
      show F9_L1 b s (o,d,n,0) i=_
      unfold F9_L1
      rw [xA (by simp [yG];omega),zR (yX hi),Int.toNat_natCast]
      by_cases ea:(gd b.List i).Aid=s.Aid
      ·rw [xA (by simp [xK,ea]),xL hi (by omega)]
      ·rw [yS (by simp [xK,ea]),zR (yX hi)]
       obtain ⟨k',k1,k2⟩:=(O i hi).resolve_left ea
       rcases find_ok n (gd b.List i).Aid (by omega) with ⟨a,b1,b2,_,b3⟩|⟨b1,_⟩
       ·obtain rfl:=aid_inj l3 b1 k1 (by rw [b2,k2])
        simp only
        rw [b3,Option.bind_some,yS (by simp [yG]),xL hi (by omega),xL b1 (by omega),zR (jQ.2 ⟨by omega,by omega,by omega⟩),zR (jQ.2 ⟨by omega,by omega,by omega⟩),Int.toNat_natCast,Int.toNat_natCast,Int.toNat_natCast,show i+1 - i=1 by omega,show a+1 - a=1 by omega,one_deR,one_deR,k2]
        have hs:=same_ok (TBuffer.mk 0 0 [gd b.List i] []) ⟨by simp,by simp,fun q hq=>by
         obtain rfl:=List.mem_singleton.1 hq
         have:=hg.2.2 i hi
         omega⟩ ⟨fun q hq=>(by cases hq),fun q hq=>by
         obtain rfl:=List.mem_singleton.1 hq
         exact hu.2 _ (vD hi)⟩
        rw [hs]
        rfl
       ·exact absurd (by rw [k2]) (b1 k' k1))
     (by show F9_L1 b s (o,d,n,0) (b.List.length:Nat)=_;unfold F9_L1;rw [yS (by simp [yG])])
    replace r1:xH (fun q=>F9_L1 b s (o,d,n,0) q) (0:Int)=some (.inl ()):=by simpa using r1
    rw [vF r1]
 ·rw [hc]
  rfl
end Go.Proofs.Ytefiemaoacmdkaa
