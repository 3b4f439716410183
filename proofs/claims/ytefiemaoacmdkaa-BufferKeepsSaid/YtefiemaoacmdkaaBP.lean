/-
  Buffers: polling a station, the map, flushing.
-/
import Derived.Test.YtefiemaoacmdkaaBZ
namespace Go.Proofs.Ytefiemaoacmdkaa
open Go.Am
set_option linter.unusedVariables false
set_option linter.unusedSimpArgs false
theorem cmp_ok (x y:Int):F57 x y=some (if x < y then -1 else if y < x then 1 else 0):=by
 unfold F57 F88
 simp only [Option.bind_some,xK,decide_true,Bool.not_true,cond_false,yG]
 by_cases h:x < y
 ·simp [h]
 ·by_cases h2:y < x
  ·simp [h,h2]
  ·simp [h,h2]
theorem pmax_ok (r3:Int × Bool) (r5:TBuffer) (a:Nat) (e:r3.1=a) (l:List TStored) (el:(gd r5.List a).Held=l) (h0:0 < l.length) (hn:l.length <= 1000) :
  ∃ k:Nat,k < l.length/\(∀ j:Nat,j < l.length->(gd l j).Cat <= (gd l k).Cat)/\xH (fun s=>F23_L1 r3 r5 s.1 s.2) ((1:Int),gd l 0)=some (.inl (gd l k)):=by
 obtain ⟨r,l1,l2⟩:=qQ (step:=fun s:Int × TStored=>F23_L1 r3 r5 s.1 s.2) (fun s=>∃ i k:Nat,s=((i:Int),gd l k)/\i <= l.length/\k < l.length/\∀ j:Nat,j < i->(gd l j).Cat <= (gd l k).Cat)
  (fun r=>∃ k:Nat,r = .inl (gd l k)/\k < l.length/\∀ j:Nat,j < l.length->(gd l j).Cat <= (gd l k).Cat) (fun s=>(l.length - s.1).toNat)
  (fun s hI=>by
   obtain ⟨i,k,rfl,h1,h2,h3⟩:=hI
   unfold F23_L1 F56
   simp only [e,Int.toNat_natCast,el,cmp_ok,Option.bind_some]
   by_cases hi:i < l.length
   ·rw [xA (by simp [yG];omega),zR (yX hi),xL hi (by omega),zR (yX hi)]
    by_cases hc:(gd l k).Cat < (gd l i).Cat
    ·rw [xA (by simp only [yG];rw [if_neg (by omega),if_pos hc];rfl)]
     refine .inr ⟨_,rfl,⟨i+1,i,rfl,by omega,hi,fun j hj=>?_⟩,by simp only;omega⟩
     rcases Nat.lt_or_eq_of_le (Nat.le_of_lt_succ hj) with h|rfl
     ·have:=h3 j h;omega
     ·omega
    ·rw [yS (by simp only [yG];split<;>simp<;>split<;>simp_all<;>omega)]
     refine .inr ⟨_,rfl,⟨i+1,k,rfl,by omega,h2,fun j hj=>?_⟩,by simp only;omega⟩
     rcases Nat.lt_or_eq_of_le (Nat.le_of_lt_succ hj) with h|rfl
     ·exact h3 j h
     ·omega
   ·obtain rfl:i=l.length:=by omega
    rw [yS (by simp [yG])]
    exact .inl ⟨_,rfl,k,rfl,h2,h3⟩)
  ((1:Int),gd l 0) ⟨1,0,rfl,h0,h0,fun j hj=>by (obtain rfl:j=0:=(by omega));omega⟩
 obtain ⟨k,rfl,k1,k2⟩:=l2
 exact ⟨k,k1,k2,l1⟩
theorem pidx_ok (l:List TStored) (c:Int) (k:Nat) (hk:k < l.length) (e:(gd l k).Cat=c) (hn:l.length <= 1000) :
  ∃ k:Nat,k < l.length/\(gd l k).Cat=c/\(∀ j:Nat,j < k->(gd l j).Cat ≠ c)/\F58_1 l c=some (k:Int):=by
 unfold F58_1
 obtain ⟨r,l1,l2⟩:=tV (step:=fun s=>F58_1_L1 l c s) l.length (fun n=>∀ j:Nat,j < n->(gd l j).Cat ≠ c)
  (fun r=>∃ k:Nat,r = .inr (k:Int)/\k < l.length/\(gd l k).Cat=c/\∀ j:Nat,j < k->(gd l j).Cat ≠ c) (fun i hi=>by omega)
  (fun i hi hI=>by
   unfold F58_1_L1 F59_0
   rw [xA (by simp [yG];omega),zR (yX hi),Int.toNat_natCast,Option.bind_some]
   by_cases hc:(gd l i).Cat=c
   ·rw [xA (by simp [xK,hc])]
    exact .inl ⟨_,rfl,i,rfl,hi,hc,hI⟩
   ·rw [yS (by simp [xK,hc]),xL hi (by omega)]
    refine .inr ⟨rfl,fun j hj=>?_⟩
    rcases Nat.lt_or_eq_of_le (Nat.le_of_lt_succ hj) with h|rfl
    ·exact hI j h
    ·exact hc)
  (fun hI=>absurd e (hI k hk))
 obtain ⟨k,rfl,k1,k2,k3⟩:=l2
 exact ⟨k,k1,k2,k3,fN l1⟩
def zF:TFrame:=TFrame.mk (THeader.mk 0 0 false false false false false false false 0 (A6u8.mk 0 0 0 0 0 0) (A6u8.mk 0 0 0 0 0 0) (A6u8.mk 0 0 0 0 0 0) (A6u8.mk 0 0 0 0 0 0) 0 0 0 0 false false) []
def zB:TBuffer:=TBuffer.mk 0 0 [] []
def Pd (b:TBuffer) (a k:Nat):TFrame × TBuffer × Int :=
 (TFrame.mk {(gd (gd b.List a).Held k).Frame.Head with MoreData:=bLt 0 ((eA (gd b.List a).Held k ((k+1:Nat):Int)).length:Nat)} (gd (gd b.List a).Held k).Frame.Body,{b with List:=b.List.set a {(gd b.List a) with Held:=eA (gd b.List a).Held k ((k+1:Nat):Int)}},0)
theorem eC {α:Type} {l:List α} {k:Nat} (h:k < l.length):(eA l k ((k+1:Nat):Int)).length=l.length - 1:=by
 rw [del_len (n:=l.length) (by omega) rfl];omega
theorem poll_ok (b:TBuffer) (aid:Int) (hg:Ng b) (hq:Bq b) (hv:Vb b) :
  (∃ a k:Nat,a < b.List.length/\(gd b.List a).Aid=aid/\(gd b.List a).Asleep=true/\k < (gd b.List a).Held.length/\(∀ j:Nat,j < (gd b.List a).Held.length->(gd (gd b.List a).Held j).Cat <= (gd (gd b.List a).Held k).Cat)/\F23 b aid=some (Pd b a k)) ∨
  (∃ c:Int,c ≠ 0/\F23 b aid=some (zF,zB,c))/\∀ a:Nat,a < b.List.length->(gd b.List a).Aid=aid->(gd b.List a).Held.length=0:=by
 have hc:F18 b=some 0:=by
  rcases cL b hg with h|h
  ·exact h.2
  ·exact absurd hv h.1
 have hl:=hg.1
 unfold F23
 rw [hc,Option.bind_some,yS (by rfl)]
 by_cases ha:1 <= aid/\aid <= 255
 ·rw [yS (by simp [yG];omega)]
  obtain ⟨a,P,pe⟩:=eN b hg hv aid (by omega)
  rw [pe,Option.bind_some]
  rcases Pl_at hv P with ⟨h1,h2⟩|⟨h1,h2⟩
  ·rw [decide_eq_true ⟨h1,h2⟩]
   simp only [Int.toNat_natCast]
   rw [yS (by rfl),btwinf_ok a b h1 (Nb_of hg) hq,Option.bind_some,zR (yX h1)]
   have hw:=(hv.1.2 a h1).2.2.2
   rcases Bool.eq_false_or_eq_true (gd b.List a).Asleep with hs|hs
   case inr =>
    rw [xA (by rw [hs];rfl)]
    refine .inr ⟨⟨20,by omega,rfl⟩,fun a' h1' h2'=>?_⟩
    obtain rfl:=aid_inj hv h1 h1' (by rw [h2,h2'])
    rcases hw with h|h
    ·rw [h] at hs;cases hs
    ·exact h
   case inl =>
    rw [yS (by rw [hs];rfl)]
    by_cases h0:(gd b.List a).Held.length=0
    ·rw [xA (by simp only [xK,decide_eq_true_eq];omega)]
     refine .inr ⟨⟨6,by omega,rfl⟩,fun a' h1' h2'=>?_⟩
     obtain rfl:=aid_inj hv h1 h1' (by rw [h2,h2'])
     exact h0
    ·have hh:=hg.2.2 a h1
     rw [yS (by simp only [xK,decide_eq_false_iff_not];omega),yS (by simp only [yG,decide_eq_false_iff_not];omega),zR (inb_0 (by omega))]
     obtain ⟨m,m1,m2,m3⟩:=pmax_ok ((a:Int),true) b a rfl (gd b.List a).Held rfl (by omega) (by omega)
     rw [vF m3]
     obtain ⟨k,k1,k2,k3,k4⟩:=pidx_ok (gd b.List a).Held _ m m1 rfl (by omega)
     rw [k4,Option.bind_some,zR (yX k1),xL k1 (by omega),zR (by unfold delb;simp;omega)]
     exact .inl ⟨a,k,h1,h2,hs,k1,fun j hj=>by have:=m2 j hj;omega,rfl⟩
  ·rw [decide_eq_false h1,xA (by rfl)]
   exact .inr ⟨⟨6,by omega,rfl⟩,fun a' h1' h2'=>absurd h2' (h2 a' h1')⟩
 ·rw [xA (by simp [yG];omega)]
  refine .inr ⟨⟨2,by omega,rfl⟩,fun a h1 h2=>?_⟩
  have:=aid_rng hv h1
  omega
/-! ### The map, flushing, finding -/
theorem eH (l:List TStored) (hn:l.length <= 1000):F53 l=some (l.map (·.Frame)):=by
 unfold F53
 have l1:=qS (step:=fun s=>cF l s.1 s.2) (R:=List TFrame) l.length (fun i=>((l.take i).map (·.Frame),(i:Int))) (l.map (·.Frame)) (fun i hi=>by
   show cF l ((l.take i).map (·.Frame)) i=_
   unfold cF
   have ht:((l.take i).map (·.Frame)).length=i:=by simp;omega
   rw [xA (by simp [yG];omega),zR (yX hi),Int.toNat_natCast,tF (by omega) (by omega),xL hi (by omega),hD hi,List.map_append]
   rfl)
  (by show cF l ((l.take l.length).map (·.Frame)) _=_;unfold cF;rw [yS (by simp [yG]),List.take_length])
 replace l1:xH (fun s=>cF l s.1 s.2) (([]:List TFrame),(0:Int))=some (.inl (l.map (·.Frame))):=by simpa using l1
 rw [vF l1]
def mk1 (f:TFrame) (m:Bool):TFrame:=TFrame.mk {f.Head with MoreData:=m} f.Body
theorem hand_ok (l:List TFrame) (hn:l.length <= 1000):∃ r,fR l=some r/\r.length=l.length/\∀ i:Nat,i < l.length->gd r i=mk1 (gd l i) (decide (i+1 < l.length)):=by
 unfold fR
 obtain ⟨r,l1,l2⟩:=qQ (step:=fun s:List TFrame × Int=>F52_0_L1 l s.1 s.2) (fun s=>∃ (i:Nat) (w:List TFrame),s=(w,(i:Int))/\i <= l.length/\w.length=l.length/\(∀ j:Nat,j < i->gd w j=mk1 (gd l j) (decide (j+1 < l.length)))/\∀ j:Nat,i <= j->gd w j=gd l j)
  (fun r=>∃ w,r = .inl w/\w.length=l.length/\∀ i:Nat,i < l.length->gd w i=mk1 (gd l i) (decide (i+1 < l.length))) (fun s=>(l.length - s.2).toNat)
  (fun s hI=>by
   obtain ⟨i,w,rfl,h1,h2,h3,h4⟩:=hI
   unfold F52_0_L1
   simp only
   by_cases hi:i < l.length
   ·rw [xA (by simp [yG];omega),zR (yX (by omega)),Int.toNat_natCast,xL hi (by omega)]
    refine .inr ⟨_,rfl,⟨i+1,_,rfl,by omega,by simp [h2],fun j hj=>?_,fun j hj=>?_⟩,by simp only;omega⟩
    ·rcases Nat.lt_or_eq_of_le (Nat.le_of_lt_succ hj) with h|rfl
     ·rw [jX (by omega)];exact h3 j h
     ·rw [jW (by omega),h4 _ (Nat.le_refl _)]
      unfold mk1
      simp only [yG,h2]
      congr 2
      simp
      omega
    ·rw [jX (by omega)];exact h4 j (by omega)
   ·obtain rfl:i=l.length:=by omega
    rw [yS (by simp [yG])]
    exact .inl ⟨_,rfl,w,rfl,h2,h3⟩)
  (l,(0:Int)) ⟨0,l,rfl,by omega,rfl,fun j hj=>by omega,fun j _=>rfl⟩
 obtain ⟨w,rfl,w1,w2⟩:=l2
 rw [vF l1]
 exact ⟨w,rfl,w1,w2⟩
theorem flush_ok (b:TBuffer) (hg:Ng b) (hq:Bq b) (hv:Vb b):∃ r,F26 b=some (r,{b with Group:=[]},0)/\r.length=b.Group.length:=by
 have hc:F18 b=some 0:=by
  rcases cL b hg with h|h
  ·exact h.2
  ·exact absurd hv h.1
 have h2:=hg.2.1
 unfold F26
 obtain ⟨r,r1,r2,r3⟩:=hand_ok (b.Group.map (·.Frame)) (by simp;omega)
 rw [hc,Option.bind_some,yS (by rfl),fY b (Nb_of hg) hq,Option.bind_some,eH _ (by omega),Option.bind_some,r1,Option.bind_some]
 exact ⟨r,rfl,by simpa using r2⟩
theorem find_ok (b:TBuffer) (aid:Int) (hn:b.List.length <= 1000):(∃ a:Nat,a < b.List.length/\(gd b.List a).Aid=aid/\(∀ j:Nat,j < a->(gd b.List j).Aid ≠ aid)/\F22 b aid=some (a:Int)) ∨ (∀ a:Nat,a < b.List.length->(gd b.List a).Aid ≠ aid)/\F22 b aid=some (-1):=by
 unfold F22
 obtain ⟨r,l1,l2⟩:=tV (step:=fun s=>F22_L1 b aid s) b.List.length (fun n=>∀ j:Nat,j < n->(gd b.List j).Aid ≠ aid)
  (fun r=>match r with|.inl _=>∀ j:Nat,j < b.List.length->(gd b.List j).Aid ≠ aid|.inr x=>∃ k:Nat,x=(k:Int)/\k < b.List.length/\(gd b.List k).Aid=aid/\∀ j:Nat,j < k->(gd b.List j).Aid ≠ aid) (fun i hi=>by omega)
  (fun i hi hI=>by
   unfold F22_L1
   rw [xA (by simp [yG];omega),zR (yX hi),Int.toNat_natCast]
   by_cases hc:(gd b.List i).Aid=aid
   ·rw [xA (by simp [xK,hc])]
    exact .inl ⟨_,rfl,i,rfl,hi,hc,hI⟩
   ·rw [yS (by simp [xK,hc]),xL hi (by omega)]
    refine .inr ⟨rfl,fun j hj=>?_⟩
    rcases Nat.lt_or_eq_of_le (Nat.le_of_lt_succ hj) with h|rfl
    ·exact hI j h
    ·exact hc)
  (fun hI=>by
   unfold F22_L1
   rw [yS (by simp [yG])]
   exact ⟨_,rfl,hI⟩)
 cases r with
 | inl u=>exact .inr ⟨l2,vF l1⟩
 | inr x=>obtain ⟨k,rfl,k1,k2,k3⟩:=l2;exact .inl ⟨k,k1,k2,k3,fN l1⟩
end Go.Proofs.Ytefiemaoacmdkaa
