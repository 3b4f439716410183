/-
  Buffers: polling a station, the map, flushing.
-/
import Derived.Test.YtefiemaoacmdkaaBZ
namespace Go.Proofs.Ytefiemaoacmdkaa
open Go.Am
set_option linter.unusedVariables false
set_option linter.unusedSimpArgs false
theorem cmp_ok (x y:Int):F57 x y=some (if x < y then -1 else if y < x then 1 else 0):=by
 unfold F57 F88
 simp only [Option.bind_some,bEq_eq,decide_true,Bool.not_true,cond_false,bLt_eq]
 by_cases h:x < y
 ·simp [h]
 ·by_cases h2:y < x
  ·simp [h,h2]
  ·simp [h,h2]
theorem pmax_ok (r3:Int × Bool) (r5:TBuffer) (a:Nat) (e:r3.1=a) (l:List TStored) (el:(gd r5.List a).Held=l) (h0:0 < l.length) (hn:l.length <= 1000) :
  ∃ k:Nat,k < l.length/\(∀ j:Nat,j < l.length->(gd l j).Cat <= (gd l k).Cat)/\loopD (fun s=>F23_L1 r3 r5 s.1 s.2) ((1:Int),gd l 0)=some (.inl (gd l k)):=by
 obtain ⟨r,l1,l2⟩:=loop_inv (step:=fun s:Int × TStored=>F23_L1 r3 r5 s.1 s.2) (fun s=>∃ i k:Nat,s=((i:Int),gd l k)/\i <= l.length/\k < l.length/\∀ j:Nat,j < i->(gd l j).Cat <= (gd l k).Cat)
  (fun r=>∃ k:Nat,r = .inl (gd l k)/\k < l.length/\∀ j:Nat,j < l.length->(gd l j).Cat <= (gd l k).Cat) (fun s=>(l.length - s.1).toNat)
  (fun s hI=>by
   obtain ⟨i,k,rfl,h1,h2,h3⟩:=hI
   unfold F23_L1 F56
   simp only [e,Int.toNat_natCast,el,cmp_ok,Option.bind_some]
   by_cases hi:i < l.length
   ·rw [bif_t (by simp [bLt_eq];omega),need_true (inb_nat hi),wr_add1 hi (by omega),need_true (inb_nat hi)]
    by_cases hc:(gd l k).Cat < (gd l i).Cat
    ·rw [bif_t (by simp only [bLt_eq];rw [if_neg (by omega),if_pos hc];rfl)]
     refine .inr ⟨_,rfl,⟨i+1,i,rfl,by omega,hi,fun j hj=>?_⟩,by simp only;omega⟩
     rcases Nat.lt_or_eq_of_le (Nat.le_of_lt_succ hj) with h|rfl
     ·have:=h3 j h;omega
     ·omega
    ·rw [bif_f (by simp only [bLt_eq];split<;>simp<;>split<;>simp_all<;>omega)]
     refine .inr ⟨_,rfl,⟨i+1,k,rfl,by omega,h2,fun j hj=>?_⟩,by simp only;omega⟩
     rcases Nat.lt_or_eq_of_le (Nat.le_of_lt_succ hj) with h|rfl
     ·exact h3 j h
     ·omega
   ·obtain rfl:i=l.length:=by omega
    rw [bif_f (by simp [bLt_eq])]
    exact .inl ⟨_,rfl,k,rfl,h2,h3⟩)
  ((1:Int),gd l 0) ⟨1,0,rfl,h0,h0,fun j hj=>by (obtain rfl:j=0:=(by omega));omega⟩
 obtain ⟨k,rfl,k1,k2⟩:=l2
 exact ⟨k,k1,k2,l1⟩
theorem pidx_ok (l:List TStored) (c:Int) (k:Nat) (hk:k < l.length) (e:(gd l k).Cat=c) (hn:l.length <= 1000) :
  ∃ k:Nat,k < l.length/\(gd l k).Cat=c/\(∀ j:Nat,j < k->(gd l j).Cat ≠ c)/\F58_1 l c=some (k:Int):=by
 unfold F58_1
 obtain ⟨r,l1,l2⟩:=loop_for (step:=fun s=>bT l c s) l.length (fun n=>∀ j:Nat,j < n->(gd l j).Cat ≠ c)
  (fun r=>∃ k:Nat,r = .inr (k:Int)/\k < l.length/\(gd l k).Cat=c/\∀ j:Nat,j < k->(gd l j).Cat ≠ c) (fun i hi=>by omega)
  (fun i hi hI=>by
   unfold bT F59_0
   rw [bif_t (by simp [bLt_eq];omega),need_true (inb_nat hi),Int.toNat_natCast,Option.bind_some]
   by_cases hc:(gd l i).Cat=c
   ·rw [bif_t (by simp [bEq_eq,hc])]
    exact .inl ⟨_,rfl,i,rfl,hi,hc,hI⟩
   ·rw [bif_f (by simp [bEq_eq,hc]),wr_add1 hi (by omega)]
    refine .inr ⟨rfl,fun j hj=>?_⟩
    rcases Nat.lt_or_eq_of_le (Nat.le_of_lt_succ hj) with h|rfl
    ·exact hI j h
    ·exact hc)
  (fun hI=>absurd e (hI k hk))
 obtain ⟨k,rfl,k1,k2,k3⟩:=l2
 exact ⟨k,k1,k2,k3,lp_inr l1⟩
def zB:TBuffer:=TBuffer.mk 0 0 [] []
theorem del_len1 {α:Type} {l:List α} {k:Nat} (h:k < l.length):(delL l k ((k+1:Nat):Int)).length=l.length - 1:=by
 rw [del_len (n:=l.length) (by omega) rfl];omega
theorem frames_ok (l:List TStored) (hn:l.length <= 1000):F53 l=some (l.map (·.Frame)):=by
 unfold F53
 have l1:=run_gen (step:=fun s=>cC l s.1 s.2) (R:=List TFrame) l.length (fun i=>((l.take i).map (·.Frame),(i:Int))) (l.map (·.Frame)) (fun i hi=>by
   show cC l ((l.take i).map (·.Frame)) i=_
   unfold cC
   have ht:((l.take i).map (·.Frame)).length=i:=by simp;omega
   rw [bif_t (by simp [bLt_eq];omega),need_true (inb_nat hi),Int.toNat_natCast,nd_cap (by omega) (by omega),wr_add1 hi (by omega),take_snoc hi,List.map_append]
   rfl)
  (by show cC l ((l.take l.length).map (·.Frame)) _=_;unfold cC;rw [bif_f (by simp [bLt_eq]),List.take_length])
 replace l1:loopD (fun s=>cC l s.1 s.2) (([]:List TFrame),(0:Int))=some (.inl (l.map (·.Frame))):=by simpa using l1
 rw [lp_inl l1]
def mk1 (f:TFrame) (m:Bool):TFrame:=TFrame.mk {f.Head with MoreData:=m} f.Body
theorem hand_ok (l:List TFrame) (hn:l.length <= 1000):∃ r,eR l=some r/\r.length=l.length/\∀ i:Nat,i < l.length->gd r i=mk1 (gd l i) (decide (i+1 < l.length)):=by
 unfold eR
 obtain ⟨r,l1,l2⟩:=loop_inv (step:=fun s:List TFrame × Int=>bS l s.1 s.2) (fun s=>∃ (i:Nat) (w:List TFrame),s=(w,(i:Int))/\i <= l.length/\w.length=l.length/\(∀ j:Nat,j < i->gd w j=mk1 (gd l j) (decide (j+1 < l.length)))/\∀ j:Nat,i <= j->gd w j=gd l j)
  (fun r=>∃ w,r = .inl w/\w.length=l.length/\∀ i:Nat,i < l.length->gd w i=mk1 (gd l i) (decide (i+1 < l.length))) (fun s=>(l.length - s.2).toNat)
  (fun s hI=>by
   obtain ⟨i,w,rfl,h1,h2,h3,h4⟩:=hI
   unfold bS
   simp only
   by_cases hi:i < l.length
   ·rw [bif_t (by simp [bLt_eq];omega),need_true (inb_nat (by omega)),Int.toNat_natCast,wr_add1 hi (by omega)]
    refine .inr ⟨_,rfl,⟨i+1,_,rfl,by omega,by simp [h2],fun j hj=>?_,fun j hj=>?_⟩,by simp only;omega⟩
    ·rcases Nat.lt_or_eq_of_le (Nat.le_of_lt_succ hj) with h|rfl
     ·rw [gd_set_ne (by omega)];exact h3 j h
     ·rw [gd_set_eq (by omega),h4 _ (Nat.le_refl _)]
      unfold mk1
      simp only [bLt_eq,h2]
      congr 2
      simp
      omega
    ·rw [gd_set_ne (by omega)];exact h4 j (by omega)
   ·obtain rfl:i=l.length:=by omega
    rw [bif_f (by simp [bLt_eq])]
    exact .inl ⟨_,rfl,w,rfl,h2,h3⟩)
  (l,(0:Int)) ⟨0,l,rfl,by omega,rfl,fun j hj=>by omega,fun j _=>rfl⟩
 obtain ⟨w,rfl,w1,w2⟩:=l2
 rw [lp_inl l1]
 exact ⟨w,rfl,w1,w2⟩
theorem find_ok (b:TBuffer) (aid:Int) (hn:b.List.length <= 1000):(∃ a:Nat,a < b.List.length/\(gd b.List a).Aid=aid/\(∀ j:Nat,j < a->(gd b.List j).Aid ≠ aid)/\F22 b aid=some (a:Int)) ∨ (∀ a:Nat,a < b.List.length->(gd b.List a).Aid ≠ aid)/\F22 b aid=some (-1):=by
 unfold F22
 obtain ⟨r,l1,l2⟩:=loop_for (step:=fun s=>F22_L1 b aid s) b.List.length (fun n=>∀ j:Nat,j < n->(gd b.List j).Aid ≠ aid)
  (fun r=>match r with|.inl _=>∀ j:Nat,j < b.List.length->(gd b.List j).Aid ≠ aid|.inr x=>∃ k:Nat,x=(k:Int)/\k < b.List.length/\(gd b.List k).Aid=aid/\∀ j:Nat,j < k->(gd b.List j).Aid ≠ aid) (fun i hi=>by omega)
  (fun i hi hI=>by
   unfold F22_L1
   rw [bif_t (by simp [bLt_eq];omega),need_true (inb_nat hi),Int.toNat_natCast]
   by_cases hc:(gd b.List i).Aid=aid
   ·rw [bif_t (by simp [bEq_eq,hc])]
    exact .inl ⟨_,rfl,i,rfl,hi,hc,hI⟩
   ·rw [bif_f (by simp [bEq_eq,hc]),wr_add1 hi (by omega)]
    refine .inr ⟨rfl,fun j hj=>?_⟩
    rcases Nat.lt_or_eq_of_le (Nat.le_of_lt_succ hj) with h|rfl
    ·exact hI j h
    ·exact hc)
  (fun hI=>by
   unfold F22_L1
   rw [bif_f (by simp [bLt_eq])]
   exact ⟨_,rfl,hI⟩)
 cases r with
 | inl u=>exact .inr ⟨l2,lp_inl l1⟩
 | inr x=>obtain ⟨k,rfl,k1,k2,k3⟩:=l2;exact .inl ⟨k,k1,k2,k3,lp_inr l1⟩
end Go.Proofs.Ytefiemaoacmdkaa
