/-
  Counting what is to be delivered.
-/
import Derived.Test.YtnclkplbeenmdaaCG
namespace Go.Proofs.Ytnclkplbeenmdaa
open Go.Am
set_option linter.unusedVariables false
set_option linter.unusedSimpArgs false
/-! ### Counting -/
theorem bit_ex (d c:Int) (hc:0 <= c/\c <= 255):∃ v,F36 d c=some v:=by
 unfold F36
 obtain ⟨n,rfl⟩:=Int.eq_ofNat_of_zero_le hc.1
 obtain ⟨r,l1,v,rfl⟩:=loop_inv (step:=fun s:Int × Int=>F36_L1 (n:Int) s.1 s.2) (fun s=>∃ i:Nat,s.2=(i:Int)/\i <= n) (fun r=>∃ v:Int,r = .inl v) (fun s=>(n - s.2).toNat)
  (fun s hI=>by
   obtain ⟨v,x⟩:=s
   obtain ⟨i,h1,h2⟩:=hI
   simp only at h1
   subst h1
   unfold F36_L1
   simp only
   by_cases hi:i < n
   ·rw [bif_t (by simp only [bLt_eq,decide_eq_true_eq];omega),show wr .u8 ((i:Int)+1)=((i+1:Nat):Int) from wr_u8 (by omega)]
    exact .inr ⟨_,rfl,⟨i+1,rfl,by omega⟩,by simp only;omega⟩
   ·rw [bif_f (by simp only [bLt_eq,decide_eq_false_iff_not];omega)]
    exact .inl ⟨_,rfl,v,rfl⟩)
  (d,(0:Int)) ⟨0,rfl,by omega⟩
 exact ⟨_,lp_inl l1⟩
def bitA (d c:Int):Bool:=bEq (andI .u8 (shrI .u8 d c) 1) 1
theorem bits:((List.range 16).all fun a=>(List.range 4).all fun b=>F36 (a:Int) (b:Int) == some (bitA (a:Int) (b:Int)))=true:=by kernel_rfl
theorem bit_ok (d c:Int) (hd:0 <= d/\d <= 15) (hc:0 <= c/\c <= 3):F36 d c=some (bitA d c):=by
 obtain ⟨a,rfl⟩:=Int.eq_ofNat_of_zero_le hd.1
 obtain ⟨b,rfl⟩:=Int.eq_ofNat_of_zero_le hc.1
 have h1:=List.all_eq_true.1 bits a (List.mem_range.2 (by omega))
 have h2:=List.all_eq_true.1 h1 b (List.mem_range.2 (by omega))
 exact eq_of_beq h2
theorem cnt_snoc (d:Int) (l:List TStored) (q:TStored):cnt d (l ++ [q])=cnt d l+(if Tl d q=true then 1 else 0):=by
 unfold cnt
 rw [List.filter_append,List.length_append]
 simp only [List.filter_cons,List.filter_nil]
 split<;>rfl
theorem count_ok (d:Int) (l:List TStored) (hn:l.length <= 1000) (hc:∀ q ∈ l,0 <= q.Cat/\q.Cat <= 255):∃ k,F35 l d=some k/\((0 <= d/\d <= 15)->(∀ i:Nat,i < l.length->(gd l i).Cat <= 3)->k=(cnt d l:Int)):=by
 unfold F35
 obtain ⟨r,l1,l2⟩:=loop_inv (step:=fun s:Int × Int=>F35_L1 l d s.1 s.2) (fun s=>∃ i:Nat,s.2=(i:Int)/\i <= l.length/\((0 <= d/\d <= 15)->(∀ i:Nat,i < l.length->(gd l i).Cat <= 3)->s.1=(cnt d (l.take i):Int)))
  (fun r=>∃ k:Int,r = .inl k/\((0 <= d/\d <= 15)->(∀ i:Nat,i < l.length->(gd l i).Cat <= 3)->k=(cnt d l:Int))) (fun s=>(l.length - s.2).toNat)
  (fun s hI=>by
   obtain ⟨k,x⟩:=s
   obtain ⟨i,h1,h2,h3⟩:=hI
   simp only at h1 h3
   subst h1
   unfold F35_L1
   simp only
   by_cases hi:i < l.length
   ·have hq:=hc _ (gd_mem hi)
    obtain ⟨v,v1⟩:=bit_ex d (gd l i).Cat hq
    rw [bif_t (by simp only [bLt_eq,decide_eq_true_eq];omega),need_true (inb_nat hi),Int.toNat_natCast,v1,Option.bind_some,wr_add1 hi (by omega)]
    have hle:cnt d (l.take i) <= i:=Nat.le_trans (cnt_le _ _) (by simp;omega)
    have hv:(0 <= d/\d <= 15)->(∀ i:Nat,i < l.length->(gd l i).Cat <= 3)->v=Tl d (gd l i):=fun a1 a2=>by
     rw [bit_ok d _ a1 ⟨hq.1,a2 i hi⟩] at v1
     exact (Option.some.inj v1).symm
    cases v with
    | true =>
     rw [cond_true]
     refine .inr ⟨_,rfl,⟨i+1,rfl,by omega,fun a1 a2=>?_⟩,by simp only;omega⟩
     simp only
     rw [h3 a1 a2,take_snoc hi,cnt_snoc,← hv a1 a2,if_pos rfl,wr_in (by omega)]
     rfl
    | false =>
     rw [cond_false]
     refine .inr ⟨_,rfl,⟨i+1,rfl,by omega,fun a1 a2=>?_⟩,by simp only;omega⟩
     simp only
     rw [h3 a1 a2,take_snoc hi,cnt_snoc,← hv a1 a2]
     rfl
   ·obtain rfl:i=l.length:=by omega
    rw [bif_f (by simp only [bLt_eq,decide_eq_false_iff_not];omega)]
    exact .inl ⟨_,rfl,k,rfl,fun a1 a2=>by rw [h3 a1 a2,List.take_length]⟩)
  ((0:Int),(0:Int)) ⟨0,rfl,by omega,fun _ _=>rfl⟩
 obtain ⟨k,rfl,l2⟩:=l2
 exact ⟨k,lp_inl l1,l2⟩
end Go.Proofs.Ytnclkplbeenmdaa
