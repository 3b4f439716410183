/-
  Buffers: copies.
-/
import Derived.Test.YtnclkplbeenmdaaBX
namespace Go.Proofs.Ytnclkplbeenmdaa
open Go.Am
set_option linter.unusedVariables false
set_option linter.unusedSimpArgs false
theorem nd_cap {α:Type} {b n:Nat} {k:Option α} (h1:(n:Int) * b <= 140737488355328) (h2:n <= 140737488355328):need (capb b n) k=k:=need_true (capb_iff.2 ⟨h1,h2⟩)
theorem set_gd {α:Type} [Inhabited α] (l:List α) (i:Nat):l.set i (gd l i)=l:=by
 rcases Nat.lt_or_ge i l.length with h|h
 ·apply List.ext_getElem (by simp)
  intro j h1 h2
  rw [List.getElem_set]
  split
  ·rename_i e;subst e;rw [← gd_at h]
  ·rfl
 ·exact List.set_eq_of_length_le h
theorem twin_ok (f:TFrame) (h:Fq f):F44 f=some f:=by
 unfold Fq at h
 unfold F44
 rw [nd_cap (by omega) (by omega)]
 rfl
theorem queue_ok (l:List TStored) (hl:l.length <= 1000) (h:Sq l):F71 l=some l:=by
 unfold F71
 have l1:=run_gen (step:=fun s=>F71_L1 l s.1 s.2) (R:=List TStored) l.length (fun i=>(l.take i,(i:Int))) l (fun i hi=>by
   show F71_L1 l (l.take i) i=_
   unfold F71_L1
   have ht:(l.take i).length=i:=by simp;omega
   rw [bif_t (by simp [bLt_eq];omega),need_true (inb_nat hi),Int.toNat_natCast,show F44 _=_ from twin_ok (gd l i).Frame (h _ (gd_mem hi)),Option.bind_some,nd_cap (by omega) (by omega),wr_add1 hi (by omega),take_snoc hi])
  (by show F71_L1 l (l.take l.length) _=_;unfold F71_L1;rw [bif_f (by simp [bLt_eq]),List.take_length])
 replace l1:loopD (fun s=>F71_L1 l s.1 s.2) (([]:List TStored),(0:Int))=some (.inl l):=by simpa using l1
 rw [lp_inl l1]
theorem queue2_ok (l:List TStored) (hl:l.length <= 1000) (h:Sq l):F71_0 l=some l:=queue_ok l hl h
def Nb (b:TBuffer):Prop:=b.List.length <= 1000/\b.Group.length <= 1000/\∀ s ∈ b.List,s.Held.length <= 1000
theorem Nb_of {b:TBuffer} (h:Ng b):Nb b:=⟨by have:=h.1;omega,by have:=h.2.1;omega,fun s hs=>by obtain ⟨i,hi,rfl⟩:=mem_gd hs;have:=h.2.2 i hi;omega⟩
theorem btwinf_ok (gi:Nat) (b:TBuffer) (hg:gi < b.List.length) (hn:Nb b) (h:Bq b):F54f gi b=some b:=by
 obtain ⟨n1,n2,n3⟩:=hn
 unfold F54f F72
 rw [nd_cap (by omega) (by omega),Option.bind_some]
 have l1:=run_gen (step:=fun s=>F54f_L1 b.List s.1 s.2) (R:=TBuffer) b.List.length (fun i=>((i:Int),b.List)) ((b.List.length:Int),b.List) (fun i hi=>by
   show F54f_L1 b.List i b.List=_
   unfold F54f_L1
   rw [bif_t (by simp [bLt_eq];omega),need_true (by simp [bLt_eq];omega),need_true (inb_nat hi),Int.toNat_natCast,queue2_ok _ (n3 _ (gd_mem hi)) (h.2 _ (gd_mem hi)),Option.bind_some,need_true (inb_nat hi),wr_add1 hi (by omega)]
   rw [show b.List.set i _=b.List from set_gd b.List i])
  (by show F54f_L1 b.List _ b.List=_;unfold F54f_L1;rw [bif_f (by simp [bLt_eq])])
 replace l1:loopD (fun s=>F54f_L1 b.List s.1 s.2) ((0:Int),b.List)=some (.inl ((b.List.length:Int),b.List)):=by simpa using l1
 rw [lp_inl l1,need_true (by simp [bLt_eq];omega),need_true (by simp),queue_ok _ n2 h.1]
 rfl
/-! ### The place of a station -/
theorem lastB_eq {b:TBuffer} {i:Nat} (h:0 < i):lastB b i=(gd b.List (i - 1)).Aid:=by unfold lastB;rw [if_neg (by omega)]
theorem aid_lt {b:TBuffer} (h:Vb b):∀ {i j:Nat},i < j->j < b.List.length->(gd b.List i).Aid < (gd b.List j).Aid:=by
 intro i j hij hj
 obtain ⟨d,rfl⟩:∃ d,j=i+1+d:=⟨j - i - 1,by omega⟩
 induction d with
 | zero =>
  have h1:=(h.1.2 (i+1) hj).1
  rw [lastB_eq (by omega)] at h1
  exact h1
 | succ d ih =>
  have h1:=(h.1.2 (i+1+(d+1)) hj).1
  rw [lastB_eq (by omega)] at h1
  have:=ih (by omega) (by omega)
  rw [show i+1+(d+1) - 1=i+1+d from by omega] at h1
  omega
theorem aid_inj {b:TBuffer} (h:Vb b) {i j:Nat} (hi:i < b.List.length) (hj:j < b.List.length) (e:(gd b.List i).Aid=(gd b.List j).Aid):i=j:=by
 rcases Nat.lt_trichotomy i j with q|q|q
 ·have:=aid_lt h q hj;omega
 ·exact q
 ·have:=aid_lt h q hi;omega
end Go.Proofs.Ytnclkplbeenmdaa
