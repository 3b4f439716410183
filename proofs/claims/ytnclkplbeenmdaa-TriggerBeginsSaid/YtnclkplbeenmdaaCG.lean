/-
  What begins: the service period and what stays behind.
-/
import Derived.Test.YtnclkplbeenmdaaCS
namespace Go.Proofs.Ytnclkplbeenmdaa
open Go.Am
set_option linter.unusedVariables false
set_option linter.unusedSimpArgs false
def Tl (d:Int) (q:TStored):Bool:=bEq (andI .u8 (shrI .u8 d q.Cat) 1) 1
def cnt (d:Int) (l:List TStored):Nat:=(l.filter (Tl d)).length
def C0 (l:List TStored):Prop:=∀ q ∈ l,0 <= q.Cat
theorem told_ok (d:Int) (q:TStored) (h:0 <= q.Cat):F56_0 d q=some (Tl d q):=by
 unfold F56_0
 rw [need_true (by simp [bLe_eq,h])]
 rfl
theorem cnt_le (d:Int) (l:List TStored):cnt d l <= l.length:=List.length_filter_le _ _
theorem cnt_0 {d:Int} {l:List TStored}:cnt d l=0 ↔ ∀ j:Nat,j < l.length->Tl d (gd l j)=false:=by
 unfold cnt
 rw [List.length_eq_zero_iff,List.filter_eq_nil_iff]
 constructor
 ·intro h j hj
  have:=h _ (gd_mem hj)
  simpa using this
 ·intro h q hq
  obtain ⟨j,hj,rfl⟩:=mem_gd hq
  simp [h j hj]
theorem del_split {α:Type} [Inhabited α] {l:List α} {k:Nat} (hk:k < l.length):l=l.take k ++ gd l k::l.drop (k+1):=by
 have h:=List.take_append_drop k l
 rw [List.drop_eq_getElem_cons hk,gd_at hk] at h
 exact h.symm
theorem cnt_del {d:Int} {l:List TStored} {k:Nat} (hk:k < l.length) (h:Tl d (gd l k)=true):cnt d (delL l k ((k+1:Nat):Int))+1=cnt d l:=by
 have e:=del_split hk
 have e2:cnt d l=cnt d (l.take k ++ gd l k::l.drop (k+1)):=congrArg (cnt d) e
 rw [e2]
 unfold cnt delL
 simp only [Int.toNat_natCast,List.filter_append,List.filter_cons,h,if_true,List.length_append,List.length_cons]
 omega
theorem any_ok (l:List TStored) (d:Int) (hn:l.length <= 1000) (hc:C0 l):F49_0 l d=some (decide (0 < cnt d l)):=by
 unfold F49_0 F68_0
 obtain ⟨r,l1,l2⟩:=loop_for (step:=fun s=>F68_0_L1 l d s) l.length (fun n=>∀ j:Nat,j < n->Tl d (gd l j)=false)
  (fun r=>match r with|.inl _=>∀ j:Nat,j < l.length->Tl d (gd l j)=false|.inr x=>∃ k:Nat,x=(k:Int)/\k < l.length/\Tl d (gd l k)=true) (fun i hi=>by omega)
  (fun i hi hI=>by
   unfold F68_0_L1
   rw [bif_t (by simp [bLt_eq];omega),need_true (inb_nat hi),Int.toNat_natCast,told_ok _ _ (hc _ (gd_mem hi)),Option.bind_some]
   cases ht:Tl d (gd l i) with
   | true=>exact .inl ⟨_,rfl,i,rfl,hi,ht⟩
   | false =>
    rw [cond_false,wr_add1 hi (by omega)]
    refine .inr ⟨rfl,fun j hj=>?_⟩
    rcases Nat.lt_or_eq_of_le (Nat.le_of_lt_succ hj) with h|rfl
    ·exact hI j h
    ·exact ht)
  (fun hI=>by
   unfold F68_0_L1
   rw [bif_f (by simp [bLt_eq])]
   exact ⟨_,rfl,hI⟩)
 cases r with
 | inl u=>rw [lp_inl l1,cnt_0.2 l2];rfl
 | inr x =>
  obtain ⟨k,rfl,k1,k2⟩:=l2
  rw [lp_inr l1]
  have h:0 < cnt d l:=by
   rcases Nat.eq_zero_or_pos (cnt d l) with h|h
   ·rw [cnt_0.1 h k k1] at k2;cases k2
   ·exact h
  simp [bLe_eq,h]
theorem look_ok (l:List TSleeper) (aid:Int) (hn:l.length <= 1000):(∃ a:Nat,a < l.length/\(gd l a).Aid=aid/\F52_1 l aid=some (a:Int)) ∨ (∀ a:Nat,a < l.length->(gd l a).Aid ≠ aid)/\F52_1 l aid=some (-1):=by
 unfold F52_1
 obtain ⟨r,l1,l2⟩:=loop_for (step:=fun s=>F52_1_L1 l aid s) l.length (fun n=>∀ j:Nat,j < n->(gd l j).Aid ≠ aid)
  (fun r=>match r with|.inl _=>∀ j:Nat,j < l.length->(gd l j).Aid ≠ aid|.inr x=>∃ k:Nat,x=(k:Int)/\k < l.length/\(gd l k).Aid=aid) (fun i hi=>by omega)
  (fun i hi hI=>by
   unfold F52_1_L1 F53_0
   rw [bif_t (by simp [bLt_eq];omega),need_true (inb_nat hi),Int.toNat_natCast,Option.bind_some]
   by_cases hc:(gd l i).Aid=aid
   ·rw [bif_t (by simp [bEq_eq,hc])]
    exact .inl ⟨_,rfl,i,rfl,hi,hc⟩
   ·rw [bif_f (by simp [bEq_eq,hc]),wr_add1 hi (by omega)]
    refine .inr ⟨rfl,fun j hj=>?_⟩
    rcases Nat.lt_or_eq_of_le (Nat.le_of_lt_succ hj) with h|rfl
    ·exact hI j h
    ·exact hc)
  (fun hI=>by
   unfold F52_1_L1
   rw [bif_f (by simp [bLt_eq])]
   exact ⟨_,rfl,hI⟩)
 cases r with
 | inl u=>exact .inr ⟨l2,lp_inl l1⟩
 | inr x=>obtain ⟨k,rfl,k1,k2⟩:=l2;exact .inl ⟨k,k1,k2,lp_inr l1⟩
def e1 (f:TFrame):TFrame:=TFrame.mk {f.Head with Eosp:=true} f.Body
def m1 (f:TFrame) (m:Bool):TFrame:=TFrame.mk {f.Head with MoreData:=m} f.Body
end Go.Proofs.Ytnclkplbeenmdaa
