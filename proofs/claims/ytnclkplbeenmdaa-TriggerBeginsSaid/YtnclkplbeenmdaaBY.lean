/-
  When a buffer is valid: the reference's check.
-/
import Derived.Test.YtnclkplbeenmdaaBX
namespace Go.Proofs.Ytnclkplbeenmdaa
open Go.Am
set_option linter.unusedVariables false
set_option linter.unusedSimpArgs false
theorem vq_ok (l:List TStored) (lim top:Int) (hn:l.length <= 1000) (hc:Cb l):F69 l lim top=F60 l lim top:=by
 unfold F69 F60
 congr 1
 have:∀ s:Int,0 <= s->F69_L1 l top s=F60_L1 l top s:=fun s hs=>by
  obtain ⟨i,rfl⟩:=Int.eq_ofNat_of_zero_le hs
  unfold F69_L1 F60_L1 F74 F80
  by_cases hi:i < l.length
  ·have:=hc i hi
   rw [Int.toNat_natCast,wr_in (x:=(gd l i).Cat) (by omega),inb_nat hi]
   simp only [Option.isSome_some,Bool.cond_self,need_true]
  ·have e:bLt (i:Int) (l.length:Nat)=false:=by simp [bLt_eq];omega
   rw [e]
   rfl
 have key:loopD (fun s=>F69_L1 l top s) 0=loopD (fun s=>F60_L1 l top s) 0:=by
  obtain ⟨b,b1,b2⟩:=loop_for (step:=fun s=>F69_L1 l top s) l.length (fun n=>loopD (fun s=>F60_L1 l top s) (n:Int)=loopD (fun s=>F60_L1 l top s) 0) (fun b=>loopD (fun s=>F60_L1 l top s) 0=some b) rfl
   (fun i hi hI=>by
    have e:=this (i:Int) (by omega)
    have:(∃ b,F60_L1 l top (i:Int)=some (.done b)) ∨ F60_L1 l top (i:Int)=some (.next ((i+1:Nat):Int)):=by
     unfold F60_L1 F74
     rw [bif_t (by simp [bLt_eq];omega),need_true (inb_nat hi),wr_add1 hi (by omega)]
     simp only [Option.isSome_some,Bool.cond_self,need_true,gt_some]
     by_cases h0:0 < i
     ·rw [pre_nat hi hn h0,need_true (by rw [inb_nat (show i - 1 < l.length by omega)];simp)]
      generalize (_ || _)=c
      cases c with
      | true=>exact .inl ⟨_,rfl⟩
      | false=>exact .inr rfl
     ·have a4:bLt 0 (i:Int)=false:=by simp [bLt_eq];omega
      rw [a4,need_true (by simp)]
      generalize (_ || _)=c
      cases c with
      | true=>exact .inl ⟨_,rfl⟩
      | false=>exact .inr rfl
    rcases this with ⟨b,h⟩|h
    ·exact .inl ⟨b,e.trans h,by rw [← hI];exact loopD_done h⟩
    ·exact .inr ⟨e.trans h,by rw [← hI];exact (loopD_next h).symm⟩)
   (fun hI=>by
    have e:=this (l.length:Int) (by omega)
    have h:F60_L1 l top (l.length:Int)=some (.done (.inl ())):=by
     unfold F60_L1
     rw [bif_f (by simp [bLt_eq])]
    exact ⟨_,e.trans h,by rw [← hI];exact loopD_done h⟩)
  rw [b1,b2]
 rw [key]
theorem raslp_ok (b:TBuffer) (hn:b.List.length <= 1000):∃ r,F70 b=some r/\(r=true ↔ Asl b):=by
 unfold F70
 obtain ⟨r,l1,l2⟩:=loop_for (step:=fun s=>F70_L1 b s) b.List.length (fun n=>∀ i:Nat,i < n->(gd b.List i).Asleep=false) (fun r=>match r with|.inl _=>¬ Asl b|.inr k=>k=true/\Asl b) (fun i hi=>by omega)
  (fun i hi hI=>by
   unfold F70_L1
   rw [bif_t (by simp [bLt_eq];omega),need_true (inb_nat hi),Int.toNat_natCast]
   cases ha:(gd b.List i).Asleep with
   | true=>exact .inl ⟨_,rfl,rfl,i,hi,ha⟩
   | false =>
    rw [cond_false,wr_add1 hi (by omega)]
    refine .inr ⟨rfl,fun j hj=>?_⟩
    rcases Nat.lt_or_eq_of_le (Nat.le_of_lt_succ hj) with h|rfl
    ·exact hI j h
    ·exact ha)
  (fun hI=>by
   unfold F70_L1
   rw [bif_f (by simp [bLt_eq])]
   exact ⟨_,rfl,fun ⟨i,h1,h2⟩=>by rw [hI i h1] at h2;cases h2⟩)
 cases r with
 | inl u=>rw [lp_inl l1];exact ⟨_,rfl,fun h=>(by cases h),fun h=>absurd h l2⟩
 | inr k=>rw [lp_inr l1];obtain ⟨rfl,h⟩:=l2;exact ⟨_,rfl,fun _=>h,fun _=>rfl⟩
theorem valid_ok (b:TBuffer) (hg:Ng b) (hc:Cb b.Group/\∀ i:Nat,i < b.List.length->Cb (gd b.List i).Held):∃ r,F50 b=some r/\(r=true ↔ Vb b):=by
 obtain ⟨g1,g2,g3⟩:=hg
 obtain ⟨c1,c2⟩:=hc
 unfold F50
 obtain ⟨q,q1,q2⟩:=cq_ok b.Group b.Limit 0 (by omega)
 obtain ⟨a,a1,a2⟩:=raslp_ok b (by omega)
 rw [vq_ok b.Group b.Limit 0 (by omega) c1,q1,a1]
 simp only [Option.isSome_some,Bool.cond_self,need_true,gt_some]
 have e:((((((bLt b.Limit 1) || (bLt 64 b.Limit)) || (bLt b.Stay 1)) || (bLt 1073741824 b.Stay)) || (bLt 32 (b.List.length:Nat))) || (!q))=false ↔ Hb b/\Qu b.Group b.Limit 0:=by
  simp only [Bool.or_eq_false_iff,Bool.not_eq_false',q2,Hb,bLt_eq,decide_eq_false_iff_not]
  constructor
  ·rintro ⟨⟨⟨⟨⟨x1,x2⟩,x3⟩,x4⟩,x5⟩,x6⟩;exact ⟨⟨by omega,by omega,by omega⟩,x6⟩
  ·rintro ⟨⟨⟨x1,x2⟩,⟨x3,x4⟩,x5⟩,x6⟩;exact ⟨⟨⟨⟨⟨by omega,by omega⟩,by omega⟩,by omega⟩,by omega⟩,x6⟩
 cases hh:((((((bLt b.Limit 1) || (bLt 64 b.Limit)) || (bLt b.Stay 1)) || (bLt 1073741824 b.Stay)) || (bLt 32 (b.List.length:Nat))) || (!q)) with
 | true=>exact ⟨_,rfl,fun h=>(by cases h),fun h=>by rw [e.2 ⟨h.1.1,h.2.1⟩] at hh;cases hh⟩
 | false =>
  obtain ⟨e1,e2⟩:=e.1 hh
  rw [cond_false]
  obtain ⟨r,l1,l2⟩:=loop_for (step:=fun s=>F50_L1 b s) b.List.length (fun n=>∀ j:Nat,j < n->Pe b j) (fun r=>match r with|.inl _=>∀ j:Nat,j < b.List.length->Pe b j|.inr x=>x=false/\¬ ∀ j:Nat,j < b.List.length->Pe b j) (fun i hi=>by omega)
   (fun i hi hI=>by
    have pos:=aid_pos hI
    obtain ⟨q,q1,q2⟩:=cq_ok (gd b.List i).Held b.Limit 3 (by have:=g3 i hi;omega)
    unfold F50_L1
    rw [bif_t (by simp [bLt_eq];omega),need_true (inb_nat hi),Int.toNat_natCast,vq_ok _ _ _ (by have:=g3 i hi;omega) (c2 i hi),q1]
    simp only [Option.isSome_some,Bool.cond_self,need_true,gt_some]
    rw [wr_add1 hi (by omega)]
    have fin:∀ c:Bool,(c=false ↔ Pe b i)->(∃ x,(bif c then some (Lp.done (.inr false)) else some (.next ((i+1:Nat):Int)):Option (Lp Int (Unit ⊕ Bool)))=some (.done x)/\(match x with|.inl _=>∀ j:Nat,j < b.List.length->Pe b j|.inr x=>x=false/\¬ ∀ j:Nat,j < b.List.length->Pe b j)) ∨ ((bif c then some (Lp.done (.inr false)) else some (.next ((i+1:Nat):Int)):Option (Lp Int (Unit ⊕ Bool)))=some (.next ((i+1:Nat):Int))/\∀ j:Nat,j < i+1->Pe b j):=fun c hc=>by
     cases c with
     | true=>exact .inl ⟨_,rfl,rfl,fun h=>by have:=hc.2 (h i hi);cases this⟩
     | false =>
      refine .inr ⟨rfl,fun j hj=>?_⟩
      rcases Nat.lt_or_eq_of_le (Nat.le_of_lt_succ hj) with h|rfl
      ·exact hI j h
      ·exact hc.1 rfl
    have hz:((0:Int) < (((gd b.List i).Held.length:Nat):Int)) ↔ ¬ (gd b.List i).Held.length=0:=by omega
    by_cases h0:0 < i
    ·rw [pre_nat hi (by omega) h0,Int.toNat_natCast,need_true (by rw [inb_nat (show i - 1 < b.List.length by omega)];simp)]
     refine fin _ ?_
     have hla:lastB b i=(gd b.List (i - 1)).Aid:=by unfold lastB;rw [if_neg (by omega)]
     have a4:bLt 0 (i:Int)=true:=by simp [bLt_eq];omega
     rw [a4]
     unfold Pe
     rw [hla] at pos ⊢
     simp only [Bool.or_eq_false_iff,Bool.and_eq_false_iff,Bool.not_eq_false',q2,bLt_eq,bLe_eq,decide_eq_false_iff_not,Bool.true_and,hz,Decidable.not_not]
     constructor
     ·rintro ⟨⟨⟨⟨x1,x2⟩,x3⟩,x4⟩,x5⟩;exact ⟨by omega,by omega,x4,x5⟩
     ·rintro ⟨x1,x2,x3,x4⟩;exact ⟨⟨⟨⟨by omega,by omega⟩,by omega⟩,x3⟩,x4⟩
    ·obtain rfl:i=0:=by omega
     have a4:bLt 0 ((0:Nat):Int)=false:=rfl
     rw [a4,need_true (by simp)]
     refine fin _ ?_
     unfold Pe
     have hla:lastB b 0=0:=rfl
     rw [hla]
     simp only [Bool.or_eq_false_iff,Bool.and_eq_false_iff,Bool.not_eq_false',q2,bLt_eq,bLe_eq,decide_eq_false_iff_not,Bool.false_and,hz,Decidable.not_not]
     constructor
     ·rintro ⟨⟨⟨⟨x1,x2⟩,x3⟩,x4⟩,x5⟩;exact ⟨by omega,by omega,x4,x5⟩
     ·rintro ⟨x1,x2,x3,x4⟩;exact ⟨⟨⟨⟨by omega,by omega⟩,trivial⟩,x3⟩,x4⟩)
   (fun hI=>by
    unfold F50_L1
    rw [bif_f (by simp [bLt_eq])]
    exact ⟨_,rfl,hI⟩)
  cases r with
  | inl u =>
   rw [lp_inl l1]
   refine ⟨_,rfl,?_⟩
   simp only [Bool.or_eq_true,bEq_eq,decide_eq_true_eq,a2,Vb]
   have:(((b.Group.length:Nat):Int)=0 ↔ b.Group.length=0):=by omega
   simp only [this]
   exact ⟨fun h=>⟨⟨e1,l2⟩,e2,h⟩,fun h=>h.2.2⟩
  | inr x=>rw [lp_inr l1];obtain ⟨rfl,h⟩:=l2;exact ⟨_,rfl,fun h=>(by cases h),fun h'=>absurd h'.1.2 h⟩
end Go.Proofs.Ytnclkplbeenmdaa
