/-
  The reference of the sleepers' buffer: what is valid, and the opening of a step.
-/
import Derived.Test.YtefiemaoacmdkaaRA
namespace Go.Proofs.Ytefiemaoacmdkaa
open Go.Am
set_option linter.unusedVariables false
set_option linter.unusedSimpArgs false
theorem vq_ok (l:List TStored) (lim top:Int) (hn:l.length <= 1000) (hc:Cb l):F48 l lim top=F46 l lim top:=by
 unfold F48 F46
 congr 1
 have:∀ s:Int,0 <= s->F48_L1 l top s=uU l top s:=fun s hs=>by
  obtain ⟨i,rfl⟩:=Int.eq_ofNat_of_zero_le hs
  unfold F48_L1 uU F61 F87
  by_cases hi:i < l.length
  ·have:=hc i hi
   rw [Int.toNat_natCast,wr_in (x:=(gd l i).Cat) (by omega),inb_nat hi]
   simp only [Option.isSome_some,Bool.cond_self,need_true]
  ·have e:bLt (i:Int) (l.length:Nat)=false:=by simp [bLt_eq];omega
   rw [e]
   rfl
 have key:loopD (fun s=>F48_L1 l top s) 0=loopD (fun s=>uU l top s) 0:=by
  obtain ⟨b,b1,b2⟩:=loop_for (step:=fun s=>F48_L1 l top s) l.length (fun n=>loopD (fun s=>uU l top s) (n:Int)=loopD (fun s=>uU l top s) 0) (fun b=>loopD (fun s=>uU l top s) 0=some b) rfl
   (fun i hi hI=>by
    have e:=this (i:Int) (by omega)
    have:(∃ b,uU l top (i:Int)=some (.done b)) ∨ uU l top (i:Int)=some (.next ((i+1:Nat):Int)):=by
     unfold uU F61
     rw [bif_t (by simp [bLt_eq];omega),need_true (inb_nat hi),wr_add1 hi (by omega)]
     simp only [Option.isSome_some,Bool.cond_self,need_true,gt_some]
     by_cases h0:0 < i
     ·rw [pre_nat hi hn h0,need_true (by rw [inb_nat (show i - 1 < l.length by omega)];simp)]
      generalize (_ || _)=c
      cases c with
      | true=>exact .inl ⟨_,rfl⟩
      | false=>exact .inr rfl
     ·have a4:bLt 0 (i:Int)=false:=by simp [bLt_eq];omega
      rw [a4,need_true (by simp)]
      generalize (_ || _)=c
      cases c with
      | true=>exact .inl ⟨_,rfl⟩
      | false=>exact .inr rfl
    rcases this with ⟨b,h⟩|h
    ·exact .inl ⟨b,e.trans h,by rw [← hI];exact fF h⟩
    ·exact .inr ⟨e.trans h,by rw [← hI];exact (loopD_next h).symm⟩)
   (fun hI=>by
    have e:=this (l.length:Int) (by omega)
    have h:uU l top (l.length:Int)=some (.done (.inl ())):=by
     unfold uU
     rw [bif_f (by simp [bLt_eq])]
    exact ⟨_,e.trans h,by rw [← hI];exact fF h⟩)
  rw [b1,b2]
 rw [key]
theorem rvalid_ok (b:TBuffer) (hg:Ng b) (hc:Cb b.Group/\∀ i:Nat,i < b.List.length->Cb (gd b.List i).Held):∃ r,F19 b=some r/\(r=true ↔ Vb b):=by
 obtain ⟨g1,g2,g3⟩:=hg
 obtain ⟨c1,c2⟩:=hc
 unfold F19
 obtain ⟨q,q1,q2⟩:=cq_ok b.Group b.Limit 0 (by omega)
 obtain ⟨a,a1,a2⟩:=raslp_ok b (by omega)
 rw [vq_ok b.Group b.Limit 0 (by omega) c1,q1,a1]
 simp only [Option.isSome_some,Bool.cond_self,need_true,gt_some]
 have e:((((((bLt b.Limit 1) || (bLt 64 b.Limit)) || (bLt b.Stay 1)) || (bLt 1073741824 b.Stay)) || (bLt 32 (b.List.length:Nat))) || (!q))=false ↔ Hb b/\Qu b.Group b.Limit 0:=by
  simp only [Bool.or_eq_false_iff,Bool.not_eq_false',q2,Hb,bLt_eq,decide_eq_false_iff_not]
  constructor
  ·rintro ⟨⟨⟨⟨⟨x1,x2⟩,x3⟩,x4⟩,x5⟩,x6⟩;exact ⟨⟨by omega,by omega,by omega⟩,x6⟩
  ·rintro ⟨⟨⟨x1,x2⟩,⟨x3,x4⟩,x5⟩,x6⟩;exact ⟨⟨⟨⟨⟨by omega,by omega⟩,by omega⟩,by omega⟩,by omega⟩,x6⟩
 cases hh:((((((bLt b.Limit 1) || (bLt 64 b.Limit)) || (bLt b.Stay 1)) || (bLt 1073741824 b.Stay)) || (bLt 32 (b.List.length:Nat))) || (!q)) with
 | true=>exact ⟨_,rfl,fun h=>(by cases h),fun h=>by rw [e.2 ⟨h.1.1,h.2.1⟩] at hh;cases hh⟩
 | false =>
  obtain ⟨e1,e2⟩:=e.1 hh
  rw [cond_false]
  obtain ⟨r,l1,l2⟩:=loop_for (step:=fun s=>F19_L1 b s) b.List.length (fun n=>∀ j:Nat,j < n->Pe b j) (fun r=>match r with|.inl _=>∀ j:Nat,j < b.List.length->Pe b j|.inr x=>x=false/\¬ ∀ j:Nat,j < b.List.length->Pe b j) (fun i hi=>by omega)
   (fun i hi hI=>by
    have pos:=aid_pos hI
    obtain ⟨q,q1,q2⟩:=cq_ok (gd b.List i).Held b.Limit 3 (by have:=g3 i hi;omega)
    unfold F19_L1
    rw [bif_t (by simp [bLt_eq];omega),need_true (inb_nat hi),Int.toNat_natCast,vq_ok _ _ _ (by have:=g3 i hi;omega) (c2 i hi),q1]
    simp only [Option.isSome_some,Bool.cond_self,need_true,gt_some]
    rw [wr_add1 hi (by omega)]
    have fin:∀ c:Bool,(c=false ↔ Pe b i)->(∃ x,(bif c then some (Lp.done (.inr false)) else some (.next ((i+1:Nat):Int)):Option (Lp Int (Unit ⊕ Bool)))=some (.done x)/\(match x with|.inl _=>∀ j:Nat,j < b.List.length->Pe b j|.inr x=>x=false/\¬ ∀ j:Nat,j < b.List.length->Pe b j)) ∨ ((bif c then some (Lp.done (.inr false)) else some (.next ((i+1:Nat):Int)):Option (Lp Int (Unit ⊕ Bool)))=some (.next ((i+1:Nat):Int))/\∀ j:Nat,j < i+1->Pe b j):=fun c hc=>by
     cases c with
     | true=>exact .inl ⟨_,rfl,rfl,fun h=>by have:=hc.2 (h i hi);cases this⟩
     | false =>
      refine .inr ⟨rfl,fun j hj=>?_⟩
      rcases Nat.lt_or_eq_of_le (Nat.le_of_lt_succ hj) with h|rfl
      ·exact hI j h
      ·exact hc.1 rfl
    have hz:((0:Int) < (((gd b.List i).Held.length:Nat):Int)) ↔ ¬ (gd b.List i).Held.length=0:=by omega
    by_cases h0:0 < i
    ·rw [pre_nat hi (by omega) h0,Int.toNat_natCast,need_true (by rw [inb_nat (show i - 1 < b.List.length by omega)];simp)]
     refine fin _ ?_
     have hla:fE b i=(gd b.List (i - 1)).Aid:=by unfold fE;rw [if_neg (by omega)]
     have a4:bLt 0 (i:Int)=true:=by simp [bLt_eq];omega
     rw [a4]
     unfold Pe
     rw [hla] at pos ⊢
     simp only [Bool.or_eq_false_iff,Bool.and_eq_false_iff,Bool.not_eq_false',q2,bLt_eq,bLe_eq,decide_eq_false_iff_not,Bool.true_and,hz,Decidable.not_not]
     constructor
     ·rintro ⟨⟨⟨⟨x1,x2⟩,x3⟩,x4⟩,x5⟩;exact ⟨by omega,by omega,x4,x5⟩
     ·rintro ⟨x1,x2,x3,x4⟩;exact ⟨⟨⟨⟨by omega,by omega⟩,by omega⟩,x3⟩,x4⟩
    ·obtain rfl:i=0:=by omega
     have a4:bLt 0 ((0:Nat):Int)=false:=rfl
     rw [a4,need_true (by simp)]
     refine fin _ ?_
     unfold Pe
     have hla:fE b 0=0:=rfl
     rw [hla]
     simp only [Bool.or_eq_false_iff,Bool.and_eq_false_iff,Bool.not_eq_false',q2,bLt_eq,bLe_eq,decide_eq_false_iff_not,Bool.false_and,hz,Decidable.not_not]
     constructor
     ·rintro ⟨⟨⟨⟨x1,x2⟩,x3⟩,x4⟩,x5⟩;exact ⟨by omega,by omega,x4,x5⟩
     ·rintro ⟨x1,x2,x3,x4⟩;exact ⟨⟨⟨⟨by omega,by omega⟩,trivial⟩,x3⟩,x4⟩)
   (fun hI=>by
    unfold F19_L1
    rw [bif_f (by simp [bLt_eq])]
    exact ⟨_,rfl,hI⟩)
  cases r with
  | inl u =>
   rw [lp_inl l1]
   refine ⟨_,rfl,?_⟩
   simp only [Bool.or_eq_true,bEq_eq,decide_eq_true_eq,a2,Vb]
   have:(((b.Group.length:Nat):Int)=0 ↔ b.Group.length=0):=by omega
   simp only [this]
   exact ⟨fun h=>⟨⟨e1,l2⟩,e2,h⟩,fun h=>h.2.2⟩
  | inr x=>rw [lp_inr l1];obtain ⟨rfl,h⟩:=l2;exact ⟨_,rfl,fun h=>(by cases h),fun h'=>absurd h'.1.2 h⟩
def Ub (b:TBuffer):Prop:=Cb b.Group/\∀ i:Nat,i < b.List.length->Cb (gd b.List i).Held
theorem valid_eq (b:TBuffer) (hg:Ng b) (hc:Ub b):(Vb b/\F18 b=some 0/\F19 b=some true) ∨ (¬ Vb b/\F18 b=some 8/\F19 b=some false):=by
 obtain ⟨r,r1,r2⟩:=rvalid_ok b hg hc
 rcases check_ok b hg with ⟨h,e⟩|⟨h,e⟩
 ·exact .inl ⟨h,e,by rw [r1,r2.2 h]⟩
 ·refine .inr ⟨h,e,?_⟩
  cases r with
  | true=>exact absurd (r2.1 rfl) h
  | false=>exact r1
theorem open_eq (b:TBuffer) (aid:Int) (hg:Ng b) (hc:Ub b) :
  (¬ Vb b/\F18 b=some 8/\F95 b aid=some (0,8)) ∨
  Vb b/\F18 b=some 0/\((aid < 1 ∨ 255 < aid)/\F95 b aid=some (0,2) ∨
   (1 <= aid/\aid <= 255)/\((∃ a:Nat,a < b.List.length/\(gd b.List a).Aid=aid/\F81 b aid=some ((a:Int),true)/\F95 b aid=some ((a:Int),0)) ∨
    (∃ a:Nat,Pl b aid a/\F81 b aid=some ((a:Int),false))/\(∀ i:Nat,i < b.List.length->(gd b.List i).Aid ≠ aid)/\F95 b aid=some (0,6))):=by
 have g1:=hg.1
 unfold F95
 rcases valid_eq b hg hc with ⟨h,c,v⟩|⟨h,c,v⟩
 ·refine .inr ⟨h,c,?_⟩
  rw [v,Option.bind_some,bif_f (by rfl)]
  by_cases ha:1 <= aid/\aid <= 255
  ·refine .inr ⟨ha,?_⟩
   rw [bif_f (by simp [bLt_eq];omega)]
   obtain ⟨p,P,pe⟩:=place_ok b hg h aid (by omega)
   rcases find_ok b aid (by omega) with ⟨a,a1,a2,a3,a4⟩|⟨a1,a2⟩
   ·refine .inl ⟨a,a1,a2,?_,by rw [a4,Option.bind_some,bif_f (by simp [bLt_eq])]⟩
    rcases Pl_at h P with q|⟨_,q⟩
    ·rw [pe,aid_inj h q.1 a1 (q.2.trans a2.symm)];simp [a1,a2]
    ·exact absurd a2 (q a a1)
   ·refine .inr ⟨⟨p,P,by rw [pe];simp;intro h1;exact a1 p h1⟩,a1,by rw [a2,Option.bind_some,bif_t (by rfl)]⟩
  ·refine .inl ⟨by omega,?_⟩
   rw [bif_t (by simp [bLt_eq];omega)]
 ·exact .inl ⟨h,c,by rw [v,Option.bind_some,bif_t (by rfl)]⟩
end Go.Proofs.Ytefiemaoacmdkaa
