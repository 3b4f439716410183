/-
  When a buffer is valid: the check.
-/
import Derived.Test.YtefiemaoacmdkaaLW
import Derived.Test.YtefiemaoacmdkaaLK
namespace Go.Proofs.Ytefiemaoacmdkaa
open Go.Am
set_option linter.unusedVariables false
set_option linter.unusedSimpArgs false
theorem pre_nat {i n:Nat} (hi:i < n) (hn:n <= 1000) (h0:0 < i):wr .i64 ((i:Int) - 1)=((i - 1:Nat):Int):=by rw [wr_in (by omega)];omega
def Fq (f:TFrame):Prop:=f.Body.length <= 2400
def Sq (l:List TStored):Prop:=∀ q ∈ l,Fq q.Frame
def Bq (b:TBuffer):Prop:=Sq b.Group/\∀ s ∈ b.List,Sq s.Held
theorem gq_ok (l:List TStored):∃ r,F43 l=some r/\(r=false->l.length <= 70/\Sq l):=by
 unfold F43
 by_cases h:l.length <= 70
 ·rw [bif_f (by simp [bLt_eq];omega)]
  obtain ⟨b,l1,l2⟩:=loop_for (step:=fun s=>F43_L1 l s) l.length (fun n=>∀ i:Nat,i < n->Fq (gd l i).Frame) (fun r=>match r with|.inl _=>Sq l|.inr x=>x=true) (fun i hi=>by omega)
   (fun i hi hI=>by
    unfold F43_L1 F44
    rw [bif_t (by simp [bLt_eq];omega),need_true (inb_nat hi),Option.bind_some]
    cases hb:bLt 2400 (((gd l ((i:Int)).toNat).Frame).Body.length:Nat) with
    | true=>exact .inl ⟨_,rfl,rfl⟩
    | false =>
     rw [cond_false,wr_add1 hi (by omega)]
     refine .inr ⟨rfl,fun j hj=>?_⟩
     rcases Nat.lt_or_eq_of_le (Nat.le_of_lt_succ hj) with h|rfl
     ·exact hI j h
     ·simp [bLt_eq] at hb;unfold Fq;omega)
   (fun hI=>by
    unfold F43_L1
    rw [bif_f (by simp [bLt_eq])]
    exact ⟨_,rfl,fun q hq=>by obtain ⟨i,hi,rfl⟩:=mem_gd hq;exact hI i hi⟩)
  cases b with
  | inl u=>exact ⟨_,lp_inl l1,fun _=>⟨h,l2⟩⟩
  | inr r=>exact ⟨_,lp_inr l1,fun q=>by rw [show r=true from l2] at q;cases q⟩
 ·rw [bif_t (by simp [bLt_eq];omega)]
  exact ⟨_,rfl,fun h=>by cases h⟩
def Ng (b:TBuffer):Prop:=b.List.length <= 40/\b.Group.length <= 70/\∀ i:Nat,i < b.List.length->(gd b.List i).Held.length <= 70
theorem great_ok (b:TBuffer) (f:TFrame):∃ r,F11 b f=some r/\(r=false->Ng b/\Bq b/\Fq f):=by
 obtain ⟨g,g1,g2⟩:=gq_ok b.Group
 unfold F11
 rw [g1]
 unfold F44
 simp only [Option.isSome_some,gt_some,Bool.cond_self]
 rw [need_true rfl,need_true rfl]
 by_cases h:b.List.length <= 40
 ·have e:bLt 40 (b.List.length:Nat)=false:=by simp [bLt_eq];omega
  rw [e,Bool.false_or]
  cases hc:(g || bLt 2400 (f.Body.length:Nat)) with
  | true=>exact ⟨_,rfl,fun h=>by cases h⟩
  | false =>
   have hg:g=false:=by cases g with|true=>cases hc|false=>rfl
   rw [cond_false]
   obtain ⟨r,l1,l2⟩:=loop_for (step:=fun s=>F11_L1 b s) b.List.length (fun n=>∀ i:Nat,i < n->(gd b.List i).Held.length <= 70/\Sq (gd b.List i).Held) (fun r=>match r with|.inl _=>Ng b/\Bq b/\Fq f|.inr x=>x=true) (fun i hi=>by omega)
    (fun i hi hI=>by
     unfold F11_L1
     obtain ⟨q,q1,q2⟩:=gq_ok (gd b.List i).Held
     rw [bif_t (by simp [bLt_eq];omega),need_true (inb_nat hi),Int.toNat_natCast,q1,Option.bind_some]
     cases q with
     | true=>exact .inl ⟨_,rfl,rfl⟩
     | false =>
      rw [cond_false,wr_add1 hi (by omega)]
      refine .inr ⟨rfl,fun j hj=>?_⟩
      rcases Nat.lt_or_eq_of_le (Nat.le_of_lt_succ hj) with h|rfl
      ·exact hI j h
      ·exact q2 rfl)
    (fun hI=>by
     unfold F11_L1
     rw [bif_f (by simp [bLt_eq])]
     exact ⟨_,rfl,⟨h,(g2 hg).1,fun i hi=>(hI i hi).1⟩,⟨(g2 hg).2,fun s hs=>by obtain ⟨i,hi,rfl⟩:=mem_gd hs;exact (hI i hi).2⟩,by
      rw [hg] at hc;simp [bLt_eq] at hc;unfold Fq;omega⟩)
   cases r with
   | inl u=>exact ⟨_,lp_inl l1,fun _=>l2⟩
   | inr x=>exact ⟨_,lp_inr l1,fun h=>by rw [show x=true from l2] at h;cases h⟩
 ·have e:bLt 40 (b.List.length:Nat)=true:=by simp [bLt_eq];omega
  rw [e,Bool.true_or,Bool.true_or]
  exact ⟨_,rfl,fun h=>by cases h⟩
def Qe (l:List TStored) (top:Int) (i:Nat):Prop:=(gd l i).Cat <= top/\(0 <= (gd l i).At/\(gd l i).At <= 1099511627776)/\(0 < i->(gd l (i - 1)).At <= (gd l i).At)
def Qu (l:List TStored) (lim top:Int):Prop:=(l.length:Int) <= lim/\∀ i:Nat,i < l.length->Qe l top i
theorem cq_ok (l:List TStored) (lim top:Int) (hn:l.length <= 1000):∃ b,F46 l lim top=some b/\(b=true ↔ Qu l lim top):=by
 unfold F46
 by_cases hl:(l.length:Int) <= lim
 ·rw [bif_f (by simp [bLt_eq];omega)]
  obtain ⟨b,l1,l2⟩:=loop_for (step:=fun s=>uU l top s) l.length (fun n=>∀ i:Nat,i < n->Qe l top i)
   (fun b=>match b with|.inl _=>Qu l lim top|.inr r=>r=false/\¬ Qu l lim top) (fun i hi=>by omega)
   (fun i hi hI=>by
    unfold uU F61
    rw [bif_t (by simp [bLt_eq];omega),need_true (inb_nat hi),Int.toNat_natCast]
    simp only [Option.isSome_some,gt_some,Bool.cond_self]
    rw [need_true rfl]
    by_cases hq:Qe l top i
    ·have hq':=hq
     obtain ⟨q1,⟨q2,q3⟩,q4⟩:=hq
     have a1:bLt top (gd l i).Cat=false:=by simp [bLt_eq];omega
     have a2:(bLe 0 (gd l i).At && bLe (gd l i).At 1099511627776)=true:=by simp [bLe_eq,q2,q3]
     have nx:∀ j:Nat,j < i+1->Qe l top j:=fun j hj=>by
      rcases Nat.lt_or_eq_of_le (Nat.le_of_lt_succ hj) with h|rfl
      ·exact hI j h
      ·exact hq'
     rw [a1,a2,wr_add1 hi (by omega)]
     by_cases h0:0 < i
     ·have a3:bLt (gd l i).At (gd l (i - 1)).At=false:=by have:=q4 h0;simp [bLt_eq];omega
      rw [pre_nat hi hn h0,Int.toNat_natCast,need_true (by rw [inb_nat (show i - 1 < l.length by omega)];simp),a3,bif_f (by simp)]
      exact .inr ⟨rfl,nx⟩
     ·have a4:bLt 0 (i:Int)=false:=by simp [bLt_eq];omega
      rw [a4,need_true (by simp),bif_f (by simp)]
      exact .inr ⟨rfl,nx⟩
    ·have no:¬ Qu l lim top:=fun h=>hq (h.2 i hi)
     by_cases h0:0 < i
     ·rw [pre_nat hi hn h0,Int.toNat_natCast,need_true (by rw [inb_nat (show i - 1 < l.length by omega)];simp),bif_t (by
       have a4:bLt 0 (i:Int)=true:=by simp [bLt_eq];omega
       rw [a4]
       unfold Qe at hq
       simp [bLt_eq,bLe_eq]
       omega)]
      exact .inl ⟨_,rfl,rfl,no⟩
     ·have a4:bLt 0 (i:Int)=false:=by simp [bLt_eq];omega
      rw [a4,need_true (by simp),bif_t (by
       unfold Qe at hq
       simp [bLt_eq,bLe_eq]
       omega)]
      exact .inl ⟨_,rfl,rfl,no⟩)
   (fun hI=>by
    unfold uU
    rw [bif_f (by simp [bLt_eq])]
    exact ⟨_,rfl,hl,hI⟩)
  cases b with
  | inl u=>exact ⟨_,lp_inl l1,fun _=>l2,fun _=>rfl⟩
  | inr r=>obtain ⟨rfl,h⟩:=l2;exact ⟨_,lp_inr l1,fun h=>(by cases h),fun h'=>absurd h' h⟩
 ·rw [bif_t (by simp [bLt_eq];omega)]
  exact ⟨_,rfl,fun h=>(by cases h),fun h=>absurd h.1 hl⟩
def Cb (l:List TStored):Prop:=∀ i:Nat,i < l.length->0 <= (gd l i).Cat/\(gd l i).Cat <= 255
def Asl (b:TBuffer):Prop:=∃ i:Nat,i < b.List.length/\(gd b.List i).Asleep=true
theorem aslp_ok (b:TBuffer) (hn:b.List.length <= 1000):∃ r,F47 b=some r/\(r=true ↔ Asl b):=by
 unfold F47 F85_0 F106_0
 obtain ⟨r,l1,l2⟩:=loop_for (step:=fun s=>gF b.List s) b.List.length (fun n=>∀ i:Nat,i < n->(gd b.List i).Asleep=false) (fun r=>match r with|.inl _=>¬ Asl b|.inr k=>0 <= k/\Asl b) (fun i hi=>by omega)
  (fun i hi hI=>by
   unfold gF F86
   rw [bif_t (by simp [bLt_eq];omega),need_true (inb_nat hi),Int.toNat_natCast,Option.bind_some]
   cases ha:(gd b.List i).Asleep with
   | true=>exact .inl ⟨_,rfl,by omega,i,hi,ha⟩
   | false =>
    rw [cond_false,wr_add1 hi (by omega)]
    refine .inr ⟨rfl,fun j hj=>?_⟩
    rcases Nat.lt_or_eq_of_le (Nat.le_of_lt_succ hj) with h|rfl
    ·exact hI j h
    ·exact ha)
  (fun hI=>by
   unfold gF
   rw [bif_f (by simp [bLt_eq])]
   exact ⟨_,rfl,fun ⟨i,h1,h2⟩=>by rw [hI i h1] at h2;cases h2⟩)
 cases r with
 | inl u=>rw [lp_inl l1];exact ⟨_,rfl,fun h=>by simp [bLe_eq] at h,fun h=>absurd h l2⟩
 | inr k=>rw [lp_inr l1];exact ⟨_,rfl,fun _=>l2.2,fun _=>by simp [bLe_eq];exact l2.1⟩
def fE (b:TBuffer) (i:Nat):Int:=if i=0 then 0 else (gd b.List (i - 1)).Aid
def Hb (b:TBuffer):Prop:=(1 <= b.Limit/\b.Limit <= 64)/\(1 <= b.Stay/\b.Stay <= 1073741824)/\b.List.length <= 32
def Pe (b:TBuffer) (i:Nat):Prop:=fE b i < (gd b.List i).Aid/\(gd b.List i).Aid <= 255/\Qu (gd b.List i).Held b.Limit 3/\((gd b.List i).Asleep=true ∨ (gd b.List i).Held.length=0)
def Vb (b:TBuffer):Prop:=(Hb b/\∀ i:Nat,i < b.List.length->Pe b i)/\Qu b.Group b.Limit 0/\(b.Group.length=0 ∨ Asl b)
theorem aid_pos {b:TBuffer} {n:Nat} (h:∀ i:Nat,i < n->Pe b i):0 <= fE b n:=by
 unfold fE
 induction n with
 | zero=>simp
 | succ n ih =>
  rw [if_neg (by omega)]
  have h1:=ih fun i hi=>h i (by omega)
  have h2:=(h n (by omega)).1
  unfold fE at h2
  have e:n+1 - 1=n:=rfl
  rw [e]
  omega
theorem check_ok (b:TBuffer) (hg:Ng b):(Vb b/\F18 b=some 0) ∨ (¬ Vb b/\F18 b=some 8):=by
 obtain ⟨g1,g2,g3⟩:=hg
 unfold F18
 obtain ⟨r,l1,l2⟩:=loop_inv (step:=fun s:Bool × Int × Int=>F18_L1 b s.1 s.2.1 s.2.2) (fun s=>∃ i:Nat,i <= b.List.length/\s.2.1=fE b i/\s.2.2=(i:Int)/\(s.1=true ↔ Hb b/\∀ j:Nat,j < i->Pe b j))
  (fun r=>∃ v,r = .inl v/\(v=true ↔ Hb b/\∀ j:Nat,j < b.List.length->Pe b j)) (fun s=>(b.List.length - s.2.2).toNat)
  (fun s hI=>by
   obtain ⟨ok,la,ix⟩:=s
   obtain ⟨i,h1,h2,h3,h4⟩:=hI
   simp only at h2 h3 h4
   subst h2 h3
   unfold F18_L1
   simp only
   by_cases hi:i < b.List.length
   ·obtain ⟨q,q1,q2⟩:=cq_ok (gd b.List i).Held b.Limit 3 (by have:=g3 i hi;omega)
    rw [bif_t (by simp [bLt_eq];omega),need_true (inb_nat hi),Int.toNat_natCast,q1]
    simp only [Option.isSome_some,Bool.cond_self,need_true,gt_some]
    rw [wr_add1 hi (by omega)]
    refine .inr ⟨_,rfl,⟨i+1,by omega,by simp [fE],rfl,?_⟩,by simp only;omega⟩
    have e:((((ok && bLt (fE b i) (gd b.List i).Aid) && bLe (gd b.List i).Aid 255) && q) && ((gd b.List i).Asleep || bEq ((gd b.List i).Held.length:Nat) 0))=true ↔ (Hb b/\∀ j:Nat,j < i->Pe b j)/\Pe b i:=by
     simp only [Bool.and_eq_true,Bool.or_eq_true,h4,q2,bLt_eq,bLe_eq,bEq_eq,decide_eq_true_eq,Pe]
     have:(((gd b.List i).Held.length:Int)=0 ↔ (gd b.List i).Held.length=0):=by omega
     simp only [this]
     constructor
     ·rintro ⟨⟨⟨⟨x1,x2⟩,x3⟩,x4⟩,x5⟩;exact ⟨x1,x2,x3,x4,x5⟩
     ·rintro ⟨x1,x2,x3,x4,x5⟩;exact ⟨⟨⟨⟨x1,x2⟩,x3⟩,x4⟩,x5⟩
    refine e.trans ⟨fun ⟨⟨x1,x2⟩,x3⟩=>⟨x1,fun j hj=>?_⟩,fun ⟨x1,x2⟩=>⟨⟨x1,fun j hj=>x2 j (by omega)⟩,x2 i (by omega)⟩⟩
    rcases Nat.lt_or_eq_of_le (Nat.le_of_lt_succ hj) with h|rfl
    ·exact x2 j h
    ·exact x3
   ·obtain rfl:i=b.List.length:=by omega
    rw [bif_f (by simp [bLt_eq])]
    exact .inl ⟨_,rfl,ok,rfl,h4⟩)
  (((((bLe 1 b.Limit && bLe b.Limit 64) && bLe 1 b.Stay) && bLe b.Stay 1073741824) && bLe (b.List.length:Nat) 32),0,0)
  ⟨0,by omega,rfl,rfl,by
   simp only [Bool.and_eq_true,bLe_eq,decide_eq_true_eq,Hb]
   constructor
   ·rintro ⟨⟨⟨⟨x1,x2⟩,x3⟩,x4⟩,x5⟩;exact ⟨⟨⟨x1,x2⟩,⟨x3,x4⟩,by omega⟩,fun j hj=>by omega⟩
   ·rintro ⟨⟨⟨x1,x2⟩,⟨x3,x4⟩,x5⟩,_⟩;exact ⟨⟨⟨⟨x1,x2⟩,x3⟩,x4⟩,by omega⟩⟩
 obtain ⟨v,rfl,l2⟩:=l2
 rw [lp_inl l1]
 obtain ⟨q,q1,q2⟩:=cq_ok b.Group b.Limit 0 (by omega)
 obtain ⟨a,a1,a2⟩:=aslp_ok b (by omega)
 rw [q1,a1]
 simp only [Option.isSome_some,Bool.cond_self,need_true,gt_some]
 have e:(((!v) || (!q)) || (bLt 0 (b.Group.length:Nat) && (!a)))=false ↔ Vb b:=by
  simp only [Bool.or_eq_false_iff,Bool.not_eq_false',Bool.and_eq_false_iff,l2,q2,a2,Vb,bLt_eq,decide_eq_false_iff_not]
  have:¬ ((0:Int) < (b.Group.length:Nat)) ↔ b.Group.length=0:=by omega
  simp only [this]
  constructor
  ·rintro ⟨⟨x1,x2⟩,x3⟩;exact ⟨x1,x2,x3⟩
  ·rintro ⟨x1,x2,x3⟩;exact ⟨⟨x1,x2⟩,x3⟩
 cases hc:(((!v) || (!q)) || (bLt 0 (b.Group.length:Nat) && (!a))) with
 | true=>exact .inr ⟨fun h=>(by rw [e.2 h] at hc;cases hc),rfl⟩
 | false=>exact .inl ⟨e.1 hc,rfl⟩
end Go.Proofs.Ytefiemaoacmdkaa
