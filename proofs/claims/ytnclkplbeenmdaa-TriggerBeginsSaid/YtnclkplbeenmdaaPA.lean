/-
  TriggerBegins: which frames are taken, one by one.
-/
import Derived.Test.YtnclkplbeenmdaaCC
import Derived.Test.YtnclkplbeenmdaaBY
namespace Go.Proofs.Ytnclkplbeenmdaa
open Go.Am
set_option linter.unusedVariables false
set_option linter.unusedSimpArgs false
theorem inner2_ok (p:TTriggerPlan) (l:List TStored) (hn:l.length <= 1000) (hc:C0 l) :
  (∃ k:Nat,k < l.length/\Tl p.Deliver (gd l k)=true/\(∀ j:Nat,j < l.length->Tl p.Deliver (gd l j)=true->(gd l j).Cat <= (gd l k).Cat/\(j < k->(gd l j).Cat < (gd l k).Cat))/\loopD (fun s=>F29_L2 p l s.1 s.2) ((-1:Int),(0:Int))=some (.inl (k:Int))) ∨
  cnt p.Deliver l=0/\loopD (fun s=>F29_L2 p l s.1 s.2) ((-1:Int),(0:Int))=some (.inl (-1)):=by
 obtain ⟨r,l1,l2⟩:=loop_inv (step:=fun s:Int × Int=>F29_L2 p l s.1 s.2) (fun s=>∃ i:Nat,s.2=(i:Int)/\i <= l.length/\((s.1 = -1/\∀ j:Nat,j < i->Tl p.Deliver (gd l j)=false) ∨ ∃ k:Nat,s.1=(k:Int)/\k < i/\Tl p.Deliver (gd l k)=true/\∀ j:Nat,j < i->Tl p.Deliver (gd l j)=true->(gd l j).Cat <= (gd l k).Cat/\(j < k->(gd l j).Cat < (gd l k).Cat)))
  (fun r=>(r = .inl (-1)/\∀ j:Nat,j < l.length->Tl p.Deliver (gd l j)=false) ∨ ∃ k:Nat,r = .inl (k:Int)/\k < l.length/\Tl p.Deliver (gd l k)=true/\∀ j:Nat,j < l.length->Tl p.Deliver (gd l j)=true->(gd l j).Cat <= (gd l k).Cat/\(j < k->(gd l j).Cat < (gd l k).Cat)) (fun s=>(l.length - s.2).toNat)
  (fun s hI=>by
   obtain ⟨v,x⟩:=s
   obtain ⟨i,h1,h2,h3⟩:=hI
   simp only at h1 h3
   subst h1
   unfold F29_L2
   simp only
   by_cases hi:i < l.length
   ·rw [bif_t (by simp [bLt_eq];omega),need_true (inb_nat hi),Int.toNat_natCast,told_ok _ _ (hc _ (gd_mem hi)),Option.bind_some,wr_add1 hi (by omega)]
    cases ht:Tl p.Deliver (gd l i) with
    | false =>
     rw [need_true (by rfl),bif_f (by rfl)]
     refine .inr ⟨_,rfl,⟨i+1,rfl,by omega,?_⟩,by simp only;omega⟩
     rcases h3 with ⟨rfl,h3⟩|⟨k,rfl,h3,h4,h5⟩
     ·refine .inl ⟨rfl,fun j hj=>?_⟩
      rcases Nat.lt_or_eq_of_le (Nat.le_of_lt_succ hj) with h|rfl
      ·exact h3 j h
      ·exact ht
     ·refine .inr ⟨k,rfl,by omega,h4,fun j hj hd=>?_⟩
      rcases Nat.lt_or_eq_of_le (Nat.le_of_lt_succ hj) with h|rfl
      ·exact h5 j h hd
      ·rw [ht] at hd;cases hd
    | true =>
     rcases h3 with ⟨rfl,h3⟩|⟨k,rfl,h3,h4,h5⟩
     ·rw [need_true (by rfl),bif_t (by rfl)]
      refine .inr ⟨_,rfl,⟨i+1,rfl,by omega,.inr ⟨i,rfl,by omega,ht,fun j hj hd=>?_⟩⟩,by simp only;omega⟩
      rcases Nat.lt_or_eq_of_le (Nat.le_of_lt_succ hj) with h|rfl
      ·rw [h3 j h] at hd;cases hd
      ·exact ⟨Int.le_refl _,fun h=>absurd h (Nat.lt_irrefl _)⟩
     ·rw [need_true (by rw [inb_nat (show k < l.length by omega)];simp)]
      cases hb:(true && (bLt (k:Int) 0 || bLt (gd l ((k:Int)).toNat).Cat (gd l i).Cat)) with
      | true =>
       have hb:(gd l k).Cat < (gd l i).Cat:=by
        simp only [Bool.true_and,bLt_eq,Bool.or_eq_true,decide_eq_true_eq,Int.toNat_natCast] at hb
        omega
       refine .inr ⟨_,rfl,⟨i+1,rfl,by omega,.inr ⟨i,rfl,by omega,ht,fun j hj hd=>?_⟩⟩,by simp only;omega⟩
       rcases Nat.lt_or_eq_of_le (Nat.le_of_lt_succ hj) with h|rfl
       ·have:=(h5 j h hd).1
        exact ⟨by omega,fun _=>by omega⟩
       ·exact ⟨Int.le_refl _,fun h=>absurd h (Nat.lt_irrefl _)⟩
      | false =>
       have hb:(gd l i).Cat <= (gd l k).Cat:=by
        simp only [Bool.true_and,bLt_eq,Bool.or_eq_false_iff,decide_eq_false_iff_not,Int.toNat_natCast] at hb
        omega
       refine .inr ⟨_,rfl,⟨i+1,rfl,by omega,.inr ⟨k,rfl,by omega,h4,fun j hj hd=>?_⟩⟩,by simp only;omega⟩
       rcases Nat.lt_or_eq_of_le (Nat.le_of_lt_succ hj) with h|rfl
       ·exact h5 j h hd
       ·exact ⟨hb,fun h=>by omega⟩
   ·obtain rfl:i=l.length:=by omega
    rw [bif_f (by simp [bLt_eq])]
    rcases h3 with ⟨rfl,h3⟩|⟨k,rfl,h3,h4,h5⟩
    ·exact .inl ⟨_,rfl,.inl ⟨rfl,h3⟩⟩
    ·exact .inl ⟨_,rfl,.inr ⟨k,rfl,h3,h4,h5⟩⟩)
  ((-1:Int),(0:Int)) ⟨0,rfl,by omega,.inl ⟨rfl,fun j hj=>by omega⟩⟩
 rcases l2 with ⟨rfl,l2⟩|⟨k,rfl,k1,k2,k3⟩
 ·exact .inr ⟨cnt_0.2 l2,l1⟩
 ·exact .inl ⟨k,k1,k2,k3,l1⟩
def Pk (d:Int) (l:List TStored) (k:Nat):Prop:=k < l.length/\Tl d (gd l k)=true/\∀ j:Nat,j < l.length->Tl d (gd l j)=true->(gd l j).Cat <= (gd l k).Cat/\(j < k->(gd l j).Cat < (gd l k).Cat)
theorem Pk_uniq {d:Int} {l:List TStored} {k k':Nat} (h1:Pk d l k) (h2:Pk d l k'):k=k':=by
 obtain ⟨a1,a2,a3⟩:=h1
 obtain ⟨b1,b2,b3⟩:=h2
 have x:=a3 k' b1 b2
 have y:=b3 k a1 a2
 rcases Nat.lt_trichotomy k k' with h|h|h
 ·have:=y.2 h;omega
 ·exact h
 ·have:=x.2 h;omega
theorem pick_ex {d:Int} {l:List TStored} (hn:l.length <= 1000) (hc:C0 l) (h:0 < cnt d l):∃ k,Pk d l k:=by
 rcases inner2_ok (TTriggerPlan.mk 0 d 0) l hn hc with ⟨k,k1,k2,k3,_⟩|⟨h1,_⟩
 ·exact ⟨k,k1,k2,k3⟩
 ·simp only at h1;omega
open Classical in
noncomputable def pk (d:Int) (l:List TStored):Nat:=if h:∃ k,Pk d l k then Classical.choose h else 0
theorem pk_of {d:Int} {l:List TStored} {k:Nat} (h:Pk d l k):pk d l=k:=by
 unfold pk
 rw [dif_pos ⟨k,h⟩]
 exact Pk_uniq (Classical.choose_spec (⟨k,h⟩:∃ k,Pk d l k)) h
noncomputable def rs (d:Int) (H:List TStored):Nat->List TStored
 | 0=>H
 | n+1=>delL (rs d H n) (pk d (rs d H n):Nat) ((pk d (rs d H n)+1:Nat):Int)
noncomputable def ff (d:Int) (H:List TStored) (n:Nat):TFrame:=(gd (rs d H n) (pk d (rs d H n))).Frame
theorem rs_ok {d:Int} {H:List TStored} {lim:Int} (hn:H.length <= 1000) (h1:Qu H lim 3) (h2:C0 H):∀ n:Nat,n <= cnt d H->cnt d (rs d H n)+n=cnt d H/\(rs d H n).length+n=H.length/\(∀ q ∈ rs d H n,q ∈ H)/\Qu (rs d H n) lim 3/\(n < cnt d H->Pk d (rs d H n) (pk d (rs d H n)))
 | 0,_=>⟨rfl,rfl,fun q h=>h,h1,fun h=>by obtain ⟨k,hk⟩:=pick_ex hn h2 h;exact pk_of hk ▸ hk⟩
 | n+1,h=>by
  obtain ⟨a1,a2,a3,a4,a5⟩:=rs_ok (d:=d) hn h1 h2 n (by omega)
  have a5:=a5 (by omega)
  obtain ⟨k1,k2,k3⟩:=a5
  have e1:=cnt_del k1 k2
  have e2:=del_len1 k1
  have hm:∀ q ∈ rs d H (n+1),q ∈ H:=fun q hq=>a3 q (del_mem hq)
  have hl:(rs d H (n+1)).length+(n+1)=H.length:=by show (delL _ _ _).length+_=_;rw [e2];omega
  have hc:cnt d (rs d H (n+1))+(n+1)=cnt d H:=by show cnt d (delL _ _ _)+_=_;omega
  refine ⟨hc,hl,hm,del_qu k1 a4,fun h=>?_⟩
  obtain ⟨k,hk⟩:=pick_ex (d:=d) (l:=rs d H (n+1)) (by omega) (fun q hq=>h2 q (hm q hq)) (by omega)
  exact pk_of hk ▸ hk
/-! ### The reference's place -/
theorem scan3 (l:List TStored) (d:Int) (hn:l.length <= 1000) (hd:0 <= d/\d <= 15) (hc:∀ q ∈ l,0 <= q.Cat/\q.Cat <= 3) :
  (∃ k:Nat,k < l.length/\((gd l k).Cat=3/\Tl d (gd l k)=true)/\(∀ j:Nat,j < k->¬ ((gd l j).Cat=3/\Tl d (gd l j)=true))/\loopD (fun s=>F58_L1 l d s) (0:Int)=some (.inr (k:Int))) ∨ (∀ j:Nat,j < l.length->¬ ((gd l j).Cat=3/\Tl d (gd l j)=true))/\loopD (fun s=>F58_L1 l d s) (0:Int)=some (.inl ()):=by
 rcases first_gen (step:=fun s=>F58_L1 l d s) l.length (fun j=>(gd l j).Cat=3/\Tl d (gd l j)=true) (fun k=>(k:Int)) () (fun i hi _=>by
   have hq:=hc _ (gd_mem hi)
   have e:F58_L1 l d (i:Int)=bif (bEq (gd l i).Cat 3 && Tl d (gd l i)) then some (.done (.inr (i:Int))) else some (.next ((i+1:Nat):Int)):=by
    unfold F58_L1
    rw [bif_t (by simp [bLt_eq];omega),need_true (inb_nat hi),Int.toNat_natCast,wr_in (x:=(gd l i).Cat) (by omega),bit_ok d _ hd hq,inb_nat hi,wr_add1 hi (by omega)]
    simp only [Option.isSome_some,Bool.cond_self,need_true,gt_some]
    rfl
   simp only [e]
   cases hb:(bEq (gd l i).Cat 3 && Tl d (gd l i)) with
   | true =>
    have:=Bool.and_eq_true_iff.1 hb
    exact .inr ⟨⟨by simpa [bEq_eq] using this.1,this.2⟩,rfl⟩
   | false=>exact .inl ⟨fun ⟨h1,h2⟩=>by rw [h1,h2] at hb;simp [bEq_eq] at hb,rfl⟩)
  (by show F58_L1 l d _=_;unfold F58_L1;rw [bif_f (by simp [bLt_eq])]) with h|⟨k,h1,h2,h3,h4⟩
 ·exact .inr h
 ·exact .inl ⟨k,h1,h2,h3,h4⟩
theorem scan2 (l:List TStored) (d:Int) (hn:l.length <= 1000) (hd:0 <= d/\d <= 15) (hc:∀ q ∈ l,0 <= q.Cat/\q.Cat <= 3) :
  (∃ k:Nat,k < l.length/\((gd l k).Cat=2/\Tl d (gd l k)=true)/\(∀ j:Nat,j < k->¬ ((gd l j).Cat=2/\Tl d (gd l j)=true))/\loopD (fun s=>F58_L2 l d s) (0:Int)=some (.inr (k:Int))) ∨ (∀ j:Nat,j < l.length->¬ ((gd l j).Cat=2/\Tl d (gd l j)=true))/\loopD (fun s=>F58_L2 l d s) (0:Int)=some (.inl ()):=by
 rcases first_gen (step:=fun s=>F58_L2 l d s) l.length (fun j=>(gd l j).Cat=2/\Tl d (gd l j)=true) (fun k=>(k:Int)) () (fun i hi _=>by
   have hq:=hc _ (gd_mem hi)
   have e:F58_L2 l d (i:Int)=bif (bEq (gd l i).Cat 2 && Tl d (gd l i)) then some (.done (.inr (i:Int))) else some (.next ((i+1:Nat):Int)):=by
    unfold F58_L2
    rw [bif_t (by simp [bLt_eq];omega),need_true (inb_nat hi),Int.toNat_natCast,wr_in (x:=(gd l i).Cat) (by omega),bit_ok d _ hd hq,inb_nat hi,wr_add1 hi (by omega)]
    simp only [Option.isSome_some,Bool.cond_self,need_true,gt_some]
    rfl
   simp only [e]
   cases hb:(bEq (gd l i).Cat 2 && Tl d (gd l i)) with
   | true =>
    have:=Bool.and_eq_true_iff.1 hb
    exact .inr ⟨⟨by simpa [bEq_eq] using this.1,this.2⟩,rfl⟩
   | false=>exact .inl ⟨fun ⟨h1,h2⟩=>by rw [h1,h2] at hb;simp [bEq_eq] at hb,rfl⟩)
  (by show F58_L2 l d _=_;unfold F58_L2;rw [bif_f (by simp [bLt_eq])]) with h|⟨k,h1,h2,h3,h4⟩
 ·exact .inr h
 ·exact .inl ⟨k,h1,h2,h3,h4⟩
theorem scan1 (l:List TStored) (d:Int) (hn:l.length <= 1000) (hd:0 <= d/\d <= 15) (hc:∀ q ∈ l,0 <= q.Cat/\q.Cat <= 3) :
  (∃ k:Nat,k < l.length/\((gd l k).Cat=1/\Tl d (gd l k)=true)/\(∀ j:Nat,j < k->¬ ((gd l j).Cat=1/\Tl d (gd l j)=true))/\loopD (fun s=>F58_L3 l d s) (0:Int)=some (.inr (k:Int))) ∨ (∀ j:Nat,j < l.length->¬ ((gd l j).Cat=1/\Tl d (gd l j)=true))/\loopD (fun s=>F58_L3 l d s) (0:Int)=some (.inl ()):=by
 rcases first_gen (step:=fun s=>F58_L3 l d s) l.length (fun j=>(gd l j).Cat=1/\Tl d (gd l j)=true) (fun k=>(k:Int)) () (fun i hi _=>by
   have hq:=hc _ (gd_mem hi)
   have e:F58_L3 l d (i:Int)=bif (bEq (gd l i).Cat 1 && Tl d (gd l i)) then some (.done (.inr (i:Int))) else some (.next ((i+1:Nat):Int)):=by
    unfold F58_L3
    rw [bif_t (by simp [bLt_eq];omega),need_true (inb_nat hi),Int.toNat_natCast,wr_in (x:=(gd l i).Cat) (by omega),bit_ok d _ hd hq,inb_nat hi,wr_add1 hi (by omega)]
    simp only [Option.isSome_some,Bool.cond_self,need_true,gt_some]
    rfl
   simp only [e]
   cases hb:(bEq (gd l i).Cat 1 && Tl d (gd l i)) with
   | true =>
    have:=Bool.and_eq_true_iff.1 hb
    exact .inr ⟨⟨by simpa [bEq_eq] using this.1,this.2⟩,rfl⟩
   | false=>exact .inl ⟨fun ⟨h1,h2⟩=>by rw [h1,h2] at hb;simp [bEq_eq] at hb,rfl⟩)
  (by show F58_L3 l d _=_;unfold F58_L3;rw [bif_f (by simp [bLt_eq])]) with h|⟨k,h1,h2,h3,h4⟩
 ·exact .inr h
 ·exact .inl ⟨k,h1,h2,h3,h4⟩
theorem scan0 (l:List TStored) (d:Int) (hn:l.length <= 1000) (hd:0 <= d/\d <= 15) (hc:∀ q ∈ l,0 <= q.Cat/\q.Cat <= 3) :
  (∃ k:Nat,k < l.length/\((gd l k).Cat=0/\Tl d (gd l k)=true)/\(∀ j:Nat,j < k->¬ ((gd l j).Cat=0/\Tl d (gd l j)=true))/\loopD (fun s=>F58_L4 l d s) (0:Int)=some (.inr (k:Int))) ∨ (∀ j:Nat,j < l.length->¬ ((gd l j).Cat=0/\Tl d (gd l j)=true))/\loopD (fun s=>F58_L4 l d s) (0:Int)=some (.inl ()):=by
 rcases first_gen (step:=fun s=>F58_L4 l d s) l.length (fun j=>(gd l j).Cat=0/\Tl d (gd l j)=true) (fun k=>(k:Int)) () (fun i hi _=>by
   have hq:=hc _ (gd_mem hi)
   have e:F58_L4 l d (i:Int)=bif (bEq (gd l i).Cat 0 && Tl d (gd l i)) then some (.done (.inr (i:Int))) else some (.next ((i+1:Nat):Int)):=by
    unfold F58_L4
    rw [bif_t (by simp [bLt_eq];omega),need_true (inb_nat hi),Int.toNat_natCast,wr_in (x:=(gd l i).Cat) (by omega),bit_ok d _ hd hq,inb_nat hi,wr_add1 hi (by omega)]
    simp only [Option.isSome_some,Bool.cond_self,need_true,gt_some]
    rfl
   simp only [e]
   cases hb:(bEq (gd l i).Cat 0 && Tl d (gd l i)) with
   | true =>
    have:=Bool.and_eq_true_iff.1 hb
    exact .inr ⟨⟨by simpa [bEq_eq] using this.1,this.2⟩,rfl⟩
   | false=>exact .inl ⟨fun ⟨h1,h2⟩=>by rw [h1,h2] at hb;simp [bEq_eq] at hb,rfl⟩)
  (by show F58_L4 l d _=_;unfold F58_L4;rw [bif_f (by simp [bLt_eq])]) with h|⟨k,h1,h2,h3,h4⟩
 ·exact .inr h
 ·exact .inl ⟨k,h1,h2,h3,h4⟩
theorem no_more {d:Int} {l:List TStored} {k:Nat} {c:Int} (h:Pk d l k) (hc:(gd l k).Cat < c) {j:Nat} (hj:j < l.length):¬ ((gd l j).Cat=c/\Tl d (gd l j)=true):=fun ⟨a,b⟩=>by
 have:=(h.2.2 j hj b).1;omega
theorem is_pk {d:Int} {l:List TStored} {k k':Nat} {c:Int} (h:Pk d l k) (hc:(gd l k).Cat=c) (h1:k' < l.length) (h2:(gd l k').Cat=c/\Tl d (gd l k')=true) (h3:∀ j:Nat,j < k'->¬ ((gd l j).Cat=c/\Tl d (gd l j)=true)):k'=k:=by
 rcases Nat.lt_trichotomy k' k with x|x|x
 ·have:=(h.2.2 k' h1 h2.2).2 x;omega
 ·exact x
 ·exact absurd ⟨hc,h.2.1⟩ (h3 k x)
theorem first_ok (l:List TStored) (d:Int) (k:Nat) (hn:l.length <= 1000) (hd:0 <= d/\d <= 15) (hc:∀ q ∈ l,0 <= q.Cat/\q.Cat <= 3) (h:Pk d l k):F58 l d=some (k:Int):=by
 have hk:=hc _ (gd_mem h.1)
 unfold F58
 rcases scan3 l d hn hd hc with ⟨k',a1,a2,a3,a4⟩|⟨a1,a4⟩
 ·rw [lp_inr a4]
  by_cases e:(gd l k).Cat=3
  ·rw [is_pk h e a1 a2 a3]
  ·exact absurd a2 (no_more h (by omega) a1)
 rw [lp_inl a4]
 rcases scan2 l d hn hd hc with ⟨k',b1,b2,b3,b4⟩|⟨b1,b4⟩
 ·rw [lp_inr b4]
  by_cases e:(gd l k).Cat=2
  ·rw [is_pk h e b1 b2 b3]
  ·exact absurd b2 (no_more h (by have:=a1 k h.1;have:(gd l k).Cat ≠ 3:=fun x=>this ⟨x,h.2.1⟩;omega) b1)
 rw [lp_inl b4]
 have n3:(gd l k).Cat ≠ 3:=fun x=>a1 k h.1 ⟨x,h.2.1⟩
 have n2:(gd l k).Cat ≠ 2:=fun x=>b1 k h.1 ⟨x,h.2.1⟩
 rcases scan1 l d hn hd hc with ⟨k',c1,c2,c3,c4⟩|⟨c1,c4⟩
 ·rw [lp_inr c4]
  by_cases e:(gd l k).Cat=1
  ·rw [is_pk h e c1 c2 c3]
  ·exact absurd c2 (no_more h (by omega) c1)
 rw [lp_inl c4]
 have n1:(gd l k).Cat ≠ 1:=fun x=>c1 k h.1 ⟨x,h.2.1⟩
 rcases scan0 l d hn hd hc with ⟨k',d1,d2,d3,d4⟩|⟨d1,d4⟩
 ·rw [lp_inr d4,is_pk h (show (gd l k).Cat=0 by omega) d1 d2 d3]
 ·exact absurd ⟨show (gd l k).Cat=0 by omega,h.2.1⟩ (d1 k h.1)
end Go.Proofs.Ytnclkplbeenmdaa
