/-
  Putting: the buffer and the reference give the same.
-/
import Derived.Test.YtefiemaoacmdkaaRD
namespace Go.Proofs.Ytefiemaoacmdkaa
open Go.Am
set_option linter.unusedVariables false
set_option linter.unusedSimpArgs false
theorem rlate_ok (l:List TStored) (now:Int) (hn:l.length <= 1000):∃ c,F98 l now=some c/\(c=true ↔ ∃ i:Nat,i < l.length/\now < (gd l i).At):=by
 unfold F98
 obtain ⟨r,l1,l2⟩:=loop_for (step:=fun s=>F98_L1 l now s) l.length (fun n=>∀ i:Nat,i < n->(gd l i).At <= now) (fun r=>match r with|.inl _=>∀ i:Nat,i < l.length->(gd l i).At <= now|.inr k=>k=true/\∃ i:Nat,i < l.length/\now < (gd l i).At) (fun i hi=>by omega)
  (fun i hi hI=>by
   unfold F98_L1
   rw [bif_t (by simp [bLt_eq];omega),need_true (inb_nat hi),Int.toNat_natCast]
   by_cases hc:now < (gd l i).At
   ·rw [bif_t (by simp [bLt_eq,hc])]
    exact .inl ⟨_,rfl,rfl,i,hi,hc⟩
   ·rw [bif_f (by simp [bLt_eq];omega),wr_add1 hi (by omega)]
    refine .inr ⟨rfl,fun j hj=>?_⟩
    rcases Nat.lt_or_eq_of_le (Nat.le_of_lt_succ hj) with h|rfl
    ·exact hI j h
    ·omega)
  (fun hI=>by
   unfold F98_L1
   rw [bif_f (by simp [bLt_eq])]
   exact ⟨_,rfl,hI⟩)
 cases r with
 | inl u=>rw [lp_inl l1];exact ⟨_,rfl,fun h=>(by cases h),fun ⟨i,h1,h2⟩=>by have:=l2 i h1;omega⟩
 | inr k=>rw [lp_inr l1];obtain ⟨rfl,h⟩:=l2;exact ⟨_,rfl,fun _=>h,fun _=>rfl⟩
theorem late_eq (l:List TStored) (now:Int) {lim top:Int} (h:Qu l lim top) (hn:l.length <= 1000):∃ c,F62 l now=some c/\F98 l now=some c:=by
 obtain ⟨c,c1,c2⟩:=late_ok l now h hn
 obtain ⟨d,d1,d2⟩:=rlate_ok l now hn
 cases c with
 | false =>
  cases d with
  | false=>exact ⟨_,c1,d1⟩
  | true=>obtain ⟨i,i1,i2⟩:=d2.1 rfl;have:=c2 rfl i i1;omega
 | true =>
  cases d with
  | true=>exact ⟨_,c1,d1⟩
  | false =>
   exfalso
   unfold F62 at c1
   rcases Nat.eq_zero_or_pos l.length with h0|h0
   ·rw [need_true (by rw [h0];rfl)] at c1
    have:=Option.some.inj c1
    simp [bLt_eq,h0] at this
   ·have e:wr .i64 ((l.length:Nat) - 1)=((l.length - 1:Nat):Int):=by rw [wr_in (by omega)];omega
    rw [e,Int.toNat_natCast,need_true (by rw [inb_nat (by omega)];exact cself rfl)] at c1
    have:=Option.some.inj c1
    simp only [bLt_eq,Bool.and_eq_true,decide_eq_true_eq] at this
    have:=d2.2 ⟨l.length - 1,by omega,this.2⟩
    cases this
theorem wo_ok (l:List TStored) (k:Nat) (hk:k < l.length) (hn:l.length <= 1000):F100 l k=some (delL l k ((k+1:Nat):Int)):=by
 unfold F100
 have dl:delL l k ((k+1:Nat):Int)=l.take k ++ l.drop (k+1):=by unfold delL;simp
 obtain ⟨r,l1,l2⟩:=loop_inv (step:=fun s:List TStored × Int=>F100_L1 l k s.1 s.2) (fun s=>∃ i:Nat,i <= l.length/\s=((l.take i).eraseIdx k,(i:Int)))
  (fun r=>r = .inl (l.eraseIdx k)) (fun s=>(l.length - s.2).toNat)
  (fun s hI=>by
   obtain ⟨i,h1,rfl⟩:=hI
   unfold F100_L1
   simp only
   by_cases hi:i < l.length
   ·have ht:((l.take i).eraseIdx k).length <= i:=by
     have:=List.length_eraseIdx_le (l.take i) k
     rw [List.length_take] at this;omega
    rw [bif_t (by simp [bLt_eq];omega),wr_add1 hi (by omega)]
    have sn:l.take (i+1)=l.take i ++ [gd l i]:=take_snoc hi
    by_cases hik:i=k
    ·subst hik
     rw [bif_f (by simp [bEq_eq])]
     refine .inr ⟨_,rfl,⟨i+1,by omega,?_⟩,by simp only;omega⟩
     rw [sn,List.eraseIdx_of_length_le (by simp;omega),List.eraseIdx_append_of_length_le (by simp;omega)]
     simp [show min i l.length=i by omega]
    ·rw [bif_t (by simp [bEq_eq];omega),need_true (inb_nat hi),nd_cap (by omega) (by omega),Int.toNat_natCast]
     refine .inr ⟨_,rfl,⟨i+1,by omega,?_⟩,by simp only;omega⟩
     rw [sn]
     by_cases hlt:k < i
     ·rw [List.eraseIdx_append_of_lt_length (by simp;omega)]
     ·rw [List.eraseIdx_of_length_le (by simp;omega),List.eraseIdx_of_length_le (by simp;omega)]
   ·obtain rfl:i=l.length:=by omega
    rw [bif_f (by simp [bLt_eq]),List.take_length]
    exact .inl ⟨_,rfl,rfl⟩)
  ([],(0:Int)) ⟨0,by omega,by simp⟩
 subst l2
 rw [lp_inl l1,dl,List.eraseIdx_eq_take_drop_succ]
def Fl1 (l:List TStored) (k:Nat):Prop:=k < l.length/\(∀ j:Nat,j < l.length->(gd l k).Cat <= (gd l j).Cat)/\∀ j:Nat,j < k->(gd l k).Cat < (gd l j).Cat
theorem fl_uniq {l:List TStored} {k m:Nat} (h:Fl1 l k) (g:Fl1 l m):k=m:=by
 rcases Nat.lt_trichotomy k m with x|x|x
 ·have:=g.2.2 k x;have:=h.2.1 m g.1;omega
 ·exact x
 ·have:=h.2.2 m x;have:=g.2.1 k h.1;omega
theorem least_ok (l:List TStored) (h0:0 < l.length) (hn:l.length <= 1000):∃ k:Nat,Fl1 l k/\F107 l=some (k:Int):=by
 unfold F107
 obtain ⟨r,l1,l2⟩:=loop_inv (step:=fun s:Int × Int=>F107_L1 l s.1 s.2) (fun s=>∃ i k:Nat,s=((k:Int),(i:Int))/\1 <= i/\i <= l.length/\k < i/\(∀ j:Nat,j < i->(gd l k).Cat <= (gd l j).Cat)/\∀ j:Nat,j < k->(gd l k).Cat < (gd l j).Cat)
  (fun r=>∃ k:Nat,r = .inl (k:Int)/\Fl1 l k) (fun s=>(l.length - s.2).toNat)
  (fun s hI=>by
   obtain ⟨i,k,rfl,h1,h2,h3,h4,h5⟩:=hI
   unfold F107_L1
   simp only
   by_cases hi:i < l.length
   ·rw [bif_t (by simp [bLt_eq];omega),need_true (inb_nat hi),need_true (inb_nat (by omega)),Int.toNat_natCast,Int.toNat_natCast,wr_add1 hi (by omega)]
    by_cases hc:(gd l i).Cat < (gd l k).Cat
    ·rw [bif_t (by simp [bLt_eq,hc])]
     refine .inr ⟨_,rfl,⟨i+1,i,rfl,by omega,by omega,by omega,fun j hj=>?_,fun j hj=>?_⟩,by simp only;omega⟩
     ·rcases Nat.lt_or_eq_of_le (Nat.le_of_lt_succ hj) with h|rfl
      ·have:=h4 j h;omega
      ·omega
     ·have:=h4 j hj;omega
    ·rw [bif_f (by simp [bLt_eq];omega)]
     refine .inr ⟨_,rfl,⟨i+1,k,rfl,by omega,by omega,by omega,fun j hj=>?_,h5⟩,by simp only;omega⟩
     rcases Nat.lt_or_eq_of_le (Nat.le_of_lt_succ hj) with h|rfl
     ·exact h4 j h
     ·omega
   ·obtain rfl:i=l.length:=by omega
    rw [bif_f (by simp [bLt_eq])]
    exact .inl ⟨_,rfl,k,rfl,by omega,h4,h5⟩)
  ((0:Int),(1:Int)) ⟨1,0,rfl,by omega,h0,by omega,(fun j hj=>by (obtain rfl:j=0:=by omega);exact Int.le_refl _),fun j hj=>by omega⟩
 obtain ⟨k,rfl,k1⟩:=l2
 rw [lp_inl l1]
 exact ⟨k,k1,rfl⟩
theorem mput_lo (r5:Int × Bool) (r8:TBuffer) (a:Nat) (e:r5.1=a) (l:List TStored) (el:(gd r8.List a).Held=l) (h0:0 < l.length) (hn:l.length <= 1000) :
  ∃ k:Nat,k < l.length/\(∀ j:Nat,j < l.length->(gd l k).Cat <= (gd l j).Cat)/\loopD (fun s=>F24_L1 r5 r8 s.1 s.2) ((1:Int),gd l 0)=some (.inl (gd l k)):=by
 obtain ⟨r,l1,l2⟩:=loop_inv (step:=fun s:Int × TStored=>F24_L1 r5 r8 s.1 s.2) (fun s=>∃ i k:Nat,s=((i:Int),gd l k)/\i <= l.length/\k < l.length/\∀ j:Nat,j < i->(gd l k).Cat <= (gd l j).Cat)
  (fun r=>∃ k:Nat,r = .inl (gd l k)/\k < l.length/\∀ j:Nat,j < l.length->(gd l k).Cat <= (gd l j).Cat) (fun s=>(l.length - s.1).toNat)
  (fun s hI=>by
   obtain ⟨i,k,rfl,h1,h2,h3⟩:=hI
   unfold F24_L1 F90
   simp only [e,Int.toNat_natCast,el,cmp_ok,Option.bind_some]
   by_cases hi:i < l.length
   ·rw [bif_t (by simp [bLt_eq];omega),need_true (inb_nat hi),wr_add1 hi (by omega),need_true (inb_nat hi)]
    by_cases hc:(gd l i).Cat < (gd l k).Cat
    ·rw [if_pos hc,bif_t (by rfl)]
     refine .inr ⟨_,rfl,⟨i+1,i,rfl,by omega,hi,fun j hj=>?_⟩,by simp only;omega⟩
     rcases Nat.lt_or_eq_of_le (Nat.le_of_lt_succ hj) with h|rfl
     ·have:=h3 j h;omega
     ·omega
    ·rw [if_neg hc,bif_f (by split<;>rfl)]
     refine .inr ⟨_,rfl,⟨i+1,k,rfl,by omega,h2,fun j hj=>?_⟩,by simp only;omega⟩
     rcases Nat.lt_or_eq_of_le (Nat.le_of_lt_succ hj) with h|rfl
     ·exact h3 j h
     ·omega
   ·obtain rfl:i=l.length:=by omega
    rw [bif_f (by simp [bLt_eq])]
    exact .inl ⟨_,rfl,k,rfl,h2,h3⟩)
  ((1:Int),gd l 0) ⟨1,0,rfl,h0,h0,fun j hj=>by (obtain rfl:j=0:=by omega);exact Int.le_refl _⟩
 obtain ⟨k,rfl,k1,k2⟩:=l2
 exact ⟨k,k1,k2,l1⟩
theorem mgrp_lo (r:TBuffer) (l:List TStored) (el:r.Group=l) (h0:0 < l.length) (hn:l.length <= 1000) :
  ∃ k:Nat,k < l.length/\(∀ j:Nat,j < l.length->(gd l k).Cat <= (gd l j).Cat)/\loopD (fun s=>F41_L1 r s.1 s.2) ((1:Int),gd l 0)=some (.inl (gd l k)):=by
 have:=mput_lo ((0:Nat),true) (TBuffer.mk 0 0 [TSleeper.mk 0 false l] []) 0 rfl l rfl h0 hn
 obtain ⟨k,k1,k2,k3⟩:=this
 refine ⟨k,k1,k2,?_⟩
 rw [← k3]
 congr 1
 funext s
 subst el
 rfl
theorem pidx1_fst (l:List TStored) (c:Int) (k:Nat) (hk:k < l.length) (e:(gd l k).Cat=c) (hn:l.length <= 1000) :
  ∃ k:Nat,k < l.length/\(gd l k).Cat=c/\(∀ j:Nat,j < k->(gd l j).Cat ≠ c)/\F58_0 l c=some (k:Int):=pidx_ok l c k hk e hn
theorem cap_st {n:Nat} (h:n <= 1000):capb 120 n=true:=capb_iff.2 ⟨by omega,by omega⟩
theorem rput_ok (l:List TStored) (lim:Int) (x:TStored) (hn:l.length <= 100) (h1:1 <= lim):((l.length:Int) < lim/\F99 l lim x=some ([],l ++ [x])) ∨
  (¬ (l.length:Int) < lim/\∃ k:Nat,Fl1 l k/\((x.Cat < (gd l k).Cat/\F99 l lim x=some ([x.Frame],l)) ∨ (¬ x.Cat < (gd l k).Cat/\F99 l lim x=some ([(gd l k).Frame],delL l k ((k+1:Nat):Int) ++ [x])))):=by
 unfold F99
 by_cases h:(l.length:Int) < lim
 ·rw [bif_t (by simp [bLt_eq,h]),need_true (cap_st (by omega)),need_true (cap_st (by omega))]
  exact .inl ⟨h,rfl⟩
 ·rw [bif_f (by simp [bLt_eq];omega)]
  obtain ⟨k,k1,k2⟩:=least_ok l (by omega) (by omega)
  rw [k2,Option.bind_some,need_true (inb_nat k1.1),Int.toNat_natCast]
  refine .inr ⟨h,k,k1,?_⟩
  by_cases hc:x.Cat < (gd l k).Cat
  ·rw [bif_t (by simp [bLt_eq,hc])]
   exact .inl ⟨hc,rfl⟩
  ·rw [bif_f (by simp [bLt_eq];omega),need_true (inb_nat k1.1),wo_ok l k k1.1 (by omega),Option.bind_some,need_true (cap_st (by rw [del_len1 k1.1];omega))]
   exact .inr ⟨hc,rfl⟩
theorem u8_snoc {l:List TStored} {x:TStored} (h:U8 l) (hx:u8A x.Frame.Body=true):U8 (l ++ [x]):=fun q hq=>by
 rcases List.mem_append.1 hq with r|r
 ·exact h q r
 ·rw [List.mem_singleton.1 r];exact hx
theorem u8_del {l:List TStored} {k:Nat} (h:U8 l):U8 (delL l k ((k+1:Nat):Int)):=fun q hq=>h q (del_mem hq)
theorem uf_one {f:TFrame} (h:u8A f.Body=true):Uf [f]:=fun g hg=>by rw [List.mem_singleton.1 hg];exact h
theorem put_eq (b:TBuffer) (aid cat:Int) (f:TFrame) (t:Int) (hg:Ng b) (hq:Bq b) (hc:Ub b) (hu:U8b b) (hf:Fq f) (hfu:u8A f.Body=true):∃ o d n e,F24 b aid cat f t=some (o,d,n,e)/\F76 b aid cat f t=some (o,d,n,e)/\Ok3 o d n:=by
 unfold F24 F76 F61 F87
 rcases open_eq b aid hg hc with ⟨h,c,v⟩|⟨h,c,⟨ha,v⟩|⟨ha,⟨a,a1,a2,p,v⟩|⟨⟨a,P,p⟩,a1,v⟩⟩⟩
 ·rw [c,v,Option.bind_some,Option.bind_some,bif_t (by rfl),need_true (by rfl),bif_f (by rfl),need_true (by rfl),need_true (by rfl),bif_f (by rfl),bif_t (by rfl)]
  exact ⟨_,_,_,_,rfl,rfl,ok_zero⟩
 ·rw [c,v,Option.bind_some,Option.bind_some,bif_f (by rfl),bif_t (by simp [bLt_eq];omega),need_true (by rfl),bif_f (by rfl),need_true (by rfl),need_true (by rfl),bif_f (by rfl),bif_t (by rfl)]
  exact ⟨_,_,_,_,rfl,rfl,ok_zero⟩
 ·have hh:=hg.2.2 a a1
  have hQ:=(h.1.2 a a1).2.2.1
  have h0:=h.1.1.1.1
  rw [c,v,Option.bind_some,Option.bind_some,bif_f (by rfl),bif_f (by simp [bLt_eq];omega),p,Option.bind_some,bif_f (by rfl),show ((a:Int)).toNat=a from Int.toNat_natCast a,btwinf_ok a b a1 (Nb_of hg) hq,Option.bind_some,need_true (inb_nat a1),need_true (cself (by rfl)),need_true (cself (by rfl))]
  simp only [gt_some,Int.toNat_natCast]
  by_cases hm:cat <= 3/\0 <= t/\t <= 1099511627776
  ·rw [bif_f (by simp [bLt_eq,bLe_eq];omega),bif_f (by simp [bLt_eq,bLe_eq];omega)]
   obtain ⟨l,l1,l2⟩:=late_eq (gd b.List a).Held t hQ (by omega)
   rw [l1,l2,Option.bind_some,need_true (by rw [inb_nat a1];rfl),need_true (by rfl),gt_some]
   cases l with
   | true =>
    rw [bif_t (by rfl),bif_t (by rfl)]
    exact ⟨_,_,_,_,rfl,rfl,ok_zero⟩
   | false =>
    rw [bif_f (by rfl),bif_f (by rfl),bif_f (by rfl),need_true (inb_nat a1),twin_ok f hf,Option.bind_some]
    cases hs:(gd b.List a).Asleep with
    | false =>
     obtain ⟨r,r1,r2,r3,r4⟩:=hand_eq [f] (by simp)
     rw [bif_f (by rfl),bif_t (by rfl),r1,r2,Option.bind_some,Option.bind_some,rtw_ok b (Nb_of hg) hq,Option.bind_some]
     rw [show TSleeper.mk (gd b.List a).Aid false (gd b.List a).Held=gd b.List a from by rw [← hs],set_gd,Option.bind_some]
     exact ⟨_,_,_,_,rfl,rfl,⟨by rw [r3];simp,uf_hand r3 r4 (uf_one hfu)⟩,⟨by simp,uf_nil⟩,Nb_of hg,hu⟩
    | true =>
     rw [bif_t (by rfl)]
     have hus:=hu.2 _ (gd_mem a1)
     rcases rput_ok (gd b.List a).Held b.Limit (TStored.mk cat t f) (by omega) h0 with ⟨q1,q2⟩|⟨q1,k,k1,⟨q2,q3⟩|⟨q2,q3⟩⟩
     ·rw [show F99 (gd b.List a).Held b.Limit _=_ from q2]
      rw [bif_f (by simp only [bEq_eq,decide_eq_false_iff_not];omega),nd_cap (by omega) (by omega),Option.bind_some,Option.bind_some,Option.bind_some,bif_f (by rfl),Option.bind_some,with_ok b a _ hg hq a1,Option.bind_some]
      exact ⟨_,_,_,_,rfl,rfl,⟨by simp,uf_nil⟩,⟨by simp,uf_nil⟩,nb_set (Nb_of hg) (by simp;omega) (Nb_of hg).2.1,u8_set hu (u8_snoc hus hfu) hu.1⟩
     ·have hfull:((gd b.List a).Held.length:Int)=b.Limit:=by have:=hQ.1;omega
      rw [show F99 (gd b.List a).Held b.Limit _=_ from q3]
      rw [bif_t (by simp only [bEq_eq,decide_eq_true_eq];exact hfull),bif_f (by simp only [bLt_eq,decide_eq_false_iff_not];omega),need_true (inb_0 (by omega))]
      obtain ⟨m,m1,m2,m3⟩:=mput_lo ((a:Int),true) b a rfl (gd b.List a).Held rfl (by omega) (by omega)
      have em:(gd (gd b.List a).Held m).Cat=(gd (gd b.List a).Held k).Cat:=by have:=m2 k k1.1;have:=k1.2.1 m m1;omega
      rw [lp_inl m3,bif_t (by simp only [bLt_eq,decide_eq_true_eq,em];exact q2),Option.bind_some,Option.bind_some,bif_f (by rfl),Option.bind_some,with_ok b a _ hg hq a1,Option.bind_some]
      rw [show TSleeper.mk (gd b.List a).Aid true (gd b.List a).Held=gd b.List a from by rw [← hs],set_gd]
      exact ⟨_,_,_,_,rfl,rfl,⟨by simp,uf_nil⟩,⟨by simp,uf_one hfu⟩,Nb_of hg,hu⟩
     ·have hfull:((gd b.List a).Held.length:Int)=b.Limit:=by have:=hQ.1;omega
      rw [show F99 (gd b.List a).Held b.Limit _=_ from q3]
      rw [bif_t (by simp only [bEq_eq,decide_eq_true_eq];exact hfull),bif_f (by simp only [bLt_eq,decide_eq_false_iff_not];omega),need_true (inb_0 (by omega))]
      obtain ⟨m,m1,m2,m3⟩:=mput_lo ((a:Int),true) b a rfl (gd b.List a).Held rfl (by omega) (by omega)
      have em:(gd (gd b.List a).Held m).Cat=(gd (gd b.List a).Held k).Cat:=by have:=m2 k k1.1;have:=k1.2.1 m m1;omega
      obtain ⟨j,j1,j2,j3,j4⟩:=pidx1_fst (gd b.List a).Held _ m m1 rfl (by omega)
      have ej:j=k:=fl_uniq ⟨j1,fun i hi=>by rw [j2];exact m2 i hi,fun i hi=>by have:=j3 i hi;have:=m2 i (by omega);omega⟩ k1
      subst ej
      rw [lp_inl m3,bif_f (by simp only [bLt_eq,decide_eq_false_iff_not,em];exact q2),j4,Option.bind_some,need_true (inb_nat j1),wr_add1 j1 (by omega),need_true (by unfold delb;simp;omega),Option.bind_some,Option.bind_some,nd_cap (by rw [del_len1 j1];omega) (by rw [del_len1 j1];omega),Option.bind_some,Option.bind_some,Option.bind_some,bif_f (by rfl),Option.bind_some,with_ok b a _ hg hq a1,Option.bind_some]
      exact ⟨_,_,_,_,rfl,rfl,⟨by simp,uf_nil⟩,⟨by simp,uf_one (hus _ (gd_mem j1))⟩,nb_set (Nb_of hg) (by rw [List.length_append,del_len1 j1,List.length_singleton];omega) (Nb_of hg).2.1,u8_set hu (u8_snoc (u8_del hus) hfu) hu.1⟩
  ·have hb:((bLt 3 cat) || (!((bLe 0 t) && (bLe t 1099511627776))))=true:=by simp [bLt_eq,bLe_eq];omega
   rw [bif_t hb,bif_t (by rw [hb];rfl)]
   exact ⟨_,_,_,_,rfl,rfl,ok_zero⟩
 ·rw [c,v,Option.bind_some,Option.bind_some,bif_f (by rfl),bif_f (by simp [bLt_eq];omega),p,Option.bind_some,bif_t (by rfl),need_true (by rfl),bif_f (by rfl),need_true (by rfl),need_true (by rfl),bif_f (by rfl),bif_t (by rfl)]
  exact ⟨_,_,_,_,rfl,rfl,ok_zero⟩
end Go.Proofs.Ytefiemaoacmdkaa
