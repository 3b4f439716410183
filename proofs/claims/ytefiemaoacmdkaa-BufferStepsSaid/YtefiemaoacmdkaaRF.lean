/-
  Groups, polling, ages: the buffer and the reference give the same; then a whole step.
-/
import Derived.Test.YtefiemaoacmdkaaRE
namespace Go.Proofs.Ytefiemaoacmdkaa
open Go.Am
set_option linter.unusedVariables false
set_option linter.unusedSimpArgs false
theorem pgrp_eq (b:TBuffer) (f:TFrame) (t:Int) (hg:Ng b) (hq:Bq b) (hc:Ub b) (hu:U8b b) (hf:Fq f) (hfu:u8A f.Body=true):∃ o d n e,F41 b f t=some (o,d,n,e)/\F77 b f t=some (o,d,n,e)/\Ok3 o d n:=by
 have hl:=hg.1
 have hh:=hg.2.1
 unfold F41 F77
 have e1:F61 t=some ((bLe 0 t) && (bLe t 1099511627776)):=rfl
 have e2:F87 t=some ((bLe 0 t) && (bLe t 1099511627776)):=rfl
 rcases valid_eq b hg hc with ⟨h,c,v⟩|⟨h,c,v⟩
 ·have hQ:=h.2.1
  have h0:=h.1.1.1.1
  rw [v,Option.bind_some,bif_f (by rfl),c,Option.bind_some,bif_f (by rfl),e1,Option.bind_some,e2,Option.bind_some]
  by_cases hm:0 <= t/\t <= 1099511627776
  ·have hb:(!((bLe 0 t) && (bLe t 1099511627776)))=false:=by simp [bLe_eq];omega
   obtain ⟨l,l1,l2⟩:=late_eq b.Group t hQ (by omega)
   rw [bif_f hb,l1,Option.bind_some,bif_f hb,l2,Option.bind_some]
   cases l with
   | true =>
    rw [bif_t (by rfl),bif_t (by rfl)]
    exact ⟨_,_,_,_,rfl,rfl,ok_zero⟩
   | false =>
    obtain ⟨q,q1,q2,q3⟩:=aslp_eq b (by omega)
    rw [bif_f (by rfl),bif_f (by rfl),btwin_ok b (Nb_of hg) hq,Option.bind_some,twin_ok f hf,Option.bind_some,q1,q2,Option.bind_some,Option.bind_some]
    cases q with
    | false =>
     obtain ⟨r,r1,r2,r3,r4⟩:=hand_eq [f] (by simp)
     rw [bif_f (by rfl),bif_t (by rfl),r1,r2,Option.bind_some,Option.bind_some,rtw_ok b (Nb_of hg) hq,Option.bind_some]
     exact ⟨_,_,_,_,rfl,rfl,⟨by rw [r3];simp,uf_hand r3 r4 (uf_one hfu)⟩,⟨by simp,uf_nil⟩,Nb_of hg,hu⟩
    | true =>
     rw [bif_t (by rfl)]
     rcases rput_ok b.Group b.Limit (TStored.mk 0 t f) (by omega) h0 with ⟨q1,q2⟩|⟨q1,k,k1,⟨q2,q3⟩|⟨q2,q3⟩⟩
     ·rw [show F99 b.Group b.Limit _=_ from q2]
      rw [bif_f (by simp only [bEq_eq,decide_eq_false_iff_not];omega),nd_cap (by omega) (by omega),bif_f (by rfl),Option.bind_some,rtw_ok b (Nb_of hg) hq,Option.bind_some]
      exact ⟨_,_,_,_,rfl,rfl,⟨by simp,uf_nil⟩,⟨by simp,uf_nil⟩,⟨(Nb_of hg).1,by simp;omega,(Nb_of hg).2.2⟩,u8_snoc hu.1 hfu,hu.2⟩
     ·have hfull:(b.Group.length:Int)=b.Limit:=by have:=hQ.1;omega
      rw [show F99 b.Group b.Limit _=_ from q3]
      rw [bif_t (by simp only [bEq_eq,decide_eq_true_eq];exact hfull),bif_f (by simp only [bLt_eq,decide_eq_false_iff_not];omega),need_true (inb_0 (by omega))]
      obtain ⟨m,m1,m2,m3⟩:=mgrp_lo b b.Group rfl (by omega) (by omega)
      have em:(gd b.Group m).Cat=(gd b.Group k).Cat:=by have:=m2 k k1.1;have:=k1.2.1 m m1;omega
      rw [lp_inl m3,bif_t (by simp only [bLt_eq,decide_eq_true_eq,em];exact q2),bif_f (by rfl),Option.bind_some,rtw_ok b (Nb_of hg) hq,Option.bind_some]
      exact ⟨_,_,_,_,rfl,rfl,⟨by simp,uf_nil⟩,⟨by simp,uf_one hfu⟩,Nb_of hg,hu⟩
     ·have hfull:(b.Group.length:Int)=b.Limit:=by have:=hQ.1;omega
      rw [show F99 b.Group b.Limit _=_ from q3]
      rw [bif_t (by simp only [bEq_eq,decide_eq_true_eq];exact hfull),bif_f (by simp only [bLt_eq,decide_eq_false_iff_not];omega),need_true (inb_0 (by omega))]
      obtain ⟨m,m1,m2,m3⟩:=mgrp_lo b b.Group rfl (by omega) (by omega)
      have em:(gd b.Group m).Cat=(gd b.Group k).Cat:=by have:=m2 k k1.1;have:=k1.2.1 m m1;omega
      obtain ⟨j,j1,j2,j3,j4⟩:=pidx1_fst b.Group _ m m1 rfl (by omega)
      have ej:j=k:=fl_uniq ⟨j1,fun i hi=>by rw [j2];exact m2 i hi,fun i hi=>by have:=j3 i hi;have:=m2 i (by omega);omega⟩ k1
      subst ej
      rw [lp_inl m3,bif_f (by simp only [bLt_eq,decide_eq_false_iff_not,em];exact q2),j4,Option.bind_some,need_true (inb_nat j1),wr_add1 j1 (by omega),need_true (by unfold delb;simp;omega),Option.bind_some,Option.bind_some,nd_cap (by rw [del_len1 j1];omega) (by rw [del_len1 j1];omega),bif_f (by rfl),Option.bind_some,rtw_ok b (Nb_of hg) hq,Option.bind_some]
      exact ⟨_,_,_,_,rfl,rfl,⟨by simp,uf_nil⟩,⟨by simp,uf_one (hu.1 _ (gd_mem j1))⟩,⟨(Nb_of hg).1,by rw [List.length_append,del_len1 j1,List.length_singleton];omega,(Nb_of hg).2.2⟩,u8_snoc (u8_del hu.1) hfu,hu.2⟩
  ·have hb:(!((bLe 0 t) && (bLe t 1099511627776)))=true:=by simp [bLe_eq];omega
   rw [bif_t hb,bif_t hb]
   exact ⟨_,_,_,_,rfl,rfl,ok_zero⟩
 ·rw [c,v,Option.bind_some,Option.bind_some,bif_t (by rfl),bif_t (by rfl)]
  exact ⟨_,_,_,_,rfl,rfl,ok_zero⟩
def Fg1 (l:List TStored) (k:Nat):Prop:=k < l.length/\(∀ j:Nat,j < l.length->(gd l j).Cat <= (gd l k).Cat)/\∀ j:Nat,j < k->(gd l j).Cat < (gd l k).Cat
theorem fg_uniq {l:List TStored} {k m:Nat} (h:Fg1 l k) (g:Fg1 l m):k=m:=by
 rcases Nat.lt_trichotomy k m with x|x|x
 ·have:=g.2.2 k x;have:=h.2.1 m g.1;omega
 ·exact x
 ·have:=h.2.2 m x;have:=g.2.1 k h.1;omega
theorem rtop_ok (b:TBuffer) (a:Nat) (e:Int) (l:List TStored) (el:(gd b.List a).Held=l) (h0:0 < l.length) (hn:l.length <= 1000):∃ k:Nat,Fg1 l k/\loopD (fun s=>F78_L1 b ((a:Int),e) s.1 s.2) ((0:Int),(1:Int))=some (.inl (k:Int)):=by
 obtain ⟨r,l1,l2⟩:=loop_inv (step:=fun s:Int × Int=>F78_L1 b ((a:Int),e) s.1 s.2) (fun s=>∃ i k:Nat,s=((k:Int),(i:Int))/\1 <= i/\i <= l.length/\k < i/\(∀ j:Nat,j < i->(gd l j).Cat <= (gd l k).Cat)/\∀ j:Nat,j < k->(gd l j).Cat < (gd l k).Cat)
  (fun r=>∃ k:Nat,r = .inl (k:Int)/\Fg1 l k) (fun s=>(l.length - s.2).toNat)
  (fun s hI=>by
   obtain ⟨i,k,rfl,h1,h2,h3,h4,h5⟩:=hI
   unfold F78_L1
   simp only [Int.toNat_natCast,el]
   by_cases hi:i < l.length
   ·rw [bif_t (by simp [bLt_eq];omega),need_true (inb_nat hi),need_true (inb_nat (by omega)),wr_add1 hi (by omega)]
    by_cases hc:(gd l k).Cat < (gd l i).Cat
    ·rw [bif_t (by simp [bLt_eq,hc])]
     refine .inr ⟨_,rfl,⟨i+1,i,rfl,by omega,by omega,by omega,fun j hj=>?_,fun j hj=>?_⟩,by simp only;omega⟩
     ·rcases Nat.lt_or_eq_of_le (Nat.le_of_lt_succ hj) with h|rfl
      ·have:=h4 j h;omega
      ·omega
     ·have:=h4 j hj;omega
    ·rw [bif_f (by simp [bLt_eq];omega)]
     refine .inr ⟨_,rfl,⟨i+1,k,rfl,by omega,by omega,by omega,fun j hj=>?_,h5⟩,by simp only;omega⟩
     rcases Nat.lt_or_eq_of_le (Nat.le_of_lt_succ hj) with h|rfl
     ·exact h4 j h
     ·omega
   ·obtain rfl:i=l.length:=by omega
    rw [bif_f (by simp [bLt_eq])]
    exact .inl ⟨_,rfl,k,rfl,by omega,h4,h5⟩)
  ((0:Int),(1:Int)) ⟨1,0,rfl,by omega,h0,by omega,(fun j hj=>by (obtain rfl:j=0:=by omega);exact Int.le_refl _),fun j hj=>by omega⟩
 obtain ⟨k,rfl,k1⟩:=l2
 exact ⟨k,k1,l1⟩
theorem poll_eq (b:TBuffer) (aid:Int) (hg:Ng b) (hq:Bq b) (hc:Ub b) (hu:U8b b):∃ f n e,F23 b aid=some (f,n,e)/\F78 b aid=some (f,n,e)/\u8A f.Body=true/\Ok3 [] [] n:=by
 unfold F23 F78
 rcases open_eq b aid hg hc with ⟨h,c,v⟩|⟨h,c,⟨ha,v⟩|⟨ha,⟨a,a1,a2,p,v⟩|⟨⟨a,P,p⟩,a1,v⟩⟩⟩
 ·rw [c,v,Option.bind_some,Option.bind_some,bif_t (by rfl),bif_t (by rfl)]
  exact ⟨_,_,_,rfl,rfl,rfl,ok_zero⟩
 ·rw [c,v,Option.bind_some,Option.bind_some,bif_f (by rfl),bif_t (by simp [bLt_eq];omega),bif_t (by rfl)]
  exact ⟨_,_,_,rfl,rfl,rfl,ok_zero⟩
 ·have hh:=hg.2.2 a a1
  have hus:=hu.2 _ (gd_mem a1)
  rw [c,v,Option.bind_some,Option.bind_some,bif_f (by rfl),bif_f (by simp [bLt_eq];omega),p,Option.bind_some,bif_f (by rfl),show ((a:Int)).toNat=a from Int.toNat_natCast a,btwinf_ok a b a1 (Nb_of hg) hq,Option.bind_some,need_true (inb_nat a1)]
  simp only [Int.toNat_natCast]
  cases hs:(gd b.List a).Asleep with
  | false =>
   rw [bif_t (by rfl),bif_f (by rfl),need_true (inb_nat a1),bif_t (by rfl)]
   exact ⟨_,_,_,rfl,rfl,rfl,ok_zero⟩
  | true =>
   rw [bif_f (by rfl)]
   by_cases hz:(gd b.List a).Held.length=0
   ·have ez:bEq (((gd b.List a).Held.length:Nat):Int) 0=true:=by simp [bEq_eq,hz]
    rw [bif_t ez,bif_f (by rfl),need_true (inb_nat a1),bif_f (by rfl),bif_t ez]
    exact ⟨_,_,_,rfl,rfl,rfl,ok_zero⟩
   ·have ez:bEq (((gd b.List a).Held.length:Nat):Int) 0=false:=by simp only [bEq_eq,decide_eq_false_iff_not];omega
    obtain ⟨m,m1,m2,m3⟩:=pmax_ok ((a:Int),true) b a rfl (gd b.List a).Held rfl (by omega) (by omega)
    obtain ⟨k,k1,k2⟩:=rtop_ok b a 0 (gd b.List a).Held rfl (by omega) (by omega)
    have em:(gd (gd b.List a).Held m).Cat=(gd (gd b.List a).Held k).Cat:=by have:=m2 k k1.1;have:=k1.2.1 m m1;omega
    obtain ⟨j,j1,j2,j3,j4⟩:=pidx_ok (gd b.List a).Held _ m m1 rfl (by omega)
    have ej:j=k:=fg_uniq ⟨j1,fun i hi=>by rw [j2];exact m2 i hi,fun i hi=>by have:=j3 i hi;have:=m2 i (by omega);omega⟩ k1
    subst ej
    rw [bif_f ez,bif_f (by simp only [bLt_eq,decide_eq_false_iff_not];omega),need_true (inb_0 (by omega)),lp_inl m3,j4,Option.bind_some,need_true (inb_nat j1),wr_add1 j1 (by omega),need_true (by unfold delb;simp;omega)]
    rw [Option.bind_some,Option.bind_some,bif_f (by rfl),need_true (inb_nat a1),bif_f (by rfl),bif_f ez,lp_inl k2,need_true (inb_nat j1),wo_ok _ _ j1 (by omega),Option.bind_some,with_ok b a _ hg hq a1,Option.bind_some,Int.toNat_natCast]
    have eM:bLt 0 ((delL (gd b.List a).Held (j:Int) ((j+1:Nat):Int)).length:Nat)=bLt 1 ((gd b.List a).Held.length:Nat):=by
     rw [del_len1 j1];simp only [bLt_eq];congr 1;simp only [eq_iff_iff];omega
    rw [eM]
    exact ⟨_,_,_,rfl,rfl,hus _ (gd_mem j1),⟨by simp,uf_nil⟩,⟨by simp,uf_nil⟩,nb_set (Nb_of hg) (by rw [del_len1 j1];omega) (Nb_of hg).2.1,u8_set hu (u8_del hus) hu.1⟩
 ·rw [c,v,Option.bind_some,Option.bind_some,bif_f (by rfl),bif_f (by simp [bLt_eq];omega),p,Option.bind_some,bif_t (by rfl),bif_t (by rfl)]
  exact ⟨_,_,_,rfl,rfl,rfl,ok_zero⟩
end Go.Proofs.Ytefiemaoacmdkaa
