/-
  BufferAged: what is held after Age is young, what was dropped was not.
-/
import Derived.Test.YtefiemaoacmdkaaBG
namespace Go.Proofs.Ytefiemaoacmdkaa
open Go.Am
set_option linter.unusedVariables false
set_option linter.unusedSimpArgs false
theorem alive_ok5:F20=some true:=by kernel_rfl
def allH (b:TBuffer):List TStored:=b.Group ++ b.List.flatMap fun s=>s.Held
theorem allH_aged (b:TBuffer) (t:Int):allH (aged b t)=(allH b).filter (yg b.Stay t):=by
 unfold allH aged
 simp only [List.filter_append,List.flatMap_map,List.filter_flatMap]
 rfl
theorem fil_split {α:Type} (p:α->Bool) (l:List α):(l.filter p).length+(l.filter fun q=>!p q).length=l.length:=by
 induction l with
 | nil=>rfl
 | cons a l ih=>cases h:p a<;>simp [List.filter_cons,h]<;>omega
theorem drops_len (b:TBuffer) (t:Int):(drops b t).length=((allH b).filter fun q=>!yg b.Stay t q).length:=by
 have:∀ l:List TSleeper,(l.flatMap fun s=>olds b.Stay t s.Held).length=((l.flatMap fun s=>s.Held).filter fun q=>!yg b.Stay t q).length:=by
  intro l
  induction l with
  | nil=>rfl
  | cons s l ih =>
   simp only [List.flatMap_cons,List.length_append,List.filter_append,ih]
   rw [show (olds b.Stay t s.Held).length=(s.Held.filter fun q=>!yg b.Stay t q).length from List.length_map _]
 unfold drops allH
 rw [List.length_append,this,List.filter_append,List.length_append]
 unfold olds
 rw [List.length_map];omega
theorem allH_len {b:TBuffer} (h:Ng b):(allH b).length <= 70+70 * b.List.length:=by
 have:∀ l:List TSleeper,(∀ s ∈ l,s.Held.length <= 70)->(l.flatMap fun s=>s.Held).length <= 70 * l.length:=by
  intro l
  induction l with
  | nil=>intro _;simp
  | cons s l ih =>
   intro h
   have h1:=ih fun q hq=>h q (List.mem_cons_of_mem _ hq)
   have h2:=h s (List.mem_cons_self ..)
   simp only [List.flatMap_cons,List.length_append,List.length_cons];omega
 have h1:=this b.List fun s hs=>by obtain ⟨i,hi,rfl⟩:=mem_gd hs;exact h.2.2 i hi
 have h2:=h.2.1
 unfold allH
 rw [List.length_append];omega
theorem take_flat {l:List TSleeper} {i:Nat} (h:i < l.length):((l.take (i+1)).flatMap fun s=>s.Held)=((l.take i).flatMap fun s=>s.Held) ++ (gd l i).Held:=by
 rw [take_snoc h,List.flatMap_append];simp
theorem pre_len (g:List TStored) (l:List TSleeper) (i:Nat) (hg:g.length <= 70) (hl:l.length <= 40) (hh:∀ s ∈ l,s.Held.length <= 70):(g ++ (l.take i).flatMap fun s=>s.Held).length <= 2870:=by
 have:=allH_len (b:=⟨0,0,l.take i,g⟩) ⟨by simp only [List.length_take];omega,hg,fun j hj=>hh _ (List.mem_of_mem_take (gd_mem hj))⟩
 unfold allH at this
 simp only [List.length_take] at this
 omega
theorem lists_ok (b:TBuffer) (n:TBuffer) (d:List TFrame) (hb:Ng b) (hn:Ng n) (e:n.List.length=b.List.length) :
  loopD (fun s=>F5_L1 b (d,n,0) s.1 s.2.1 s.2.2) (b.Group,n.Group,(0:Int))=some (.inl (allH b,allH n)):=by
 have hh:∀ {x:TBuffer},Ng x->∀ s ∈ x.List,s.Held.length <= 70:=fun h s hs=>by obtain ⟨i,hi,rfl⟩:=mem_gd hs;exact h.2.2 i hi
 have l1:=run_gen (step:=fun s=>F5_L1 b (d,n,0) s.1 s.2.1 s.2.2) (R:=Bool) b.List.length (fun i=>(b.Group ++ (b.List.take i).flatMap fun s=>s.Held,n.Group ++ (n.List.take i).flatMap fun s=>s.Held,(i:Int))) (allH b,allH n) (fun i hi=>by
   have p1:=pre_len b.Group b.List i hb.2.1 hb.1 (hh hb)
   have p2:=pre_len n.Group n.List i hn.2.1 hn.1 (hh hn)
   have q1:=hb.2.2 i hi
   have q2:=hn.2.2 i (by omega)
   have q3:=hb.1
   show F5_L1 b (d,n,0) (b.Group ++ (b.List.take i).flatMap fun s=>s.Held) (n.Group ++ (n.List.take i).flatMap fun s=>s.Held) (i:Int)=_
   unfold F5_L1
   simp only
   rw [bif_t (by simp [bLt_eq];omega),nd_cap (by omega) (by omega),need_true (inb_nat hi),Int.toNat_natCast,nd_cap (by omega) (by omega),Option.bind_some,nd_cap (by omega) (by omega),need_true (inb_nat (by omega)),nd_cap (by omega) (by omega),Option.bind_some,wr_add1 hi (by omega),List.nil_append,List.nil_append,take_flat hi,take_flat (l:=n.List) (by omega),List.append_assoc,List.append_assoc])
  (by
   show F5_L1 b (d,n,0) _ _ (b.List.length:Nat)=_
   unfold F5_L1
   rw [bif_f (by simp [bLt_eq]),List.take_length,← e,List.take_length]
   rfl)
 simpa using l1
theorem young_ok (b:TBuffer) (t:Int) (l:List TStored) (hl:l.length <= 10000) (ha:∀ q ∈ l,0 <= q.At/\q.At <= 1099511627776) (ht:0 <= t/\t <= 1099511627776) :
  loopD (fun s=>F5_L2 b t l s.1 s.2) ((0:Int),(0:Int))=some (.inl (((l.filter (yg b.Stay t)).length:Nat):Int)):=by
 have l1:=run_gen (step:=fun s=>F5_L2 b t l s.1 s.2) (R:=Bool) l.length (fun i=>((((l.take i).filter (yg b.Stay t)).length:Int),(i:Int))) (((l.filter (yg b.Stay t)).length:Nat):Int) (fun i hi=>by
   have hq:=ha _ (gd_mem hi)
   have tf:=take_fil (yg b.Stay t) l hi
   have fl:=List.length_filter_le (yg b.Stay t) (l.take i)
   rw [List.length_take] at fl
   show F5_L2 b t l (((l.take i).filter (yg b.Stay t)).length:Int) (i:Int)=_
   unfold F5_L2
   rw [bif_t (c:=bLt (i:Int) _) (by simp [bLt_eq];omega),need_true (inb_nat hi),Int.toNat_natCast,wr_in (x:=t - (gd l i).At) (by omega),wr_add1 hi (by omega)]
   by_cases h:t < (gd l i).At+b.Stay
   ·rw [show yg b.Stay t (gd l i)=true by simp [yg,h],cond_true] at tf
    rw [bif_t (by simp [bLt_eq];omega),wr_in (x:=(((l.take i).filter (yg b.Stay t)).length:Int)+1) (by omega),tf,List.length_append]
    rfl
   ·rw [show yg b.Stay t (gd l i)=false by simp [yg];omega,cond_false] at tf
    rw [bif_f (by simp [bLt_eq];omega),tf])
  (by show F5_L2 b t l _ (l.length:Nat)=_;unfold F5_L2;rw [bif_f (by simp [bLt_eq]),List.take_length])
 simpa using l1
theorem none_old (n:TBuffer) (d:List TFrame) (t:Int) (l:List TStored) (hl:l.length <= 10000) (ha:∀ q ∈ l,0 <= q.At/\q.At <= 1099511627776) (ht:0 <= t/\t <= 1099511627776) (hy:∀ q ∈ l,yg n.Stay t q=true) :
  loopD (fun s=>F5_L3 t (d,n,0) l s) (0:Int)=some (.inl ()):=by
 have l1:=run_gen (step:=fun s=>F5_L3 t (d,n,0) l s) (R:=Bool) l.length (fun i=>(i:Int)) () (fun i hi=>by
   have hq:=ha _ (gd_mem hi)
   have h:=hy _ (gd_mem hi)
   unfold yg at h
   simp only [decide_eq_true_eq] at h
   show F5_L3 t (d,n,0) l (i:Int)=_
   unfold F5_L3
   simp only
   rw [bif_t (by simp [bLt_eq];omega),need_true (inb_nat hi),Int.toNat_natCast,wr_in (x:=t - (gd l i).At) (by omega),bif_f (by simp [bLe_eq];omega),wr_add1 hi (by omega)])
  (by show F5_L3 t (d,n,0) l (l.length:Nat)=_;unfold F5_L3;rw [bif_f (by simp [bLt_eq])])
 simpa using l1
theorem law5 (b:TBuffer) (t:Int) (hu:U8b b):F5 b t=some true:=by
 unfold F5
 rw [alive_ok5,Option.bind_some]
 obtain ⟨r,e,hr⟩:=great_ok b (TFrame.mk (THeader.mk 0 0 false false false false false false false 0 (A6u8.mk 0 0 0 0 0 0) (A6u8.mk 0 0 0 0 0 0) (A6u8.mk 0 0 0 0 0 0) (A6u8.mk 0 0 0 0 0 0) 0 0 0 0 false false) [])
 rw [e,Option.bind_some]
 cases r with
 | true=>rfl
 | false =>
 obtain ⟨hg,hq,_⟩:=hr rfl
 rw [bif_f (by rfl)]
 rcases check_ok b hg with ⟨hv,hc⟩|⟨_,hc⟩
 ·by_cases hm:0 <= t/\t <= 1099511627776
  ·have gq:=vb_aq hv
   have A:=age_ok b t hc (Nb_of hg) hq ⟨by have:=hv.1.1.2.1;omega,hv.1.1.2.1.2⟩ gq hm hg.1 (fun s hs=>by obtain ⟨i,hi,rfl⟩:=mem_gd hs;exact hg.2.2 i hi)
   have hg2:=ng_aged hg (t:=t)
   have hv2:=vb_aged hv (t:=t)
   have hc2:F18 (aged b t)=some 0:=by
    rcases check_ok _ hg2 with ⟨_,h⟩|⟨h,_⟩
    ·exact h
    ·exact absurd hv2 h
   have B:=age_ok (aged b t) t hc2 (Nb_of hg2) (bq_aged hq) ⟨by have:=hv2.1.1.2.1;omega,hv2.1.1.2.1.2⟩ (vb_aq hv2) hm hg2.1 (fun s hs=>by obtain ⟨i,hi,rfl⟩:=mem_gd hs;exact hg2.2.2 i hi)
   rw [drops_again,aged_again] at B
   have hall:∀ {x:TBuffer},Vb x->∀ q ∈ allH x,0 <= q.At/\q.At <= 1099511627776:=fun h q hq=>by
    obtain ⟨h1,h2⟩:=vb_aq h
    unfold allH at hq
    rcases List.mem_append.1 hq with q1|q1
    ·exact h1.2 q q1
    ·obtain ⟨s,s1,s2⟩:=List.mem_flatMap.1 q1;exact (h2 s s1).2 q s2
   have hn:∀ {x:TBuffer},Ng x->(allH x).length <= 10000:=fun h=>by have:=allH_len h;have:=h.1;omega
   rw [A,Option.bind_some]
   simp only
   rw [bif_f (by simp [bEq_eq]),bif_f (by simp [bEq_eq,aged]),lp_inl (lists_ok b (aged b t) (drops b t) hg hg2 (by simp [aged]))]
   simp only
   rw [lp_inl (young_ok b t (allH b) (hn hg) (hall hv) hm),lp_inl (none_old (aged b t) (drops b t) t (allH (aged b t)) (hn hg2) (hall hv2) hm (fun q hq=>by rw [allH_aged] at hq;exact (List.mem_filter.1 hq).2)),B,Option.bind_some]
   simp only
   rw [same_ok (aged b t) (Nb_of hg2) (u8_aged hu)]
   have e1:(allH (aged b t)).length=((allH b).filter (yg b.Stay t)).length:=by rw [allH_aged]
   have e2:=drops_len b t
   have e3:=fil_split (yg b.Stay t) (allH b)
   have e4:=hn hg
   rw [e1,e2,wr_in (by omega)]
   have e5:bEq ((((allH b).filter fun q=>!yg b.Stay t q).length:Nat):Int) (((allH b).length:Nat) - (((allH b).filter (yg b.Stay t)).length:Nat):Int)=true:=by rw [bEq_eq,decide_eq_true_eq];omega
   rw [e5]
   simp [bEq_eq,need_true,gt_some]
  ·have A:F25 b t=some ([],TBuffer.mk 0 0 [] [],2):=by
    unfold F25 F61
    rw [hc,Option.bind_some,bif_f (by simp [bEq_eq]),Option.bind_some,bif_t (by simp [bLe_eq];omega)]
   rw [A,Option.bind_some]
   rfl
 ·have A:F25 b t=some ([],TBuffer.mk 0 0 [] [],8):=by
   unfold F25
   rw [hc,Option.bind_some,bif_t (by simp [bEq_eq])]
  rw [A,Option.bind_some]
  rfl
end Go.Proofs.Ytefiemaoacmdkaa
