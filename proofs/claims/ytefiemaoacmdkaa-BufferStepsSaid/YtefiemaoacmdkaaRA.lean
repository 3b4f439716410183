/-
  The reference of the sleepers' buffer: its parts give what they say.
-/
import Derived.Test.YtefiemaoacmdkaaBK
namespace Go.Proofs.Ytefiemaoacmdkaa
open Go.Am
set_option linter.unusedVariables false
set_option linter.unusedSimpArgs false
theorem rtwin_ok (f:TFrame) (h:Fq f):F30 f=some f:=by
 unfold Fq at h
 unfold F30
 rw [nd_cap (by omega) (by omega)]
 rfl
theorem rtq_ok (l:List TStored) (hl:l.length <= 1000) (h:Sq l):F71 l=some l:=by
 unfold F71
 have l1:=run_gen (step:=fun s=>cD l s.1 s.2) (R:=List TStored) l.length (fun i=>(l.take i,(i:Int))) l (fun i hi=>by
   show cD l (l.take i) i=_
   unfold cD
   have ht:(l.take i).length=i:=by simp;omega
   rw [bif_t (by simp [bLt_eq];omega),need_true (inb_nat hi),need_true (inb_nat hi),need_true (inb_nat hi),Int.toNat_natCast,show F30_0 _=_ from rtwin_ok (gd l i).Frame (h _ (gd_mem hi)),Option.bind_some,nd_cap (by omega) (by omega),wr_add1 hi (by omega),take_snoc hi])
  (by show cD l (l.take l.length) _=_;unfold cD;rw [bif_f (by simp [bLt_eq]),List.take_length])
 replace l1:loopD (fun s=>cD l s.1 s.2) (([]:List TStored),(0:Int))=some (.inl l):=by simpa using l1
 rw [lp_inl l1]
theorem rtq2_ok (l:List TStored) (hl:l.length <= 1000) (h:Sq l):F71_0 l=some l:=rtq_ok l hl h
theorem rtw_ok (b:TBuffer) (hn:Nb b) (h:Bq b):F29 b=some b:=by
 obtain ⟨n1,n2,n3⟩:=hn
 unfold F29
 rw [rtq_ok _ n2 h.1,Option.bind_some]
 have l1:=run_gen (step:=fun s=>eG b s.1 s.2) (R:=TBuffer) b.List.length (fun i=>((i:Int),b.List.take i)) b.List (fun i hi=>by
   show eG b i (b.List.take i)=_
   unfold eG
   have ht:(b.List.take i).length=i:=by simp;omega
   rw [bif_t (by simp [bLt_eq];omega),need_true (inb_nat hi),Int.toNat_natCast,rtq2_ok _ (n3 _ (gd_mem hi)) (h.2 _ (gd_mem hi)),Option.bind_some,nd_cap (by omega) (by omega),wr_add1 hi (by omega),take_snoc hi])
  (by show eG b _ (b.List.take b.List.length)=_;unfold eG;rw [bif_f (by simp [bLt_eq]),List.take_length])
 replace l1:loopD (fun s=>eG b s.1 s.2) ((0:Int),([]:List TSleeper))=some (.inl b.List):=by simpa using l1
 rw [lp_inl l1]
theorem rfr_ok (l:List TStored) (hn:l.length <= 1000):F35 l=some (l.map (·.Frame)):=by
 unfold F35
 have l1:=run_gen (step:=fun s=>cA l s.1 s.2) (R:=List TFrame) l.length (fun i=>((l.take i).map (·.Frame),(i:Int))) (l.map (·.Frame)) (fun i hi=>by
   show cA l ((l.take i).map (·.Frame)) i=_
   unfold cA
   have ht:((l.take i).map (·.Frame)).length=i:=by simp;omega
   rw [bif_t (by simp [bLt_eq];omega),need_true (inb_nat hi),Int.toNat_natCast,nd_cap (by omega) (by omega),wr_add1 hi (by omega),take_snoc hi,List.map_append]
   rfl)
  (by show cA l ((l.take l.length).map (·.Frame)) _=_;unfold cA;rw [bif_f (by simp [bLt_eq]),List.take_length])
 replace l1:loopD (fun s=>cA l s.1 s.2) (([]:List TFrame),(0:Int))=some (.inl (l.map (·.Frame))):=by simpa using l1
 rw [lp_inl l1]
theorem ext_gd {α:Type} [Inhabited α] {l m:List α} (hl:l.length=m.length) (h:∀ i:Nat,i < l.length->gd l i=gd m i):l=m:=by
 refine List.ext_getElem hl fun i h1 h2=>?_
 have:=h i h1
 simpa [gd,List.getD_eq_getElem?_getD,h1,h2] using this
theorem rhd_ok (l:List TFrame) (hn:l.length <= 1000):∃ r,F97 l=some r/\r.length=l.length/\∀ i:Nat,i < l.length->gd r i=mk1 (gd l i) (decide (i+1 < l.length)):=by
 unfold F97
 obtain ⟨r,l1,l2⟩:=loop_inv (step:=fun s:List TFrame × Int=>F97_L1 l s.1 s.2) (fun s=>∃ (i:Nat) (w:List TFrame),s=(w,(i:Int))/\i <= l.length/\w.length=i/\(∀ j:Nat,j < i->gd w j=mk1 (gd l j) (decide (j+1 < l.length))))
  (fun r=>∃ w,r = .inl w/\w.length=l.length/\∀ i:Nat,i < l.length->gd w i=mk1 (gd l i) (decide (i+1 < l.length))) (fun s=>(l.length - s.2).toNat)
  (fun s hI=>by
   obtain ⟨i,w,rfl,h1,h2,h3⟩:=hI
   unfold F97_L1
   simp only
   by_cases hi:i < l.length
   ·rw [bif_t (by simp [bLt_eq];omega),need_true (inb_nat (by omega)),Int.toNat_natCast,nd_cap (by omega) (by omega),wr_add1 hi (by omega),wr_in (x:=((l.length:Nat):Int) - 1) (by omega)]
    refine .inr ⟨_,rfl,⟨i+1,_,rfl,by omega,by simp [h2],fun j hj=>?_⟩,by simp only;omega⟩
    rcases Nat.lt_or_eq_of_le (Nat.le_of_lt_succ hj) with h|rfl
    ·rw [app_gd,if_pos (by omega)];exact h3 j h
    ·rw [app_gd,if_neg (by omega),h2,Nat.sub_self]
     unfold mk1
     simp only [bLt_eq,gd_one]
     congr 2
     simp
     omega
   ·obtain rfl:i=l.length:=by omega
    rw [bif_f (by simp [bLt_eq])]
    exact .inl ⟨_,rfl,w,rfl,h2,h3⟩)
  ([],(0:Int)) ⟨0,[],rfl,by omega,rfl,fun j hj=>by omega⟩
 obtain ⟨w,rfl,w1,w2⟩:=l2
 rw [lp_inl l1]
 exact ⟨w,rfl,w1,w2⟩
theorem hand_eq (l:List TFrame) (hn:l.length <= 1000):∃ r,eR l=some r/\F97 l=some r/\r.length=l.length/\∀ i:Nat,i < l.length->gd r i=mk1 (gd l i) (decide (i+1 < l.length)):=by
 obtain ⟨r,r1,r2,r3⟩:=hand_ok l hn
 obtain ⟨q,q1,q2,q3⟩:=rhd_ok l hn
 have:q=r:=ext_gd (by omega) fun i hi=>by rw [q3 i (by omega),r3 i (by omega)]
 subst this
 exact ⟨q,r1,q1,r2,r3⟩
theorem raslp_ok (b:TBuffer) (hn:b.List.length <= 1000):∃ r,F49 b=some r/\(r=true ↔ Asl b):=by
 unfold F49
 obtain ⟨r,l1,l2⟩:=loop_for (step:=fun s=>F49_L1 b s) b.List.length (fun n=>∀ i:Nat,i < n->(gd b.List i).Asleep=false) (fun r=>match r with|.inl _=>¬ Asl b|.inr k=>k=true/\Asl b) (fun i hi=>by omega)
  (fun i hi hI=>by
   unfold F49_L1
   rw [bif_t (by simp [bLt_eq];omega),need_true (inb_nat hi),Int.toNat_natCast]
   cases ha:(gd b.List i).Asleep with
   | true=>exact .inl ⟨_,rfl,rfl,i,hi,ha⟩
   | false =>
    rw [cond_false,wr_add1 hi (by omega)]
    refine .inr ⟨rfl,fun j hj=>?_⟩
    rcases Nat.lt_or_eq_of_le (Nat.le_of_lt_succ hj) with h|rfl
    ·exact hI j h
    ·exact ha)
  (fun hI=>by
   unfold F49_L1
   rw [bif_f (by simp [bLt_eq])]
   exact ⟨_,rfl,fun ⟨i,h1,h2⟩=>by rw [hI i h1] at h2;cases h2⟩)
 cases r with
 | inl u=>rw [lp_inl l1];exact ⟨_,rfl,fun h=>(by cases h),fun h=>absurd h l2⟩
 | inr k=>rw [lp_inr l1];obtain ⟨rfl,h⟩:=l2;exact ⟨_,rfl,fun _=>h,fun _=>rfl⟩
theorem aslp_eq (b:TBuffer) (hn:b.List.length <= 1000):∃ r,F47 b=some r/\F49 b=some r/\(r=true ↔ Asl b):=by
 obtain ⟨r,r1,r2⟩:=aslp_ok b hn
 obtain ⟨q,q1,q2⟩:=raslp_ok b hn
 have:q=r:=Bool.eq_iff_iff.2 (q2.trans r2.symm)
 subst this
 exact ⟨q,r1,q1,r2⟩
end Go.Proofs.Ytefiemaoacmdkaa
