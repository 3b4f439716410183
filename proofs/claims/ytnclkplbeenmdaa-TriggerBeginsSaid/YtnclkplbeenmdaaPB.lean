/-
  TriggerBegins: the frames that both take.
-/
import Derived.Test.YtnclkplbeenmdaaPA
namespace Go.Proofs.Ytnclkplbeenmdaa
open Go.Am
set_option linter.unusedVariables false
set_option linter.unusedSimpArgs false
def Nt (p:TTriggerPlan) (H:List TStored):Nat:=if p.Most=0 then cnt p.Deliver H else min (cnt p.Deliver H) p.Most.toNat
theorem Nt_le (p:TTriggerPlan) (H:List TStored):Nt p H <= cnt p.Deliver H:=by
 unfold Nt
 split
 ·exact Nat.le_refl _
 ·exact Nat.min_le_left _ _
def mF (f:TFrame):TFrame:=TFrame.mk {f.Head with MoreData:=true,Eosp:=false} f.Body
def gF (f:TFrame) (m e:Bool):TFrame:=TFrame.mk {f.Head with MoreData:=m,Eosp:=e} f.Body
noncomputable def fm (d:Int) (H:List TStored) (n:Nat):List TFrame:=(List.range n).map fun i=>mF (ff d H i)
noncomputable def fg (d:Int) (H:List TStored) (N n:Nat):List TFrame:=(List.range n).map fun i=>gF (ff d H i) (decide (0 < cnt d (rs d H (i+1)))) (decide (i+1=N))
theorem fm_len (d:Int) (H:List TStored) (n:Nat):(fm d H n).length=n:=by simp [fm]
theorem fg_len (d:Int) (H:List TStored) (N n:Nat):(fg d H N n).length=n:=by simp [fg]
theorem fm_succ (d:Int) (H:List TStored) (n:Nat):fm d H (n+1)=fm d H n ++ [mF (ff d H n)]:=by simp [fm,List.range_succ]
theorem fg_succ (d:Int) (H:List TStored) (N n:Nat):fg d H N (n+1)=fg d H N n ++ [gF (ff d H n) (decide (0 < cnt d (rs d H (n+1)))) (decide (n+1=N))]:=by simp [fg,List.range_succ]
theorem take_ok (p:TTriggerPlan) (lim:Int) (H:List TStored) (hm:0 <= p.Most) (hn:H.length <= 1000) (h1:Qu H lim 3) (h3:C0 H) :
  loopD (fun s=>F29_L1 p s.1 s.2) (([]:List TFrame),H)=some (.inl (fm p.Deliver H (Nt p H),rs p.Deliver H (Nt p H))):=by
 have hle:=Nt_le p H
 have:=run_gen (step:=fun s=>F29_L1 p s.1 s.2) (R:=TPeriod × TBuffer × Int) (Nt p H) (fun i=>(fm p.Deliver H i,rs p.Deliver H i)) (fm p.Deliver H (Nt p H),rs p.Deliver H (Nt p H)) (fun i hi=>by
   show F29_L1 p (fm p.Deliver H i) (rs p.Deliver H i)=_
   obtain ⟨a1,a2,a3,a4,a5⟩:=rs_ok (d:=p.Deliver) hn h1 h3 i (by omega)
   have a5:=a5 (by omega)
   have hc:p.Most=0 ∨ (i:Int) < p.Most:=by
    by_cases h:p.Most=0
    ·exact .inl h
    ·unfold Nt at hi;rw [if_neg h] at hi;exact .inr (by omega)
   unfold F29_L1
   rw [fm_len,bif_t (by simp only [bEq_eq,bLt_eq,Bool.or_eq_true,decide_eq_true_eq];exact hc)]
   rcases inner2_ok p (rs p.Deliver H i) (by omega) (fun q hq=>h3 q (a3 q hq)) with ⟨k,k1,k2,k4,k3⟩|⟨k1,k2⟩
   ·obtain rfl:pk p.Deliver (rs p.Deliver H i)=k:=pk_of ⟨k1,k2,k4⟩
    rw [lp_inl k3,bif_f (by simp only [bLt_eq,decide_eq_false_iff_not];omega),need_true (inb_nat k1),wr_add1 k1 (by omega),need_true (by unfold delb;simp;omega),Option.bind_some,nd_cap (by omega) (by omega),Int.toNat_natCast,fm_succ]
    rfl
   ·omega)
  (by
   show F29_L1 p (fm p.Deliver H (Nt p H)) (rs p.Deliver H (Nt p H))=_
   obtain ⟨a1,a2,a3,a4,a5⟩:=rs_ok (d:=p.Deliver) hn h1 h3 (Nt p H) hle
   unfold F29_L1
   rw [fm_len]
   by_cases hc:p.Most=0 ∨ ((Nt p H:Nat):Int) < p.Most
   ·have hz:cnt p.Deliver (rs p.Deliver H (Nt p H))=0:=by
     have:Nt p H=cnt p.Deliver H:=by
      unfold Nt at hc ⊢
      split
      ·rfl
      ·rename_i h;rw [if_neg h] at hc;omega
     omega
    rw [bif_t (by simp only [bEq_eq,bLt_eq,Bool.or_eq_true,decide_eq_true_eq];exact hc)]
    rcases inner2_ok p (rs p.Deliver H (Nt p H)) (by omega) (fun q hq=>h3 q (a3 q hq)) with ⟨k,k1,k2,k4,k3⟩|⟨k1,k2⟩
    ·exact absurd k2 (by rw [(cnt_0.1 hz) k k1];exact fun h=>by cases h)
    ·rw [lp_inl k2,bif_t (by rfl)]
   ·rw [bif_f (by simp only [bEq_eq,bLt_eq,Bool.or_eq_false_iff,decide_eq_false_iff_not];omega)])
 exact this
theorem ref1_ok (p:TTriggerPlan) (lim:Int) (H:List TStored) (r10:Int) (hr:minI r10 p.Most=((Nt p H:Nat):Int)) (hd:0 <= p.Deliver/\p.Deliver <= 15) (hn:H.length <= 1000) (h1:Qu H lim 3) (h3:C0 H) (hc:∀ q ∈ H,0 <= q.Cat/\q.Cat <= 3) :
  loopD (fun s=>F30_L1 p r10 s.1 s.2.1 s.2.2) (H,(1:Int),([]:List TFrame))=some (.inl (rs p.Deliver H (Nt p H),fg p.Deliver H (Nt p H) (Nt p H))):=by
 have hle:=Nt_le p H
 have:=run_gen (step:=fun s=>F30_L1 p r10 s.1 s.2.1 s.2.2) (R:=TPeriod × TBuffer × Int) (Nt p H) (fun i=>(rs p.Deliver H i,((i+1:Nat):Int),fg p.Deliver H (Nt p H) i)) (rs p.Deliver H (Nt p H),fg p.Deliver H (Nt p H) (Nt p H)) (fun i hi=>by
   show F30_L1 p r10 (rs p.Deliver H i) ((i+1:Nat):Int) (fg p.Deliver H (Nt p H) i)=_
   obtain ⟨a1,a2,a3,a4,a5⟩:=rs_ok (d:=p.Deliver) hn h1 h3 i (by omega)
   have a5:=a5 (by omega)
   obtain ⟨b1,b2,b3,b4,b5⟩:=rs_ok (d:=p.Deliver) hn h1 h3 (i+1) (by omega)
   have k1:=a5.1
   obtain ⟨k,c1,c2⟩:=count_ok p.Deliver (rs p.Deliver H (i+1)) (by omega) (fun q hq=>by have:=hc q (b3 q hq);omega)
   have c2:=c2 hd (fun j hj=>(hc _ (b3 _ (gd_mem hj))).2)
   subst c2
   have ed:(([] ++ (List.take (pk p.Deliver (rs p.Deliver H i)) (rs p.Deliver H i))) ++ (rs p.Deliver H i).drop (pk p.Deliver (rs p.Deliver H i)+1))=rs p.Deliver H (i+1):=by
    rw [List.nil_append]
    show _=delL _ _ _
    unfold delL
    simp
   unfold F30_L1
   rw [hr,bif_t (by simp only [bLe_eq,decide_eq_true_eq];omega),first_ok _ _ _ (by omega) hd (fun q hq=>hc q (a3 q hq)) a5,Option.bind_some,need_true (inb_nat k1),need_true (by simp [slb];omega),nd_cap (by rw [Int.toNat_natCast];omega) (by rw [Int.toNat_natCast];omega),wr_add1 k1 (by omega),need_true (by simp [slb];omega),nd_cap (by simp only [Int.toNat_natCast];omega) (by simp only [Int.toNat_natCast];omega)]
   simp only [Int.toNat_natCast]
   rw [ed,Option.bind_some,c1,Option.bind_some,fg_len,nd_cap (by omega) (by omega),wr_add1 (n:=2000) (by omega) (by omega),fg_succ]
   have e1:bLt 0 ((cnt p.Deliver (rs p.Deliver H (i+1)):Nat):Int)=decide (0 < cnt p.Deliver (rs p.Deliver H (i+1))):=by simp [bLt_eq]
   have e2:bEq ((i+1:Nat):Int) ((Nt p H:Nat):Int)=decide (i+1=Nt p H):=by simp only [bEq_eq];congr 1;exact propext ⟨fun h=>by omega,fun h=>by omega⟩
   rw [e1,e2]
   rfl)
  (by
   show F30_L1 p r10 (rs p.Deliver H (Nt p H)) ((Nt p H+1:Nat):Int) (fg p.Deliver H (Nt p H) (Nt p H))=_
   unfold F30_L1
   rw [hr,bif_f (by simp only [bLe_eq,decide_eq_false_iff_not];omega)])
 exact this
theorem ref2_ok (p:TTriggerPlan) (lim:Int) (H:List TStored) (r10:Int) (hr:r10=((Nt p H:Nat):Int)) (hd:0 <= p.Deliver/\p.Deliver <= 15) (hn:H.length <= 1000) (h1:Qu H lim 3) (h3:C0 H) (hc:∀ q ∈ H,0 <= q.Cat/\q.Cat <= 3) :
  loopD (fun s=>F30_L2 p r10 s.1 s.2.1 s.2.2) (H,(1:Int),([]:List TFrame))=some (.inl (rs p.Deliver H (Nt p H),fg p.Deliver H (Nt p H) (Nt p H))):=by
 have hle:=Nt_le p H
 have:=run_gen (step:=fun s=>F30_L2 p r10 s.1 s.2.1 s.2.2) (R:=TPeriod × TBuffer × Int) (Nt p H) (fun i=>(rs p.Deliver H i,((i+1:Nat):Int),fg p.Deliver H (Nt p H) i)) (rs p.Deliver H (Nt p H),fg p.Deliver H (Nt p H) (Nt p H)) (fun i hi=>by
   show F30_L2 p r10 (rs p.Deliver H i) ((i+1:Nat):Int) (fg p.Deliver H (Nt p H) i)=_
   obtain ⟨a1,a2,a3,a4,a5⟩:=rs_ok (d:=p.Deliver) hn h1 h3 i (by omega)
   have a5:=a5 (by omega)
   obtain ⟨b1,b2,b3,b4,b5⟩:=rs_ok (d:=p.Deliver) hn h1 h3 (i+1) (by omega)
   have k1:=a5.1
   obtain ⟨k,c1,c2⟩:=count_ok p.Deliver (rs p.Deliver H (i+1)) (by omega) (fun q hq=>by have:=hc q (b3 q hq);omega)
   have c2:=c2 hd (fun j hj=>(hc _ (b3 _ (gd_mem hj))).2)
   subst c2
   have ed:(([] ++ (List.take (pk p.Deliver (rs p.Deliver H i)) (rs p.Deliver H i))) ++ (rs p.Deliver H i).drop (pk p.Deliver (rs p.Deliver H i)+1))=rs p.Deliver H (i+1):=by
    rw [List.nil_append]
    show _=delL _ _ _
    unfold delL
    simp
   unfold F30_L2
   rw [hr,bif_t (by simp only [bLe_eq,decide_eq_true_eq];omega),first_ok _ _ _ (by omega) hd (fun q hq=>hc q (a3 q hq)) a5,Option.bind_some,need_true (inb_nat k1),need_true (by simp [slb];omega),nd_cap (by rw [Int.toNat_natCast];omega) (by rw [Int.toNat_natCast];omega),wr_add1 k1 (by omega),need_true (by simp [slb];omega),nd_cap (by simp only [Int.toNat_natCast];omega) (by simp only [Int.toNat_natCast];omega)]
   simp only [Int.toNat_natCast]
   rw [ed,Option.bind_some,c1,Option.bind_some,fg_len,nd_cap (by omega) (by omega),wr_add1 (n:=2000) (by omega) (by omega),fg_succ]
   have e1:bLt 0 ((cnt p.Deliver (rs p.Deliver H (i+1)):Nat):Int)=decide (0 < cnt p.Deliver (rs p.Deliver H (i+1))):=by simp [bLt_eq]
   have e2:bEq ((i+1:Nat):Int) ((Nt p H:Nat):Int)=decide (i+1=Nt p H):=by simp only [bEq_eq];congr 1;exact propext ⟨fun h=>by omega,fun h=>by omega⟩
   rw [e1,e2]
   rfl)
  (by
   show F30_L2 p r10 (rs p.Deliver H (Nt p H)) ((Nt p H+1:Nat):Int) (fg p.Deliver H (Nt p H) (Nt p H))=_
   unfold F30_L2
   rw [hr,bif_f (by simp only [bLe_eq,decide_eq_false_iff_not];omega)])
 exact this
end Go.Proofs.Ytnclkplbeenmdaa
