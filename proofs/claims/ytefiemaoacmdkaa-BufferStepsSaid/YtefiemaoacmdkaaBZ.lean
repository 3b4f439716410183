/-
  Buffers: copies, the place of a station, polling.
-/
import Derived.Test.YtefiemaoacmdkaaBX
namespace Go.Proofs.Ytefiemaoacmdkaa
open Go.Am
set_option linter.unusedVariables false
set_option linter.unusedSimpArgs false
theorem nd_cap {α:Type} {b n:Nat} {k:Option α} (h1:(n:Int) * b <= 140737488355328) (h2:n <= 140737488355328):need (capb b n) k=k:=need_true (capb_iff.2 ⟨h1,h2⟩)
theorem inb_0 {n:Nat} (h:0 < n):inb 0 n=true:=inb_nat (i:=0) h
theorem set_gd {α:Type} [Inhabited α] (l:List α) (i:Nat):l.set i (gd l i)=l:=by
 rcases Nat.lt_or_ge i l.length with h|h
 ·apply List.ext_getElem (by simp)
  intro j h1 h2
  rw [List.getElem_set]
  split
  ·rename_i e;subst e;rw [← bD h]
  ·rfl
 ·exact List.set_eq_of_length_le h
theorem twin_ok (f:TFrame) (h:Fq f):F63 f=some f:=by
 unfold Fq at h
 unfold F63
 rw [nd_cap (by omega) (by omega)]
 rfl
theorem queue_ok (l:List TStored) (hl:l.length <= 1000) (h:Sq l):F93 l=some l:=by
 unfold F93
 have l1:=run_gen (step:=fun s=>bV l s.1 s.2) (R:=List TStored) l.length (fun i=>(l.take i,(i:Int))) l (fun i hi=>by
   show bV l (l.take i) i=_
   unfold bV
   have ht:(l.take i).length=i:=by simp;omega
   rw [bif_t (by simp [bLt_eq];omega),need_true (inb_nat hi),Int.toNat_natCast,show F63 _=_ from twin_ok (gd l i).Frame (h _ (gd_mem hi)),Option.bind_some,nd_cap (by omega) (by omega),wr_add1 hi (by omega),take_snoc hi])
  (by show bV l (l.take l.length) _=_;unfold bV;rw [bif_f (by simp [bLt_eq]),List.take_length])
 replace l1:loopD (fun s=>bV l s.1 s.2) (([]:List TStored),(0:Int))=some (.inl l):=by simpa using l1
 rw [lp_inl l1]
theorem queue2_ok (l:List TStored) (hl:l.length <= 1000) (h:Sq l):F93_0 l=some l:=queue_ok l hl h
def Nb (b:TBuffer):Prop:=b.List.length <= 1000/\b.Group.length <= 1000/\∀ s ∈ b.List,s.Held.length <= 1000
theorem Nb_of {b:TBuffer} (h:Ng b):Nb b:=⟨by have:=h.1;omega,by have:=h.2.1;omega,fun s hs=>by obtain ⟨i,hi,rfl⟩:=mem_gd hs;have:=h.2.2 i hi;omega⟩
theorem btwin_ok (b:TBuffer) (hn:Nb b) (h:Bq b):F65 b=some b:=by
 obtain ⟨n1,n2,n3⟩:=hn
 unfold F65 F92
 rw [nd_cap (by omega) (by omega),Option.bind_some]
 have l1:=run_gen (step:=fun s=>eH b.List s.1 s.2) (R:=TBuffer) b.List.length (fun i=>((i:Int),b.List)) b.List (fun i hi=>by
   show eH b.List i b.List=_
   unfold eH
   rw [bif_t (by simp [bLt_eq];omega),need_true (inb_nat hi),Int.toNat_natCast,queue2_ok _ (n3 _ (gd_mem hi)) (h.2 _ (gd_mem hi)),Option.bind_some,need_true (inb_nat hi),wr_add1 hi (by omega)]
   rw [show b.List.set i _=b.List from set_gd b.List i])
  (by show eH b.List _ b.List=_;unfold eH;rw [bif_f (by simp [bLt_eq])])
 replace l1:loopD (fun s=>eH b.List s.1 s.2) ((0:Int),b.List)=some (.inl b.List):=by simpa using l1
 rw [lp_inl l1,queue_ok _ n2 h.1]
 rfl
theorem btwinf_ok (gi:Nat) (b:TBuffer) (hg:gi < b.List.length) (hn:Nb b) (h:Bq b):bU gi b=some b:=by
 obtain ⟨n1,n2,n3⟩:=hn
 unfold bU F92
 rw [nd_cap (by omega) (by omega),Option.bind_some]
 have l1:=run_gen (step:=fun s=>jD b.List s.1 s.2) (R:=TBuffer) b.List.length (fun i=>((i:Int),b.List)) ((b.List.length:Int),b.List) (fun i hi=>by
   show jD b.List i b.List=_
   unfold jD
   rw [bif_t (by simp [bLt_eq];omega),need_true (by simp [bLt_eq];omega),need_true (inb_nat hi),Int.toNat_natCast,queue2_ok _ (n3 _ (gd_mem hi)) (h.2 _ (gd_mem hi)),Option.bind_some,need_true (inb_nat hi),wr_add1 hi (by omega)]
   rw [show b.List.set i _=b.List from set_gd b.List i])
  (by show jD b.List _ b.List=_;unfold jD;rw [bif_f (by simp [bLt_eq])])
 replace l1:loopD (fun s=>jD b.List s.1 s.2) ((0:Int),b.List)=some (.inl ((b.List.length:Int),b.List)):=by simpa using l1
 rw [lp_inl l1,need_true (by simp [bLt_eq];omega),queue_ok _ n2 h.1]
 rfl
theorem lastB_eq {b:TBuffer} {i:Nat} (h:0 < i):fE b i=(gd b.List (i - 1)).Aid:=by unfold fE;rw [if_neg (by omega)]
theorem aid_rng {b:TBuffer} (h:Vb b) {i:Nat} (hi:i < b.List.length):1 <= (gd b.List i).Aid/\(gd b.List i).Aid <= 255:=by
 have h1:=h.1.2 i hi
 have h2:=aid_pos (b:=b) (n:=i) (fun j hj=>h.1.2 j (by omega))
 exact ⟨by have:=h1.1;omega,h1.2.1⟩
theorem aid_lt {b:TBuffer} (h:Vb b):∀ {i j:Nat},i < j->j < b.List.length->(gd b.List i).Aid < (gd b.List j).Aid:=by
 intro i j hij hj
 obtain ⟨d,rfl⟩:∃ d,j=i+1+d:=⟨j - i - 1,by omega⟩
 induction d with
 | zero =>
  have h1:=(h.1.2 (i+1) hj).1
  rw [lastB_eq (by omega)] at h1
  exact h1
 | succ d ih =>
  have h1:=(h.1.2 (i+1+(d+1)) hj).1
  rw [lastB_eq (by omega)] at h1
  have:=ih (by omega) (by omega)
  rw [show i+1+(d+1) - 1=i+1+d from by omega] at h1
  omega
theorem aid_inj {b:TBuffer} (h:Vb b) {i j:Nat} (hi:i < b.List.length) (hj:j < b.List.length) (e:(gd b.List i).Aid=(gd b.List j).Aid):i=j:=by
 rcases Nat.lt_trichotomy i j with q|q|q
 ·have:=aid_lt h q hj;omega
 ·exact q
 ·have:=aid_lt h q hi;omega
theorem cut_ex (p:Nat->Prop) (n:Nat):∃ a,a <= n/\(∀ i,i < a->¬ p i)/\(a < n->p a):=by
 induction n with
 | zero=>exact ⟨0,by omega,fun i hi=>by omega,fun h=>by omega⟩
 | succ n ih =>
  obtain ⟨a,h1,h2,h3⟩:=ih
  rcases Nat.lt_or_ge a n with q|q
  ·exact ⟨a,by omega,h2,fun _=>h3 q⟩
  ·obtain rfl:a=n:=by omega
   by_cases hp:p a
   ·exact ⟨a,by omega,h2,fun _=>hp⟩
   ·refine ⟨a+1,by omega,fun i hi=>?_,fun h=>by omega⟩
    rcases Nat.lt_or_eq_of_le (Nat.le_of_lt_succ hi) with q2|rfl
    ·exact h2 i q2
    ·exact hp
def Pl (b:TBuffer) (aid:Int) (a:Nat):Prop:=a <= b.List.length/\(∀ i,i < a->(gd b.List i).Aid < aid)/\∀ i,a <= i->i < b.List.length->aid <= (gd b.List i).Aid
theorem place_ok (b:TBuffer) (hg:Ng b) (hv:Vb b) (aid:Int) (ha:0 <= aid/\aid <= 1000):∃ a,Pl b aid a/\F81 b aid=some ((a:Int),decide (a < b.List.length/\(gd b.List a).Aid=aid)):=by
 have hl:=hg.1
 obtain ⟨a,a1,a2,a3⟩:=cut_ex (fun i=>aid <= (gd b.List i).Aid) b.List.length
 have P:Pl b aid a:=⟨a1,fun i hi=>by have:=a2 i hi;omega,fun i hi hl=>by
  rcases Nat.lt_or_eq_of_le hi with q|rfl
  ·have:=a3 (by omega);have:=aid_lt hv q hl;omega
  ·exact a3 hl⟩
 refine ⟨a,P,?_⟩
 have hd:∀ i:Nat,i < b.List.length->F103 (gd b.List i) aid=some ((gd b.List i).Aid - aid):=fun i hi=>by
  have:=aid_rng hv hi
  unfold F103
  rw [wr_in (by omega)]
 unfold F81 F102_0
 have l1:=bs_gen (R:=Int × Bool) (step:=fun s=>F102_0_L1 b.List aid s.1 s.2) b.List (fun q=>F103 q aid) a a1 (by omega)
  (fun i hi=>⟨_,hd i (by omega),by have:=P.2.1 i hi;omega⟩) (fun i hi hl=>⟨_,hd i hl,by have:=P.2.2 i hi hl;omega⟩) (fun s=>rfl)
 rw [lp_inl l1]
 rcases Nat.lt_or_ge a b.List.length with q|q
 ·rw [need_true (by rw [inb_nat q];cases bLt (a:Int) (b.List.length:Int)<;>rfl),Int.toNat_natCast,hd a q,need_true (by cases bLt (a:Int) (b.List.length:Int)<;>rfl),Option.bind_some,gt_some]
  congr 2
  have:((gd b.List a).Aid - aid=0) ↔ (gd b.List a).Aid=aid:=by omega
  simp [bLt_eq,bEq_eq,q,this]
 ·have e:bLt (a:Int) (b.List.length:Int)=false:=by simp [bLt_eq];omega
  rw [e]
  simp [need_true]
  omega
theorem Pl_at {b:TBuffer} {aid:Int} {a:Nat} (hv:Vb b) (P:Pl b aid a):(a < b.List.length/\(gd b.List a).Aid=aid) ∨ ¬ (a < b.List.length/\(gd b.List a).Aid=aid)/\∀ i,i < b.List.length->(gd b.List i).Aid ≠ aid:=by
 by_cases h:a < b.List.length/\(gd b.List a).Aid=aid
 ·exact .inl h
 ·refine .inr ⟨h,fun i hi e=>?_⟩
  rcases Nat.lt_or_ge i a with q|q
  ·have:=P.2.1 i q;omega
  ·rcases Nat.lt_or_eq_of_le q with q2|rfl
   ·have:=aid_lt hv q2 hi;have:=P.2.2 a (Nat.le_refl _) (by omega);omega
   ·exact h ⟨hi,e⟩
end Go.Proofs.Ytefiemaoacmdkaa
