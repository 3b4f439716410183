/-
  Buffers: copies, the place of a station, polling.
-/
import Derived.Test.YtefiemaoacmdkaaBX
namespace Go.Proofs.Ytefiemaoacmdkaa
open Go.Am
set_option linter.unusedVariables false
set_option linter.unusedSimpArgs false
theorem nd_cap {α:Type} {b n:Nat} {k:Option α} (h1:(n:Int) * b <= 140737488355328) (h2:n <= 140737488355328):need (capb b n) k=k:=need_true (capb_iff.2 ⟨h1,h2⟩)
theorem set_gd {α:Type} [Inhabited α] (l:List α) (i:Nat):l.set i (gd l i)=l:=by
 rcases Nat.lt_or_ge i l.length with h|h
 ·apply List.ext_getElem (by simp)
  intro j h1 h2
  rw [List.getElem_set]
  split
  ·rename_i e;subst e;rw [← gd_at h]
  ·rfl
 ·exact List.set_eq_of_length_le h
theorem twin_ok (f:TFrame) (h:Fq f):F63 f=some f:=by
 unfold Fq at h
 unfold F63
 rw [nd_cap (by omega) (by omega)]
 rfl
theorem queue_ok (l:List TStored) (hl:l.length <= 1000) (h:Sq l):F93 l=some l:=by
 unfold F93
 have l1:=run_gen (step:=fun s=>F93_L1 l s.1 s.2) (R:=List TStored) l.length (fun i=>(l.take i,(i:Int))) l (fun i hi=>by
   show F93_L1 l (l.take i) i=_
   unfold F93_L1
   have ht:(l.take i).length=i:=by simp;omega
   rw [bif_t (by simp [bLt_eq];omega),need_true (inb_nat hi),Int.toNat_natCast,show F63 _=_ from twin_ok (gd l i).Frame (h _ (gd_mem hi)),Option.bind_some,nd_cap (by omega) (by omega),wr_add1 hi (by omega),take_snoc hi])
  (by show F93_L1 l (l.take l.length) _=_;unfold F93_L1;rw [bif_f (by simp [bLt_eq]),List.take_length])
 replace l1:loopD (fun s=>F93_L1 l s.1 s.2) (([]:List TStored),(0:Int))=some (.inl l):=by simpa using l1
 rw [lp_inl l1]
def Nb (b:TBuffer):Prop:=b.List.length <= 1000/\b.Group.length <= 1000/\∀ s ∈ b.List,s.Held.length <= 1000
theorem Nb_of {b:TBuffer} (h:Ng b):Nb b:=⟨by have:=h.1;omega,by have:=h.2.1;omega,fun s hs=>by obtain ⟨i,hi,rfl⟩:=mem_gd hs;have:=h.2.2 i hi;omega⟩
/-! ### The place of a station -/
theorem cut_ex (p:Nat->Prop) (n:Nat):∃ a,a <= n/\(∀ i,i < a->¬ p i)/\(a < n->p a):=by
 induction n with
 | zero=>exact ⟨0,by omega,fun i hi=>by omega,fun h=>by omega⟩
 | succ n ih =>
  obtain ⟨a,h1,h2,h3⟩:=ih
  rcases Nat.lt_or_ge a n with q|q
  ·exact ⟨a,by omega,h2,fun _=>h3 q⟩
  ·obtain rfl:a=n:=by omega
   by_cases hp:p a
   ·exact ⟨a,by omega,h2,fun _=>hp⟩
   ·refine ⟨a+1,by omega,fun i hi=>?_,fun h=>by omega⟩
    rcases Nat.lt_or_eq_of_le (Nat.le_of_lt_succ hi) with q2|rfl
    ·exact h2 i q2
    ·exact hp
end Go.Proofs.Ytefiemaoacmdkaa
