/-
  Loops over lists: checks, first places, filters, binary search, putting in at its place.
-/
import Derived.Test.YtnclkplbeenmdaaPW
namespace Go.Am
set_option linter.unusedVariables false
set_option linter.unusedSimpArgs false
set_option linter.unusedSectionVars false
section
variable {α:Type} [Inhabited α]
theorem gd_at {l:List α} {j:Nat} (h:j < l.length):l[j]=gd l j:=by simp [gd,List.getD_eq_getElem?_getD,h]
theorem take_snoc {l:List α} {i:Nat} (h:i < l.length):l.take (i+1)=l.take i ++ [gd l i]:=by
 rw [List.take_succ_eq_append_getElem h,gd_at h]
theorem run_gen {S E R:Type} {step:S->Option (Lp S (E ⊕ R))} (n:Nat) (f:Nat->S) (e:E) (hs:∀ i:Nat,i < n->step (f i)=some (.next (f (i+1)))) (he:step (f n)=some (.done (.inl e))):loopD step (f 0)=some (.inl e):=by
 obtain ⟨b,l1,l2⟩:=loop_forS (step:=step) n f (fun _=>True) (fun b=>b = .inl e) trivial (fun i hi _=>.inr ⟨hs i hi,trivial⟩) (fun _=>⟨_,he,rfl⟩)
 rw [l2] at l1
 exact l1
theorem first_gen {E R:Type} {step:Int->Option (Lp Int (E ⊕ R))} (n:Nat) (p:Nat->Prop) (res:Nat->R) (e:E)
  (hs:∀ i:Nat,i < n->(∀ j,j < i->¬ p j)->(¬ p i/\step i=some (.next ((i+1:Nat):Int))) ∨ (p i/\step i=some (.done (.inr (res i)))))
  (he:step n=some (.done (.inl e))) :
  ((∀ i,i < n->¬ p i)/\loopD step 0=some (.inl e)) ∨ ∃ i:Nat,i < n/\p i/\(∀ j,j < i->¬ p j)/\loopD step 0=some (.inr (res i)):=by
 obtain ⟨b,l1,l2⟩:=loop_for (step:=step) n (fun k=>∀ i,i < k->¬ p i) (fun b=>(b = .inl e/\∀ i,i < n->¬ p i) ∨ ∃ i:Nat,i < n/\p i/\(∀ j,j < i->¬ p j)/\b = .inr (res i)) (fun i hi=>absurd hi (by omega))
  (fun i hi hI=>by
   rcases hs i hi hI with ⟨q,e⟩|⟨q,e⟩
   ·refine .inr ⟨e,fun j hj=>?_⟩
    rcases Nat.lt_or_eq_of_le (Nat.le_of_lt_succ hj) with h|rfl
    ·exact hI j h
    ·exact q
   ·exact .inl ⟨_,e,.inr ⟨i,hi,q,hI,rfl⟩⟩)
  (fun hI=>⟨_,he,.inl ⟨rfl,hI⟩⟩)
 rcases l2 with ⟨rfl,h⟩|⟨i,h1,h2,h3,rfl⟩
 ·exact .inl ⟨h,l1⟩
 ·exact .inr ⟨i,h1,h2,h3,l1⟩
theorem chk_gen {E R:Type} {step:Int->Option (Lp Int (E ⊕ R))} (n:Nat) (P:Nat->Prop) (bad:R) (e:E)
  (hs:∀ i:Nat,i < n->(P i/\step i=some (.next ((i+1:Nat):Int))) ∨ (¬ P i/\step i=some (.done (.inr bad))))
  (he:step n=some (.done (.inl e))) :
  ((∀ i,i < n->P i)/\loopD step 0=some (.inl e)) ∨ (¬ (∀ i,i < n->P i)/\loopD step 0=some (.inr bad)):=by
 rcases first_gen (step:=step) n (fun i=>¬ P i) (fun _=>bad) e (fun i hi _=>by
  rcases hs i hi with ⟨q,e⟩|⟨q,e⟩
  ·exact .inl ⟨fun h=>h q,e⟩
  ·exact .inr ⟨q,e⟩) he with ⟨h,l⟩|⟨i,h1,h2,_,l⟩
 ·exact .inl ⟨fun i hi=>Classical.not_not.1 (h i hi),l⟩
 ·exact .inr ⟨fun h=>h2 (h i h1),l⟩
end
end Go.Am
