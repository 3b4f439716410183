/-
  Loops over lists: checks, first places, filters, binary search, putting in at its place.
-/
import Derived.Test.YtnclkplbeenmdaaPW
namespace Go.Am
set_option linter.unusedVariables false
set_option linter.unusedSimpArgs false
set_option linter.unusedSectionVars false
section
variable {α:Type} [Inhabited α]
theorem gd_at {l:List α} {j:Nat} (h:j < l.length):l[j]=gd l j:=by simp [gd,List.getD_eq_getElem?_getD,h]
theorem take_snoc {l:List α} {i:Nat} (h:i < l.length):l.take (i+1)=l.take i ++ [gd l i]:=by
 rw [List.take_succ_eq_append_getElem h,gd_at h]
theorem run_gen {S E R:Type} {step:S->Option (Lp S (E ⊕ R))} (n:Nat) (f:Nat->S) (e:E) (hs:∀ i:Nat,i < n->step (f i)=some (.next (f (i+1)))) (he:step (f n)=some (.done (.inl e))):loopD step (f 0)=some (.inl e):=by
 obtain ⟨b,l1,l2⟩:=loop_forS (step:=step) n f (fun _=>True) (fun b=>b = .inl e) trivial (fun i hi _=>.inr ⟨hs i hi,trivial⟩) (fun _=>⟨_,he,rfl⟩)
 rw [l2] at l1
 exact l1
end
end Go.Am
