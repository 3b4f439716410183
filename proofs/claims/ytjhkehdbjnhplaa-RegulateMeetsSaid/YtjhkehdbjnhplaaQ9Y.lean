/-
  Regulate: the law of meeting, for all cells.
-/
import Derived.Test.YtjhkehdbjnhplaaQ9V
namespace Go.Proofs.Ytjhkehdbjnhplaa
open Go.Am
set_option linter.unusedVariables false
set_option linter.unusedSimpArgs false
theorem law9 (p : Int) (l : List TEvent) : F9 p l = some true := by
  unfold F9
  rw [alive_ok, Option.bind_some]
  cases hb : (((bLt p 1 || bLt 5 p) || bLt 150 (l.length : Nat)) || !true) with
  | true => rfl
  | false =>
    simp [bLt_eq] at hb
    obtain ⟨n, hn, e⟩ := L1_ok p (by omega)
    rw [cond_false, cond_true, lp_inl e]
    have c := Ce_A3 hn.1
    have q : ∀ i, i < (A3 n).length -> (gd (A3 n) i).Moving = false := fun i hi => by rw [A3_len] at hi; rw [A3_gd hi]; rfl
    have h : Me 0 (A3 n) [] := ⟨fun i hi hm => by rw [q i hi] at hm; exact Bool.noConfusion hm, fun _ w hw => absurd hw (List.not_mem_nil), fun _ w hw => absurd hw (List.not_mem_nil), fun w hw => absurd hw (List.not_mem_nil)⟩
    obtain ⟨b, e2, hb2⟩ := L2_ok l (by omega) (A3 n) (by rw [A3_len]; exact hn.2) c h
    rcases hb2 with rfl | rfl
    · rw [lp_inl e2]
    · rw [lp_inr e2]
end Go.Proofs.Ytjhkehdbjnhplaa
