/-
  Regulate: the law of quiet, for all cells.
-/
import Derived.Test.YtjhkehdbjnhplaaQ8V
namespace Go.Proofs.Ytjhkehdbjnhplaa
open Go.Am
set_option linter.unusedVariables false
set_option linter.unusedSimpArgs false
theorem law8 (p : Int) (l : List TEvent) : F8 p l = some true := by
  unfold F8
  rw [alive_ok, Option.bind_some]
  cases hb : (((bLt p 1 || bLt 5 p) || bLt 150 (l.length : Nat)) || !true) with
  | true => rfl
  | false =>
    simp [bLt_eq] at hb
    obtain ⟨n, hn, e⟩ := L1_ok p (by omega)
    rw [cond_false, cond_true, lp_inl e]
    have c := Ce_A3 hn.1
    have q : ∀ i, i < (A3 n).length -> (gd (A3 n) i).Moving = false /\ (gd (A3 n) i).Heard = 0 := fun i hi => by rw [A3_len] at hi; rw [A3_gd hi]; exact ⟨rfl, rfl⟩
    have h : Me 0 (A3 n) [] := ⟨fun i hi hm => by rw [(q i hi).1] at hm; exact Bool.noConfusion hm, fun _ w hw => absurd hw (List.not_mem_nil), fun _ w hw => absurd hw (List.not_mem_nil), fun w hw => absurd hw (List.not_mem_nil)⟩
    have u : Qu 0 (A3 n) [] [] := ⟨fun n T e => absurd (show (none : Option Int) = some T from e) (by simp), fun w hw => absurd hw (List.not_mem_nil), fun w hw => absurd hw (List.not_mem_nil), fun i hi _ => by rw [(q i hi).2]; exact Int.le_refl _⟩
    obtain ⟨b, e2, hb2⟩ := L2_ok l (by omega) (A3 n) (by rw [A3_len]; exact hn.2) c h u
    rcases hb2 with rfl | rfl
    · rw [lp_inl e2]
    · rw [lp_inr e2]
end Go.Proofs.Ytjhkehdbjnhplaa
