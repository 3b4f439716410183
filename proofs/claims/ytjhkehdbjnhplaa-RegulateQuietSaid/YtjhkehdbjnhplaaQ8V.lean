/-
  Regulate: a cell at its beginning.
-/
import Derived.Test.YtjhkehdbjnhplaaQ8Z
namespace Go.Proofs.Ytjhkehdbjnhplaa
open Go.Am
set_option linter.unusedVariables false
set_option linter.unusedSimpArgs false
def N3 (lead : Bool) : TRegulate := ⟨T3, 1, lead, 0, false, false, 0, 0, [], []⟩
theorem new_t : F25 T3 1 true 0 = some (N3 true, 0) := by kernel_rfl
theorem new_f : F25 T3 1 false 0 = some (N3 false, 0) := by kernel_rfl
theorem Vt_T3 : Vt T3 := by
  refine ⟨by decide, ?_, ?_⟩
  · intro q hq; simp [T3] at hq; rcases hq with rfl | rfl | rfl <;> decide
  · simp [Rc, T3]
theorem S3_N3 (b : Bool) : S3 (N3 b) := by
  have z0 : Mo 0 := by unfold Mo; decide
  refine ⟨⟨Vt_T3, (ht3 (s := N3 b) rfl).2 (.inl rfl), z0, z0, fun _ => rfl, fun h => Bool.noConfusion (show false = true from h), fun _ => ⟨rfl, rfl⟩, List.Pairwise.nil, List.Pairwise.nil, fun b hb => absurd hb (List.not_mem_nil), fun n hn => absurd hn (List.not_mem_nil)⟩, rfl⟩
def A3 (n : Nat) : List TRegulate := (List.range n).map fun i : Nat => N3 (bEq (i : Int) 0)
theorem A3_len (n : Nat) : (A3 n).length = n := by simp [A3]
theorem A3_gd {n i : Nat} (h : i < n) : gd (A3 n) i = N3 (bEq (i : Int) 0) := by
  simp [gd, List.getD_eq_getElem?_getD, A3, h]
theorem A3_succ (n : Nat) : A3 (n + 1) = A3 n ++ [N3 (bEq (n : Int) 0)] := by simp [A3, List.range_succ]
theorem L1_ok (p : Int) (h : 1 <= p /\ p <= 5) : ∃ n : Nat, (1 <= n /\ n <= 6) /\ loopD (fun s => F8_L1 p s.1 s.2) (0, []) = some (.inl (A3 n)) := by
  refine ⟨(p + 1).toNat, by omega, ?_⟩
  have e0 : ((0 : Int), ([] : List TRegulate)) = (fun i : Nat => ((i : Int), A3 i)) 0 := rfl
  rw [e0]
  refine run_gen (step := fun s => F8_L1 p s.1 s.2) (p + 1).toNat (fun i : Nat => ((i : Int), A3 i)) _ (fun i hi => ?_) ?_
  · show F8_L1 p (i : Int) (A3 i) = _
    unfold F8_L1
    rw [bif_t (c := bLe _ _) (by simp [bLe_eq]; omega), F43_is, Option.bind_some]
    have e : F25 T3 1 (bEq (i : Int) 0) 0 = some (N3 (bEq (i : Int) 0), 0) := by
      cases bEq (i : Int) 0 with
      | true => exact new_t
      | false => exact new_f
    rw [e, Option.bind_some, bif_f (by show (!bEq (0 : Int) 0) = false; decide), wr_add1 hi (by omega), A3_succ, need_true (capb_iff.2 (by rw [A3_len]; omega))]
  · show F8_L1 p ((p + 1).toNat : Int) _ = _
    unfold F8_L1
    rw [bif_f (c := bLe _ _) (by simp [bLe_eq]; omega)]
theorem Ce_A3 {n : Nat} (h : 1 <= n) : Ce 0 (A3 n) [] := by
  refine ⟨by rw [A3_len]; exact h, fun i hi => ?_, fun w hw => absurd hw (List.not_mem_nil)⟩
  rw [A3_len] at hi
  rw [A3_gd hi]
  refine ⟨S3_N3 _, ?_⟩
  show bEq (i : Int) 0 = true ↔ i = 0
  simp [bEq_eq]
end Go.Proofs.Ytjhkehdbjnhplaa
