/-
  Ageing and finding.
-/
import Derived.Test.YtpnhehcncljhpaaS6
namespace Go.Proofs.Ytpnhehcncljhpaa
open Go.Am
set_option linter.unusedVariables false
set_option linter.unusedSimpArgs false
/-- Not older than life. -/
def yg (now life : Int) (q : TCandidate) : Bool := !bLt life (now - q.Heard)
theorem take_filter (p : TCandidate → Bool) (l : List TCandidate) {i : Nat} (hi : i < l.length) : (l.take (i + 1)).filter p = bif p (gd l i) then (l.take i).filter p ++ [gd l i] else (l.take i).filter p := by
  have e : gd l i = l[i] := by simp [gd, List.getD_eq_getElem?_getD, hi]
  rw [List.take_succ_eq_append_getElem hi, List.filter_append, e]
  cases h : p l[i] <;> simp [h]
theorem del_ok (l : List TCandidate) (now life : Int) (hl : l.length ≤ 1000) (hn : 0 ≤ now ∧ now ≤ 1099511627776) (hh : ∀ i : Nat, i < l.length → 0 ≤ (gd l i).Heard ∧ (gd l i).Heard ≤ 1099511627776) :
    F44_1 l now life = some (l.filter (yg now life)) := by
  have first : ∃ k : Int, F57_1 l now life = some k ∧ ((k = -1 ∧ ∀ i : Nat, i < l.length → yg now life (gd l i) = true) ∨ ∃ i : Nat, k = i ∧ i < l.length ∧ yg now life (gd l i) = false ∧ ∀ j : Nat, j < i → yg now life (gd l j) = true) := by
    unfold F57_1
    obtain ⟨b, l1, l2⟩ := loop_for (step := fun s => F57_1_L1 l now life s) l.length (fun n => ∀ j : Nat, j < n → yg now life (gd l j) = true) (fun b => match b with | .inl _ => ∀ i : Nat, i < l.length → yg now life (gd l i) = true | .inr k => ∃ i : Nat, k = i ∧ i < l.length ∧ yg now life (gd l i) = false ∧ ∀ j : Nat, j < i → yg now life (gd l j) = true) (fun i hi => by omega)
      (fun i hi hI => by
        have := hh i hi
        unfold F57_1_L1 F49_0
        rw [bif_t (by simp [bLt_eq]; omega), need_true (inb_nat hi), Int.toNat_natCast, Option.bind_some]
        simp only
        rw [wr_in (x := now - (gd l i).Heard) (by omega)]
        cases hb : bLt life (now - (gd l i).Heard) with
        | true => exact .inl ⟨_, rfl, i, rfl, hi, by unfold yg; rw [hb]; rfl, hI⟩
        | false =>
          rw [cond_false, wr_add1 hi (by omega)]
          refine .inr ⟨rfl, fun j hj => ?_⟩
          rcases Nat.lt_or_eq_of_le (Nat.le_of_lt_succ hj) with h | rfl
          · exact hI j h
          · unfold yg; rw [hb]; rfl)
      (fun hI => by
        unfold F57_1_L1
        rw [bif_f (by simp [bLt_eq])]
        exact ⟨_, rfl, hI⟩)
    cases b with
    | inl u => exact ⟨_, lp_inl l1, .inl ⟨rfl, l2⟩⟩
    | inr k => exact ⟨_, lp_inr l1, .inr l2⟩
  obtain ⟨k, k1, k2⟩ := first
  unfold F44_1
  rw [k1, Option.bind_some]
  have full : ∀ n : Nat, n ≤ l.length → (∀ j : Nat, j < n → yg now life (gd l j) = true) → (l.take n).filter (yg now life) = l.take n := fun n hn h => List.filter_eq_self.2 fun x hx => by
    obtain ⟨j, hj, rfl⟩ := List.getElem_of_mem hx
    rw [List.length_take] at hj
    rw [List.getElem_take, gd_get (by omega)]
    exact h j (by omega)
  rcases k2 with ⟨rfl, h⟩ | ⟨i0, rfl, h1, h2, h3⟩
  · rw [bif_t (by simp [bEq])]
    have := full l.length (Nat.le_refl _) h
    rw [List.take_length] at this
    rw [this]
  · rw [bif_f (by simp [bEq]), wr_add1 h1 (by omega)]
    obtain ⟨b, l1, l2⟩ := loop_inv (step := fun s : List TCandidate × Int × Int => F44_1_L1 now life s.1 s.2.1 s.2.2)
      (fun s => ∃ i j : Nat, s.2.1 = i ∧ s.2.2 = j ∧ i < j ∧ j ≤ l.length ∧ s.1.length = l.length ∧ s.1.take i = (l.take j).filter (yg now life) ∧ ∀ m : Nat, j ≤ m → gd s.1 m = gd l m)
      (fun b => ∃ (L : List TCandidate) (i : Nat), b = .inl (L, (i : Int)) ∧ i ≤ L.length ∧ L.take i = l.filter (yg now life)) (fun s => (l.length - s.2.2).toNat)
      (fun s hS => by
        obtain ⟨L, x, y⟩ := s
        obtain ⟨i, j, q1, q2, q3, q4, q5, q6, q7⟩ := hS
        simp only at q1 q2 q5 q6 q7
        subst q1 q2
        unfold F44_1_L1 F49_0
        simp only [eta_A6u8, eta_TCandidate]
        by_cases hj : j < l.length
        · right
          have := hh j hj
          rw [bif_t (c := bLt (j : Int) _) (by simp [bLt_eq]; omega), need_true (inb_nat (by omega)), Int.toNat_natCast, q7 j (Nat.le_refl _), Option.bind_some, Int.toNat_natCast, wr_in (x := now - (gd l j).Heard) (by omega), wr_add1 hj (by omega), wr_add1 (i := i) (n := l.length) (by omega) (by omega), need_true (inb_nat (i := i) (by omega))]
          have tf := take_filter (yg now life) l hj
          cases hb : bLt life (now - (gd l j).Heard) with
          | true =>
            have hy : yg now life (gd l j) = false := by unfold yg; rw [hb]; rfl
            rw [hy, cond_false] at tf
            exact ⟨_, rfl, ⟨i, j + 1, rfl, rfl, by omega, by omega, q5, by simp only; rw [tf]; exact q6, fun m hm => q7 m (by omega)⟩, by simp only; omega⟩
          | false =>
            have hy : yg now life (gd l j) = true := by unfold yg; rw [hb]; rfl
            rw [hy, cond_true] at tf
            refine ⟨_, rfl, ⟨i + 1, j + 1, rfl, rfl, by omega, by omega, by simpa using q5, ?_, fun m hm => ?_⟩, by simp only; omega⟩
            · simp only
              rw [tf, ← q6, List.take_succ_eq_append_getElem (by simp; omega), List.getElem_set_self, List.take_set_of_le (Nat.le_refl _)]
            · simp only
              rw [← q7 m (by omega)]
              simp only [gd, List.getD_eq_getElem?_getD, List.getElem?_set]
              rw [if_neg (by omega)]
        · left
          obtain rfl : j = l.length := by omega
          rw [bif_f (c := bLt _ _) (by simp [bLt_eq, q5])]
          rw [List.take_length] at q6
          exact ⟨_, rfl, L, i, rfl, by omega, q6⟩) (l, (i0 : Int), ((i0 + 1 : Nat) : Int)) ⟨i0, i0 + 1, rfl, rfl, by omega, by omega, rfl, by
            simp only
            rw [take_filter _ _ h1, h2, cond_false, full i0 (by omega) h3], fun m _ => rfl⟩
    obtain ⟨L, i, rfl, q1, q2⟩ := l2
    rw [lp_inl l1]
    simp only [Int.toNat_natCast]
    rw [need_true (slb_iff.2 (by omega)), need_true (slb_iff.2 (by omega)), q2]
theorem age_ok (t : TCandidates) (now life : Int) (hb : Abs t) (hv : Vt t) (hn : 0 ≤ now ∧ now ≤ 1099511627776) (hlife : 0 ≤ life ∧ life ≤ 1099511627776) : F23 t now life = some (TCandidates.mk (t.List.filter (yg now life)), 0) := by
  obtain ⟨k, k1, _, k3⟩ := F46_ok t now hb
  have hk := k3.2 ⟨hv, hn⟩
  subst hk
  have hl := hv.1
  unfold F23 F29
  rw [k1, Option.bind_some, bif_f (by simp [bEq]), Option.bind_some, bif_f (by simp [bLe_eq]; omega)]
  have ec : F36 t.List = some t.List := by unfold F36; rw [need_true (capb_iff.2 (by omega))]
  rw [ec, Option.bind_some, del_ok t.List now life (by omega) hn fun i hi => (hv.2 i hi).1.2.2.2.1]
  rfl
end Go.Proofs.Ytpnhehcncljhpaa
