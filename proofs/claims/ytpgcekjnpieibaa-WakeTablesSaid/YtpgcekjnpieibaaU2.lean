/-
  The next wake and the first wake.
-/
import Derived.Test.YtpgcekjnpieibaaU1
namespace Go.Proofs.Ytpgcekjnpieibaa
open Go.Am
set_option linter.unusedVariables false
set_option linter.unusedSimpArgs false
theorem next_ok (q : TWakeRule) (now : Int) (sq : Sm q) (hn : -9223372036854775808 ≤ now ∧ now ≤ 60000) : ∃ r : Int × Bool, F12 q now = some r ∧ F13 q now = some r ∧ (r.2 = true → 0 ≤ r.1) := by
  unfold F12 F13
  obtain ⟨v, v1, v2⟩ := F20_ok q
  rw [v1]
  rcases F17_ok q with ⟨hv, e⟩ | ⟨hv, e⟩
  · rw [e]
    obtain rfl := v2.2 hv
    simp only [Option.bind_some, bEq_eq, decide_true, Bool.not_true, cond_false]
    unfold Vd at hv
    obtain ⟨s1, s2, s3⟩ := sq
    by_cases h1 : q.Start ≤ now
    · rw [bif_t (by simp [bLe_eq, h1])]
      by_cases h2 : q.Every = 0
      · rw [bif_t (by simp [h2])]
        have e1 : loopD (fun s => F13_L1 q now s) q.Start = some (.inr (0, false)) := by
          refine loopD_done ?_
          unfold F13_L1
          rw [bif_t (by simp [bLe_eq, h1]), bif_t (by simp [bEq, h2])]
        exact ⟨_, rfl, lp_inr e1, fun h => by cases h⟩
      · rw [bif_f (by simp [h2, bLt_eq]; omega), need_true (by simp [h2])]
        rw [wr_in (x := now - q.Start) (by omega), Int.tdiv_eq_ediv_of_nonneg (by omega)]
        have d0 : 0 ≤ (now - q.Start) / q.Every := Int.ediv_nonneg (by omega) (by omega)
        have d1 := Int.ediv_mul_le (now - q.Start) h2
        have d2 : (now - q.Start) / q.Every ≤ now - q.Start := Int.ediv_le_self _ (by omega)
        have d3 : ∀ j : Int, j * q.Every ≤ now - q.Start → j ≤ (now - q.Start) / q.Every := fun j hj => Int.le_ediv_of_mul_le (by omega) hj
        generalize (now - q.Start) / q.Every = k at d0 d1 d2 d3 ⊢
        have e1 : (k + 1) * q.Every = k * q.Every + q.Every := by rw [Int.add_mul, Int.one_mul]
        have m0 : 0 ≤ k * q.Every := Int.mul_nonneg d0 (by omega)
        rw [wr_in (x := k) (by omega), wr_in (x := k + 1) (by omega), wr_in (x := (k + 1) * _) (by omega), wr_in (x := q.Start + _) (by omega), bif_f (by simp [bLt_eq]; omega)]
        obtain ⟨b, l1, l2⟩ := loop_inv (step := fun s => F13_L1 q now s) (fun s => ∃ j : Nat, s = q.Start + j * q.Every ∧ (j : Int) ≤ k + 1) (fun b => b = .inl (q.Start + (k + 1) * q.Every)) (fun s => (now + 1 - s).toNat)
          (fun s hI => by
            obtain ⟨j, rfl, hj⟩ := hI
            unfold F13_L1
            by_cases h3 : q.Start + (j : Int) * q.Every ≤ now
            · right
              have hj2 := d3 j (by omega)
              rw [bif_t (by simp [bLe_eq, h3]), bif_f (by simp [bEq, h2, bLt_eq]; omega)]
              have e3 : ((j + 1 : Nat) : Int) * q.Every = j * q.Every + q.Every := by rw [Int.natCast_add, Int.add_mul]; simp
              have m1 : 0 ≤ (j : Int) * q.Every := Int.mul_nonneg (by omega) (by omega)
              refine ⟨_, rfl, ⟨j + 1, ?_, by omega⟩, ?_⟩
              · rw [wr_in (by omega), e3]; omega
              · rw [wr_in (by omega)]; omega
            · left
              rw [bif_f (by simp [bLe_eq]; omega)]
              refine ⟨_, rfl, ?_⟩
              have : k + 1 ≤ j := by
                rcases Int.lt_or_le (j : Int) (k + 1) with h | h
                · have m2 := Int.mul_le_mul_of_nonneg_right (show (j : Int) ≤ k by omega) (show 0 ≤ q.Every by omega)
                  omega
                · exact h
              rw [show (j : Int) = k + 1 from by omega]) q.Start ⟨0, by simp, by omega⟩
        subst l2
        rw [lp_inl l1, bif_f (by simp [bLt_eq]; omega)]
        exact ⟨_, rfl, rfl, fun _ => by simp only; omega⟩
    · rw [bif_f (by simp [bLe_eq]; omega), bif_f (by simp [bLt_eq]; omega)]
      have e1 : loopD (fun s => F13_L1 q now s) q.Start = some (.inl q.Start) := by
        refine loopD_done ?_
        unfold F13_L1
        rw [bif_f (by simp [bLe_eq]; omega)]
      rw [lp_inl e1, bif_f (by simp [bLt_eq]; omega)]
      exact ⟨_, rfl, rfl, fun _ => by simp only; omega⟩
  · rw [e]
    have : v = false := by cases v with | true => exact absurd (v2.1 rfl) hv | false => rfl
    subst this
    exact ⟨_, rfl, rfl, fun h => by cases h⟩
/-- The next wake of an agreement. -/
noncomputable def fN (now : Int) (q : TWakeRule) : Int × Bool := gt (F12 q now)
noncomputable def m1 (now : Int) (l : List TWakeRule) : Nat → Int
  | 0 => -1
  | n + 1 => bif (fN now (gd l n)).2 && (bLt (m1 now l n) 0 || bLt (fN now (gd l n)).1 (m1 now l n)) then (fN now (gd l n)).1 else m1 now l n
noncomputable def idL (now : Int) (l : List TWakeRule) (w : Int) : Nat → List Int
  | 0 => []
  | n + 1 => bif (fN now (gd l n)).2 && bEq (fN now (gd l n)).1 w then idL now l w n ++ [(gd l n).Id] else idL now l w n
/-- What is known of the next wakes. -/
def Nx (now : Int) (l : List TWakeRule) : Prop := ∀ i : Nat, i < l.length → F12 (gd l i) now = some (fN now (gd l i)) ∧ F13 (gd l i) now = some (fN now (gd l i)) ∧ ((fN now (gd l i)).2 = true → 0 ≤ (fN now (gd l i)).1)
theorem Nx_of {now : Int} {l : List TWakeRule} (hs : ∀ i : Nat, i < l.length → Sm (gd l i)) (hn : -9223372036854775808 ≤ now ∧ now ≤ 60000) : Nx now l := fun i hi => by
  obtain ⟨r, r1, r2, r3⟩ := next_ok (gd l i) now (hs i hi) hn
  have e : fN now (gd l i) = r := by unfold fN; rw [r1]; rfl
  rw [e]
  exact ⟨r1, r2, r3⟩
theorem idL_len (now : Int) (l : List TWakeRule) (w : Int) (n : Nat) : (idL now l w n).length ≤ n := by
  induction n with
  | zero => simp [idL]
  | succ n ih =>
    unfold idL
    cases (fN now (gd l n)).2 && bEq (fN now (gd l n)).1 w with
    | true => simp; omega
    | false => simp only [cond_false]; omega
theorem idL_nil {now : Int} {l : List TWakeRule} (hN : Nx now l) : ∀ n : Nat, n ≤ l.length → ∀ w : Int, 0 ≤ w → (m1 now l n < 0 ∨ w < m1 now l n) → idL now l w n = [] := by
  intro n
  induction n with
  | zero => intro _ w _ _; rfl
  | succ n ih =>
    intro hn w hw h
    have ih := ih (by omega) w hw
    have hp := (hN n (by omega)).2.2
    unfold m1 at h
    unfold idL
    cases h2 : (fN now (gd l n)).2 with
    | false => rw [h2] at h; simp only [Bool.false_and, cond_false] at h ⊢; exact ih h
    | true =>
      have hp := hp h2
      rw [h2] at h
      simp only [Bool.true_and] at h ⊢
      cases hc : (bLt (m1 now l n) 0 || bLt (fN now (gd l n)).1 (m1 now l n)) with
      | true =>
        rw [hc, cond_true] at h
        rw [bif_f (by simp [bEq]; omega)]
        refine ih ?_
        simp [bLt_eq] at hc
        omega
      | false =>
        rw [hc, cond_false] at h
        simp [bLt_eq] at hc
        rw [bif_f (by simp [bEq]; omega)]
        exact ih h
theorem idL_ne {now : Int} {l : List TWakeRule} (n : Nat) (h : 0 ≤ m1 now l n) : idL now l (m1 now l n) n ≠ [] := by
  induction n with
  | zero => simp [m1] at h
  | succ n ih =>
    unfold m1 at h ⊢
    unfold idL
    cases hc : ((fN now (gd l n)).2 && (bLt (m1 now l n) 0 || bLt (fN now (gd l n)).1 (m1 now l n))) with
    | true =>
      rw [cond_true, bif_t (by simp only [Bool.and_eq_true] at hc ⊢; exact ⟨hc.1, by simp [bEq]⟩)]
      simp
    | false =>
      rw [hc, cond_false] at h
      rw [cond_false]
      cases (fN now (gd l n)).2 && bEq (fN now (gd l n)).1 (m1 now l n) with
      | true => simp
      | false => exact ih h
theorem first_ok (t : TWakeTable) (now : Int) (hN : Nx now t.List) (hn : t.List.length ≤ 1000) : ∃ r : Int × List Int × Int, F28 t now = some r ∧ F29 t now = some r ∧ r.2.1.length ≤ 1000 := by
  unfold F28 F29
  obtain ⟨v, v1, v2⟩ := F33_ok t
  rw [v1]
  rcases F32_ok t with ⟨hv, e⟩ | ⟨hv, e⟩
  · rw [e]
    obtain rfl := v2.2 hv
    simp only [Option.bind_some, bEq_eq, decide_true, Bool.not_true, cond_false]
    -- the reference's least time
    obtain ⟨b1, p1, p2⟩ := loop_forS (step := fun s : Int × Int => F29_L1 t now s.1 s.2) t.List.length (fun n => (m1 now t.List n, (n : Int))) (fun _ => True) (fun b => b = .inl (m1 now t.List t.List.length)) trivial
      (fun i hi _ => by
        obtain ⟨n1, n2, n3⟩ := hN i hi
        unfold F29_L1
        simp only
        rw [bif_t (by simp [bLt_eq]; omega), need_true (inb_nat hi), Int.toNat_natCast, n2, Option.bind_some, wr_add1 hi (by omega)]
        refine .inr ⟨?_, trivial⟩
        rw [m1]
        cases ((fN now (gd t.List i)).2 && (bLt (m1 now t.List i) 0 || bLt (fN now (gd t.List i)).1 (m1 now t.List i))) <;> rfl)
      (fun _ => by
        unfold F29_L1
        simp only
        rw [bif_f (by simp [bLt_eq])]
        exact ⟨_, rfl, rfl⟩)
    subst p2
    have p1 : loopD (fun s : Int × Int => F29_L1 t now s.1 s.2) (-1, 0) = some (.inl (m1 now t.List t.List.length)) := p1
    rw [lp_inl p1]
    -- and those that have it
    obtain ⟨b2, q1, q2⟩ := loop_forS (step := fun s : List Int × Int => F29_L2 t now (m1 now t.List t.List.length) s.1 s.2) t.List.length (fun n => (idL now t.List (m1 now t.List t.List.length) n, (n : Int))) (fun _ => True) (fun b => b = .inl (idL now t.List (m1 now t.List t.List.length) t.List.length)) trivial
      (fun i hi _ => by
        obtain ⟨n1, n2, n3⟩ := hN i hi
        have hl := idL_len now t.List (m1 now t.List t.List.length) i
        have e1 : capb 8 ((idL now t.List (m1 now t.List t.List.length) i).length + 1) = true := capb_iff.2 (by omega)
        unfold F29_L2
        simp only
        rw [bif_t (by simp [bLt_eq]; omega), inb_nat hi, Int.toNat_natCast, n2, Option.bind_some, wr_add1 hi (by omega), e1]
        simp only [need_true, Option.bind_some]
        refine .inr ⟨?_, trivial⟩
        rw [idL]
        cases ((fN now (gd t.List i)).2 && bEq (fN now (gd t.List i)).1 (m1 now t.List t.List.length)) <;> rfl)
      (fun _ => by
        unfold F29_L2
        simp only
        rw [bif_f (by simp [bLt_eq])]
        exact ⟨_, rfl, rfl⟩)
    subst q2
    have q1 : loopD (fun s : List Int × Int => F29_L2 t now (m1 now t.List t.List.length) s.1 s.2) ([], 0) = some (.inl (idL now t.List (m1 now t.List t.List.length) t.List.length)) := q1
    -- the program's loop
    obtain ⟨b3, w1, w2⟩ := loop_forS (step := fun s : Int × Int × List Int => F28_L1 t now s.1 s.2.1 s.2.2) t.List.length
      (fun n => ((n : Int), (bif bLt (m1 now t.List n) 0 then 0 else m1 now t.List n), (bif bLt (m1 now t.List n) 0 then [] else idL now t.List (m1 now t.List n) n))) (fun _ => True)
      (fun b => b = .inl ((bif bLt (m1 now t.List t.List.length) 0 then 0 else m1 now t.List t.List.length), (bif bLt (m1 now t.List t.List.length) 0 then [] else idL now t.List (m1 now t.List t.List.length) t.List.length))) trivial
      (fun i hi _ => by
        obtain ⟨n1, n2, n3⟩ := hN i hi
        have hnil := idL_nil hN i (by omega)
        have hne := idL_ne (now := now) (l := t.List) i
        have hl := idL_len now t.List (m1 now t.List i) i
        have e1 : capb 8 ((idL now t.List (m1 now t.List i) i).length + 1) = true := capb_iff.2 (by omega)
        unfold F28_L1
        simp only
        rw [bif_t (c := bLt (i : Int) _) (by simp [bLt_eq]; omega), inb_nat hi, Int.toNat_natCast, n1, Option.bind_some, wr_add1 hi (by omega)]
        simp only [need_true, Option.bind_some]
        refine .inr ⟨?_, trivial⟩
        have u1 := m1.eq_2 now t.List i
        have u2 : ∀ w, idL now t.List w (i + 1) = _ := fun w => idL.eq_2 now t.List w i
        cases h2 : (fN now (gd t.List i)).2 with
        | false =>
          rw [h2] at u1 u2
          simp only [Bool.false_and, cond_false] at u1 u2
          simp only [Bool.not_false, cond_true, u1, u2]
        | true =>
          have n3 := n3 h2
          rw [h2] at u1 u2
          simp only [Bool.true_and] at u1 u2
          simp only [Bool.not_true, cond_false]
          generalize (fN now (gd t.List i)).1 = r at *
          by_cases hm : m1 now t.List i < 0
          · have c1 : bLt (m1 now t.List i) 0 = true := by simp [bLt_eq, hm]
            rw [c1] at u1 ⊢
            simp only [cond_true, List.isEmpty_nil, Bool.true_or] at u1 ⊢
            have c2 : bLt r 0 = false := by simp [bLt_eq]; omega
            have c3 : bEq r r = true := by simp [bEq]
            rw [u1, u2, hnil r n3 (.inl hm), c2, c3]
            rfl
          · have c1 : bLt (m1 now t.List i) 0 = false := by simp [bLt_eq]; omega
            have c4 : (idL now t.List (m1 now t.List i) i).isEmpty = false := by
              cases hh : idL now t.List (m1 now t.List i) i with
              | nil => exact absurd hh (hne (by omega))
              | cons _ _ => rfl
            rw [c1] at u1 ⊢
            simp only [cond_false, Bool.false_or, c4] at u1 ⊢
            by_cases hr : r < m1 now t.List i
            · have c2 : bLt r (m1 now t.List i) = true := by simp [bLt_eq, hr]
              have c3 : bEq r r = true := by simp [bEq]
              have c5 : bLt r 0 = false := by simp [bLt_eq]; omega
              rw [c2] at u1 ⊢
              simp only [cond_true] at u1 ⊢
              rw [u1, u2, hnil r n3 (.inr hr), c3, c5]
              rfl
            · have c2 : bLt r (m1 now t.List i) = false := by simp [bLt_eq]; omega
              rw [c2] at u1 ⊢
              simp only [cond_false] at u1 ⊢
              rw [u1, u2, c1]
              cases bEq r (m1 now t.List i) with
              | true => rw [e1]; rfl
              | false => rfl)
      (fun _ => by
        unfold F28_L1
        simp only
        rw [bif_f (c := bLt _ _) (by simp [bLt_eq])]
        exact ⟨_, rfl, rfl⟩)
    subst w2
    have w1 : loopD (fun s : Int × Int × List Int => F28_L1 t now s.1 s.2.1 s.2.2) (0, 0, []) = _ := w1
    rw [lp_inl w1]
    have hl := idL_len now t.List (m1 now t.List t.List.length) t.List.length
    cases hm : bLt (m1 now t.List t.List.length) 0 with
    | true => exact ⟨_, rfl, rfl, by simp⟩
    | false =>
      simp only [cond_false]
      have c4 : (idL now t.List (m1 now t.List t.List.length) t.List.length).isEmpty = false := by
        cases hh : idL now t.List (m1 now t.List t.List.length) t.List.length with
        | nil => exact absurd hh (idL_ne _ (by simp [bLt_eq] at hm; omega))
        | cons _ _ => rfl
      rw [c4, lp_inl q1]
      exact ⟨_, rfl, rfl, by simp only; omega⟩
  · rw [e]
    have : v = false := by cases v with | true => exact absurd (v2.1 rfl) hv | false => rfl
    subst this
    exact ⟨_, rfl, rfl, by simp⟩
end Go.Proofs.Ytpgcekjnpieibaa
