/-
  ScanVisits: the plain law.
-/
import Derived.Test.YtpnhehcncljhpaaY6
namespace Go.Proofs.Ytpnhehcncljhpaa
open Go.Am
set_option linter.unusedVariables false
set_option linter.unusedSimpArgs false
/-- The channels are in range. -/
def Ch (c : List Int) : Prop := ∀ i : Nat, i < c.length → 1 ≤ gd c i ∧ gd c i ≤ 64
theorem F30_ok (c : List Int) (hc : c.length ≤ 1000) : (Ch c ∧ F30_0 c = some false) ∨ (¬ Ch c ∧ F30_0 c = some true) := by
  obtain ⟨b, l1, l2⟩ := loop_for (step := fun s => F50_0_L1 c s) c.length (fun n => ∀ i : Nat, i < n → 1 ≤ gd c i ∧ gd c i ≤ 64) (fun b => match b with | .inl _ => Ch c | .inr k => 0 ≤ k ∧ ¬ Ch c) (fun i hi => by omega)
    (fun i hi hI => by
      unfold F50_0_L1 F28 F29
      rw [bif_t (by simp [bLt_eq]; omega), need_true (inb_nat hi), Int.toNat_natCast]
      simp only [Option.bind_some]
      by_cases h : 1 ≤ gd c i ∧ gd c i ≤ 64
      · rw [bif_f (by simp [bLe_eq, h.1, h.2]), wr_add1 hi (by omega)]
        refine .inr ⟨rfl, fun j hj => ?_⟩
        rcases Nat.lt_or_eq_of_le (Nat.le_of_lt_succ hj) with hj | rfl
        · exact hI j hj
        · exact h
      · rw [bif_t (by simp [bLe_eq]; omega)]
        exact .inl ⟨_, rfl, by omega, fun hh => h (hh i hi)⟩)
    (fun hI => by
      unfold F50_0_L1
      rw [bif_f (by simp [bLt_eq])]
      exact ⟨_, rfl, hI⟩)
  unfold F30_0 F50_0
  cases b with
  | inl u => left; rw [lp_inl l1]; exact ⟨l2, by simp [bLe_eq]⟩
  | inr k => right; rw [lp_inr l1]; exact ⟨l2.2, by simp [bLe_eq, l2.1]⟩
theorem F11_L1_ok (c : List Int) (hc : c.length ≤ 1000) : (Ch c ∧ loopD (fun s => F11_L1 c s) 0 = some (.inl ())) ∨ (¬ Ch c ∧ loopD (fun s => F11_L1 c s) 0 = some (.inr ([], 2))) := by
  obtain ⟨b, l1, l2⟩ := loop_for (step := fun s => F11_L1 c s) c.length (fun n => ∀ i : Nat, i < n → 1 ≤ gd c i ∧ gd c i ≤ 64) (fun b => match b with | .inl _ => Ch c | .inr k => k = ([], 2) ∧ ¬ Ch c) (fun i hi => by omega)
    (fun i hi hI => by
      unfold F11_L1 F31
      rw [bif_t (by simp [bLt_eq]; omega), need_true (inb_nat hi), Int.toNat_natCast]
      simp only [Option.bind_some]
      by_cases h : 1 ≤ gd c i ∧ gd c i ≤ 64
      · rw [bif_f (by simp [bLe_eq, h.1, h.2]), wr_add1 hi (by omega)]
        refine .inr ⟨rfl, fun j hj => ?_⟩
        rcases Nat.lt_or_eq_of_le (Nat.le_of_lt_succ hj) with hj | rfl
        · exact hI j hj
        · exact h
      · rw [bif_t (by simp [bLe_eq]; omega)]
        exact .inl ⟨_, rfl, rfl, fun hh => h (hh i hi)⟩)
    (fun hI => by
      unfold F11_L1
      rw [bif_f (by simp [bLt_eq])]
      exact ⟨_, rfl, hI⟩)
  cases b with
  | inl u => exact .inl ⟨l2, l1⟩
  | inr k => obtain ⟨rfl, h⟩ := l2; exact .inr ⟨h, l1⟩
/-- The visits to the first n channels. -/
def Vs (c : List Int) (s d : Int) (a : Bool) (n : Nat) : List TVisit := (List.range n).map fun j => TVisit.mk (gd c j) (s + j * d) (s + (j + 1) * d) a
theorem Vs_succ (c : List Int) (s d : Int) (a : Bool) (n : Nat) : Vs c s d a (n + 1) = Vs c s d a n ++ [TVisit.mk (gd c n) (s + n * d) (s + (n + 1) * d) a] := by
  simp [Vs, List.range_succ]
theorem Vs_len (c : List Int) (s d : Int) (a : Bool) (n : Nat) : (Vs c s d a n).length = n := by simp [Vs]
theorem mul_bd {d : Int} {n : Nat} (hd : 1 ≤ d ∧ d ≤ 1000000) (hn : n ≤ 65) : 0 ≤ (n : Int) * d ∧ (n : Int) * d ≤ 65000000 := by
  refine ⟨Int.mul_nonneg (by omega) (by omega), ?_⟩
  exact Int.le_trans (Int.mul_le_mul_of_nonneg_right (show (n : Int) ≤ 65 by omega) (by omega)) (by omega)
theorem F10_L1_ok (c : List Int) (s d : Int) (a : Bool) (hc : c.length ≤ 64) (hs : 0 ≤ s ∧ s ≤ 1099511627776) (hd : 1 ≤ d ∧ d ≤ 1000000) :
    loopD (fun t => F10_L1 c d a t.1 t.2.1 t.2.2) (s, [], 0) = some (.inl (Vs c s d a c.length)) := by
  obtain ⟨b, l1, l2⟩ := loop_forS (step := fun t : Int × List TVisit × Int => F10_L1 c d a t.1 t.2.1 t.2.2) c.length (fun n => (s + n * d, Vs c s d a n, (n : Int))) (fun _ => True) (fun b => b = .inl (Vs c s d a c.length)) trivial
    (fun i hi _ => by
      have m1 := mul_bd (n := i) hd (by omega)
      have e : s + (i : Int) * d + d = s + ((i : Int) + 1) * d := by rw [Int.add_mul]; omega
      unfold F10_L1
      simp only
      rw [bif_t (by simp [bLt_eq]; omega), need_true (inb_nat hi), need_true (capb_iff.2 (by rw [Vs_len]; omega)), Int.toNat_natCast, wr_in (x := s + (i : Int) * d + d) (by omega), e, ← Vs_succ, wr_add1 hi (by omega)]
      exact .inr ⟨rfl, trivial⟩)
    (fun _ => by
      unfold F10_L1
      simp only
      rw [bif_f (by simp [bLt_eq])]
      exact ⟨_, rfl, rfl⟩)
  subst l2
  rw [← l1]
  simp [Vs]
theorem F11_L2_ok (c : List Int) (s d : Int) (a : Bool) (hc : c.length ≤ 64) (hs : 0 ≤ s ∧ s ≤ 1099511627776) (hd : 1 ≤ d ∧ d ≤ 1000000) :
    loopD (fun t => F11_L2 c s d a t.1 t.2) ([], 0) = some (.inl (Vs c s d a c.length)) := by
  obtain ⟨b, l1, l2⟩ := loop_forS (step := fun t : List TVisit × Int => F11_L2 c s d a t.1 t.2) c.length (fun n => (Vs c s d a n, (n : Int))) (fun _ => True) (fun b => b = .inl (Vs c s d a c.length)) trivial
    (fun i hi _ => by
      have m1 := mul_bd (n := i) hd (by omega)
      have m2 := mul_bd (n := i + 1) hd (by omega)
      have e : ((i + 1 : Nat) : Int) = (i : Int) + 1 := by omega
      rw [e] at m2
      unfold F11_L2
      simp only
      rw [bif_t (by simp [bLt_eq]; omega), need_true (inb_nat hi), need_true (capb_iff.2 (by rw [Vs_len]; omega)), Int.toNat_natCast, wr_in (x := (i : Int) * d) (by omega), wr_in (x := s + (i : Int) * d) (by omega), wr_add1 hi (by omega), e, wr_in (x := ((i : Int) + 1) * d) (by omega), wr_in (x := s + ((i : Int) + 1) * d) (by omega), ← Vs_succ]
      exact .inr ⟨rfl, trivial⟩)
    (fun _ => by
      unfold F11_L2
      simp only
      rw [bif_f (by simp [bLt_eq])]
      exact ⟨_, rfl, rfl⟩)
  subst l2
  rw [← l1]
  simp [Vs]
theorem plan_ok (c : List Int) (s d : Int) (a : Bool) (hc : c.length ≤ 200) : ∃ r : List TVisit × Int, F10 c s d a = some r ∧ F11 c s d a = some r ∧ r.1.length ≤ 64 ∧
    ((r.2 = 0 ∧ Ch c ∧ c.length ≤ 64 ∧ (0 ≤ s ∧ s ≤ 1099511627776) ∧ (1 ≤ d ∧ d ≤ 1000000) ∧ r.1 = Vs c s d a c.length) ∨ (r.2 ≠ 0 ∧ r.1 = [])) := by
  unfold F10 F11
  rcases F30_ok c (by omega) with ⟨h, e⟩ | ⟨h, e⟩
  · rcases F11_L1_ok c (by omega) with ⟨_, e2⟩ | ⟨h2, _⟩
    · rw [e, Option.bind_some, need_true (by simp [F29]), need_true (by simp [F29]), lp_inl e2]
      unfold F29 F31
      simp only [Option.bind_some, gt_some, Bool.false_or]
      rw [need_true (by simp)]
      by_cases hs : 0 ≤ s ∧ s ≤ 1099511627776
      · have e3 : (bLe 0 s && bLe s 1099511627776) = true := by simp [bLe_eq, hs.1, hs.2]
        by_cases hd : 1 ≤ d ∧ d ≤ 1000000
        · have e4 : (bLe 1 d && bLe d 1000000) = true := by simp [bLe_eq, hd.1, hd.2]
          simp only [e3, e4, Bool.not_true, Bool.or_false, cond_false]
          by_cases h64 : c.length ≤ 64
          · have e5 : bLt 64 (c.length : Nat) = false := by simp [bLt_eq]; omega
            simp only [e5, cond_false]
            rw [lp_inl (F10_L1_ok c s d a h64 hs hd), lp_inl (F11_L2_ok c s d a h64 hs hd)]
            exact ⟨_, rfl, rfl, by simp [Vs_len]; exact h64, .inl ⟨rfl, h, h64, hs, hd, rfl⟩⟩
          · have e5 : bLt 64 (c.length : Nat) = true := by simp [bLt_eq]; omega
            simp only [e5, cond_true]
            exact ⟨_, rfl, rfl, by simp, .inr ⟨by simp, rfl⟩⟩
        · have e4 : (bLe 1 d && bLe d 1000000) = false := by simp [bLe_eq]; omega
          simp only [e3, e4, Bool.not_true, Bool.not_false, Bool.or_true, cond_true]
          exact ⟨_, rfl, rfl, by simp, .inr ⟨by simp, rfl⟩⟩
      · have e3 : (bLe 0 s && bLe s 1099511627776) = false := by simp [bLe_eq]; omega
        simp only [e3, Bool.not_false, Bool.true_or, cond_true]
        exact ⟨_, rfl, rfl, by simp, .inr ⟨by simp, rfl⟩⟩
    · exact absurd h h2
  · rcases F11_L1_ok c (by omega) with ⟨h2, _⟩ | ⟨_, e2⟩
    · exact absurd h2 h
    · rw [e, Option.bind_some, need_true (by simp), need_true (by simp), bif_t (by simp), lp_inr e2]
      exact ⟨_, rfl, rfl, by simp, .inr ⟨by simp, rfl⟩⟩
theorem alive_ok : F16 = some true := by kernel_rfl
theorem law6 (c : List Int) (s d : Int) : F6 c s d = some true := by
  unfold F6
  rw [alive_ok, Option.bind_some]
  by_cases hc : c.length ≤ 200
  · rw [bif_f (by simp [bLt_eq]; omega)]
    obtain ⟨r, r1, _, r3, r4⟩ := plan_ok c s d false hc
    rw [r1, Option.bind_some]
    rcases r4 with ⟨q1, q2, q3, q4, q5, q6⟩ | ⟨q1, q2⟩
    · rw [q1, bif_f (by simp [bEq]), q6, Vs_len, bif_f (by simp [bEq])]
      obtain ⟨b, l1, l2⟩ := loop_forS (step := fun t : Int × Int => F6_L1 c d r t.1 t.2) c.length (fun n => (s + n * d, (n : Int))) (fun _ => True) (fun b => b = .inl ()) trivial
        (fun i hi _ => by
          have m1 := mul_bd (n := i) q5 (by omega)
          have m2 := mul_bd (n := i + 1) q5 (by omega)
          have e : ((i + 1 : Nat) : Int) = (i : Int) + 1 := by omega
          have e2 : ((i : Int) + 1) * d = i * d + d := by rw [Int.add_mul]; omega
          have g : gd (Vs c s d false c.length) i = TVisit.mk (gd c i) (s + i * d) (s + (i + 1) * d) false := by
            simp [gd, Vs, List.getD_eq_getElem?_getD, hi]
          have e0 : bLt (i : Int) (c.length : Nat) = true := by simp [bLt_eq]; omega
          unfold F6_L1
          simp only
          rw [q6, Vs_len, e0, inb_nat hi, Int.toNat_natCast, g]
          simp only [need_true, cond_true, Bool.cond_self]
          rw [show s + ((i : Int) + 1) * d - (s + i * d) = d from by rw [e2]; omega, wr_in (x := d) (by omega), wr_add1 hi (by omega)]
          refine .inr ⟨?_, trivial⟩
          simp [bEq]
          )
        (fun _ => by
          unfold F6_L1
          simp only
          rw [q6, Vs_len, bif_f (by simp [bLt_eq])]
          exact ⟨_, rfl, rfl⟩)
      subst l2
      have e0 : (s + ((0 : Nat) : Int) * d, ((0 : Nat) : Int)) = (s, 0) := by simp
      rw [e0] at l1
      rw [lp_inl (a := ()) (by rw [← l1])]
    · rw [bif_t (by simp [bEq, q1]), q2]
      rfl
  · rw [bif_t (by simp [bLt_eq]; omega)]
end Go.Proofs.Ytpnhehcncljhpaa
