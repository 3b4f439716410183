/-
  ScanBest: the plain law.
-/
import Derived.Test.YtpnhehcncljhpaaS2
namespace Go.Proofs.Ytpnhehcncljhpaa
open Go.Am
set_option linter.unusedVariables false
set_option linter.unusedSimpArgs false
theorem alive_ok : F16 = some true := by kernel_rfl
theorem sEq_refl (x : ByteArray) : sEq x x = true := by simp [sEq]
theorem bB_refl (x : Bool) : bB x x = true := by simp [bB_eq]
theorem bEq_refl (x : Int) : bEq x x = true := by simp [bEq]
/-- What is known of the choice. -/
def Cs (t : TCandidates) (w : TWanted) (now : Int) (r : TCandidate × Int) : Prop := (r.2 = 0 ∧ Be t w now t.List.length r.1) ∨ (r.2 = 6 ∧ r.1 = zc ∧ ∀ m : Nat, m < t.List.length → ¬ El w now (gd t.List m))
theorem best_L (t : TCandidates) (w : TWanted) (now : Int) (r : TCandidate × Int) (hb : Abs t) (hv : Vt t) (hn : 0 ≤ now ∧ now ≤ 1099511627776) (hr : Cs t w now r) :
    ∃ v : Bool, loopD (fun s : Bool × Int => F5_L1 t w now r s.1 s.2) (false, 0) = some (.inl v) ∧ ∀ j : Nat, j < t.List.length → gd t.List j = r.1 → v = true := by
  have hlen := hv.1
  obtain ⟨b, l1, l2⟩ := loop_inv (step := fun s : Bool × Int => F5_L1 t w now r s.1 s.2) (fun s => ∃ i : Nat, s.2 = i ∧ i ≤ t.List.length ∧ ∀ j : Nat, j < i → gd t.List j = r.1 → s.1 = true)
    (fun b => ∃ v : Bool, b = .inl v ∧ ∀ j : Nat, j < t.List.length → gd t.List j = r.1 → v = true) (fun s => (t.List.length - s.2).toNat)
    (fun s hS => by
      obtain ⟨v, x⟩ := s
      obtain ⟨i, h1, h2, h3⟩ := hS
      simp only at h1 h3
      subst h1
      unfold F5_L1
      simp only
      by_cases hi : i < t.List.length
      · have hvi := (hv.2 i hi).1
        unfold Vc at hvi
        rw [bif_t (c := bLt (i : Int) _) (by simp [bLt_eq]; omega), inb_nat hi, Int.toNat_natCast, wr_add1 hi (by omega), wr_in (x := now - (gd t.List i).Heard) (by omega)]
        simp only [need_true]
        right
        have nx : ∀ e : Bool, (gd t.List i = r.1 → e = true) → ∀ j : Nat, j < i + 1 → gd t.List j = r.1 → (v || e) = true := fun e he j hj hg => by
          rcases Nat.lt_or_eq_of_le (Nat.le_of_lt_succ hj) with hj | rfl
          · rw [h3 j hj hg, Bool.true_or]
          · rw [he hg, Bool.or_true]
        cases hc : ((((!sEq (gd t.List i).Name w.Name || !bB (gd t.List i).Secure w.Secure) || bLt (gd t.List i).Level w.Floor) || bLt w.Life (now - (gd t.List i).Heard)) || bLt now (gd t.List i).Heard) with
        | true =>
          refine ⟨_, rfl, ⟨i + 1, rfl, by omega, nx _ fun hg => ?_⟩, by simp only; omega⟩
          rw [hg]
          simp only [bEq_refl, sEq_refl, bB_refl, Bool.and_self]
        | false =>
          have hel : El w now (gd t.List i) := by
            simp only [Bool.or_eq_false_iff, Bool.not_eq_false', bLt_eq, decide_eq_false_iff_not] at hc
            obtain ⟨⟨⟨⟨x1, x2⟩, x3⟩, x4⟩, x5⟩ := hc
            exact ⟨x1, x2, by omega, by omega, by omega⟩
          rcases hr with ⟨r0, j, j1, j2, j3, j4⟩ | ⟨_, _, h⟩
          · have hvj := (hv.2 j j1).1
            unfold Vc at hvj
            have hq := j4 i hi hel
            obtain ⟨q, q1, q2⟩ := F22_ok (gd t.List i).Addr r.1.Addr (hb i hi) (by rw [j2]; exact hb j j1)
            rw [q1]
            have cj : (-2000 ≤ r.1.Level ∧ r.1.Level ≤ 2000) ∧ (0 ≤ r.1.Load ∧ r.1.Load ≤ 255) := by rw [j2]; exact ⟨hvj.2.1, hvj.2.2.1⟩
            rw [wr_in (x := r.1.Level - r.1.Load) (by omega), wr_in (x := (gd t.List i).Level - (gd t.List i).Load) (by omega)]
            have c1 : ((!bEq r.2 0 || bLt (r.1.Level - r.1.Load) ((gd t.List i).Level - (gd t.List i).Load)) || (bEq ((gd t.List i).Level - (gd t.List i).Load) (r.1.Level - r.1.Load) && bLt r.1.Level (gd t.List i).Level)) = false := by
              unfold Bt at hq
              simp [bEq, bLt_eq, r0]
              omega
            have c2 : ((bEq (gd t.List i).Level r.1.Level && bEq (gd t.List i).Load r.1.Load) && q) = false := by
              cases q with
              | false => simp
              | true =>
                have hlt := q2 rfl
                rw [Bool.and_true]
                cases hh : (bEq (gd t.List i).Level r.1.Level && bEq (gd t.List i).Load r.1.Load) with
                | false => rfl
                | true =>
                  exfalso
                  simp only [Bool.and_eq_true, bEq_eq, decide_eq_true_eq] at hh
                  rcases hq with hq | ⟨_, hji⟩
                  · unfold Bt at hq; omega
                  · rw [j2] at hlt
                    rcases Nat.lt_or_eq_of_le hji with hji | rfl
                    · have := Vt_lt hv i hi j hji; omega
                    · omega
            simp only [c1, c2, cond_false, Option.isSome_some, Bool.cond_self, need_true, gt_some]
            refine ⟨_, rfl, ⟨i + 1, rfl, by omega, nx _ fun hg => ?_⟩, by simp only; omega⟩
            rw [hg]
            simp only [bEq_refl, sEq_refl, bB_refl, Bool.and_self]
          · exact absurd hel (h i hi)
      · obtain rfl : i = t.List.length := by omega
        rw [bif_f (c := bLt _ _) (by simp [bLt_eq])]
        exact .inl ⟨_, rfl, v, rfl, h3⟩) (false, 0) ⟨0, rfl, by omega, fun j hj => by omega⟩
  obtain ⟨v, rfl, l2⟩ := l2
  exact ⟨v, l1, l2⟩
theorem law5 (t : TCandidates) (w : TWanted) (now : Int) (hb : Abs t) : F5 t w now = some true := by
  unfold F5
  rw [alive_ok, Option.bind_some]
  cases hc : ((bLt 70 (t.List.length : Nat) || bLt 1000 (w.Name.size : Nat)) || (!true)) with
  | true => rfl
  | false =>
    rw [cond_false]
    obtain ⟨r, r1, r2⟩ := choose_ok t w now hb
    rw [r1, Option.bind_some]
    rcases r2 with ⟨q1, q2, q3⟩ | ⟨hv, hn, hr⟩
    · rw [bif_t (by simp [bEq, q1, q2]), q3]
      simp only [zc, bEq_refl, sEq_refl, bB_refl, Bool.and_self]
    · have hlen := hv.1
      obtain ⟨v, l1, l2⟩ := best_L t w now r hb hv hn hr
      rcases hr with ⟨r0, j, j1, j2, j3, j4⟩ | ⟨r6, _, _⟩
      · have hvj := (hv.2 j j1).1
        unfold Vc at hvj
        rw [← j2] at hvj
        rw [bif_f (by simp [bEq, r0]), wr_in (x := now - r.1.Heard) (by omega)]
        obtain ⟨x1, x2, x3, x4, x5⟩ := j3
        have c1 : ((((!sEq r.1.Name w.Name || !bB r.1.Secure w.Secure) || bLt r.1.Level w.Floor) || bLt w.Life (now - r.1.Heard)) || bLt now r.1.Heard) = false := by
          simp only [x1, x2, Bool.not_true, Bool.false_or, Bool.or_eq_false_iff, bLt_eq, decide_eq_false_iff_not]
          omega
        rw [c1, Bool.and_false, cond_false, lp_inl l1, l2 j j1 j2.symm]
        rfl
      · rw [bif_f (by simp [bEq, r6]), bif_f (by simp [bEq, r6]), lp_inl l1]
        simp [bEq, r6]
end Go.Proofs.Ytpnhehcncljhpaa
