/-
  Times at which agreements meet: plain arithmetic.
-/
import Derived.Test.YtpgcekjnpieibaaBm10
namespace Go.Proofs.Ytpgcekjnpieibaa
open Go.Am
set_option linter.unusedVariables false
/-- At the time t a period of (qs, qe, ql) is under way. -/
def Held (qs qe ql t : Int) : Prop := qs ≤ t ∧ (0 < qe → (t - qs) % qe < ql) ∧ (qe = 0 → t - qs < ql)
/-- A beginning of (ps, pe) falls into a period of the other. -/
def Bg (ps pe qs qe ql : Int) : Prop := ∃ n : Nat, (pe = 0 → n = 0) ∧ Held qs qe ql (ps + n * pe)
theorem le_div_of_mul {n d k : Int} (hd : 0 < d) (h : n * d ≤ k) : n ≤ k / d := Int.le_ediv_of_mul_le hd h
theorem div_mul_le' (k d : Int) (hd : 0 < d) : k / d * d ≤ k := Int.ediv_mul_le k (by omega)
theorem lt_div_mul (k d : Int) (hd : 0 < d) : k < k / d * d + d := by
  have := Int.emod_add_mul_ediv k d; have := Int.emod_lt_of_pos k hd; rw [Int.mul_comm]; omega
theorem bg_bound {ps pe qs qe ql : Int} (hp : 0 < pe) (hq : 0 ≤ qe) (hql : 0 ≤ ql) (hb : Bg ps pe qs qe ql) : ∃ n : Nat, (n : Int) < maxI (qs + ql - ps) 0 / pe + 2 + qe ∧ Held qs qe ql (ps + n * pe) := by
  obtain ⟨n, _, hn⟩ := hb
  have hD : qs + ql - ps ≤ maxI (qs + ql - ps) 0 ∧ 0 ≤ maxI (qs + ql - ps) 0 := by unfold maxI; split <;> omega
  generalize maxI (qs + ql - ps) 0 = D at hD ⊢
  have hDd : 0 ≤ D / pe := Int.ediv_nonneg hD.2 (by omega)
  have hDl := lt_div_mul D pe hp
  induction n using Nat.strongRecOn with
  | _ n ih =>
    by_cases hlt : (n : Int) < D / pe + 2 + qe
    · exact ⟨n, hlt, hn⟩
    · obtain ⟨h1, h2, h3⟩ := hn
      rcases Int.lt_or_eq_of_le hq with hq0 | hq0
      · obtain ⟨e, rfl⟩ := Int.eq_ofNat_of_zero_le hq
        have hnat : e ≤ n := by omega
        obtain ⟨k, rfl⟩ : ∃ k, n = k + e := ⟨n - e, by omega⟩
        have hm : (D / pe + 1) * pe ≤ (k : Int) * pe := Int.mul_le_mul_of_nonneg_right (by omega) (by omega)
        rw [Int.add_mul, Int.one_mul] at hm
        refine ih k (by omega) (fun h => by omega) ⟨by omega, fun _ => ?_, fun h => by omega⟩
        have := h2 hq0
        have e1 : ps + ((k + e : Nat) : Int) * pe - qs = (ps + k * pe - qs) + (e : Int) * pe := by
          rw [Int.natCast_add, Int.add_mul]; omega
        rw [e1, Int.add_mul_emod_self_left] at this
        exact this
      · exfalso
        have h4 := h3 hq0.symm
        have hm : (D / pe + 1) * pe ≤ (n : Int) * pe := Int.mul_le_mul_of_nonneg_right (by omega) (by omega)
        rw [Int.add_mul, Int.one_mul] at hm
        omega
/-! ### The greatest common divisor -/
theorem meet_gcd {ps pe pl qs qe ql g x y : Int} (hpe : 0 < pe) (hqe : 0 < qe) (hpl : 1 ≤ pl ∧ pl ≤ pe) (hql : 1 ≤ ql ∧ ql ≤ qe) (hg : 0 < g) (hgp : g ∣ pe) (hgq : g ∣ qe) (hxy : g = x * pe + y * qe) :
    (Bg ps pe qs qe ql ∨ Bg qs qe ps pe pl) ↔ ((ps - qs) % g < ql ∨ g - (ps - qs) % g < pl) := by
  have m0 := Int.emod_nonneg (ps - qs) (show g ≠ 0 by omega)
  have m1 := Int.emod_lt_of_pos (ps - qs) hg
  have red : ∀ a e s : Int, g ∣ e → ((a + s * e) % e) % g = a % g := by
    intro a e s he
    rw [Int.emod_emod_of_dvd _ he]
    obtain ⟨c, rfl⟩ := he
    rw [show s * (g * c) = g * (s * c) from by rw [← Int.mul_assoc, Int.mul_comm s g, Int.mul_assoc], Int.add_mul_emod_self_left]
  have red2 : ∀ (a e e2 : Int) (n : Nat), g ∣ e → g ∣ e2 → ((a + n * e) % e2) % g = a % g := by
    intro a e e2 n he he2
    rw [Int.emod_emod_of_dvd _ he2]
    obtain ⟨c, rfl⟩ := he
    rw [show (n : Int) * (g * c) = g * (n * c) from by rw [← Int.mul_assoc, Int.mul_comm (n : Int) g, Int.mul_assoc], Int.add_mul_emod_self_left]
  have le_of_mod : ∀ r : Int, 0 ≤ r → r % g ≤ r := fun r hr => by
    have h1 := Int.emod_add_mul_ediv r g
    have h2 := Int.mul_nonneg (show 0 ≤ g by omega) (Int.ediv_nonneg hr (show 0 ≤ g by omega))
    omega
  have sub_swap : (qs - ps) % g = if (ps - qs) % g = 0 then 0 else g - (ps - qs) % g := by
    have h := Int.emod_add_mul_ediv (ps - qs) g
    split
    · rename_i h0
      rw [show qs - ps = g * (-((ps - qs) / g)) from by rw [Int.mul_neg]; omega]
      exact Int.mul_emod_right _ _
    · rw [show qs - ps = (g - (ps - qs) % g) + g * (-((ps - qs) / g) - 1) from by rw [Int.mul_sub, Int.mul_neg]; omega, Int.add_mul_emod_self_left]
      exact Int.emod_eq_of_lt (by omega) (by omega)
  -- reach: any residue that agrees modulo g is reached
  have reach : ∀ (as ae bs be x y : Int), 0 < ae → 0 < be → g = x * ae + y * be → ∀ m, 0 ≤ m → m < be → m % g = (as - bs) % g → ∃ n : Nat, bs ≤ as + n * ae ∧ (as + n * ae - bs) % be = m := by
    intro as ae bs be x y ha hb hx m hm0 hm hmg
    have hk : g ∣ (as - bs) - m := ⟨(as - bs) / g - m / g, by
      have h1 := Int.emod_add_mul_ediv (as - bs) g
      have h2 := Int.emod_add_mul_ediv m g
      rw [Int.mul_sub]; omega⟩
    obtain ⟨k, hk⟩ := hk
    -- n = -k x + T * be for a large T
    let N0 : Int := -(k * x)
    obtain ⟨T, hT⟩ : ∃ T : Int, 0 ≤ N0 + T * be ∧ bs ≤ as + (N0 + T * be) * ae := by
      let T : Int := N0.natAbs + (bs - as).natAbs
      have t0 : 0 ≤ T := by omega
      have t1 : T ≤ T * be := by
        have := Int.mul_le_mul_of_nonneg_left (show (1 : Int) ≤ be by omega) t0
        rwa [Int.mul_one] at this
      have t2 : 0 ≤ N0 + T * be := by omega
      have t3 : (bs - as).natAbs ≤ N0 + T * be := by omega
      have t4 : N0 + T * be ≤ (N0 + T * be) * ae := by
        have := Int.mul_le_mul_of_nonneg_left (show (1 : Int) ≤ ae by omega) t2
        rwa [Int.mul_one] at this
      exact ⟨T, t2, by omega⟩
    obtain ⟨n, hn⟩ := Int.eq_ofNat_of_zero_le hT.1
    refine ⟨n, by rw [← hn]; exact hT.2, ?_⟩
    rw [← hn]
    have e : as + (N0 + T * be) * ae - bs = m + be * (k * y + T * ae) := by
      have e1 : k * g = k * (x * ae + y * be) := by rw [← hx]
      rw [Int.mul_add, ← Int.mul_assoc, ← Int.mul_assoc] at e1
      have e2 : (N0 + T * be) * ae = -(k * x * ae) + T * be * ae := by rw [Int.add_mul]; simp only [N0, Int.neg_mul]
      have e3 : be * (k * y + T * ae) = k * y * be + T * be * ae := by rw [Int.mul_add, Int.mul_comm be, Int.mul_comm be, Int.mul_assoc T ae be, Int.mul_comm ae be, ← Int.mul_assoc]
      have e4 : g * k = k * g := Int.mul_comm _ _
      rw [e2, e3]; omega
    rw [e, Int.add_mul_emod_self_left]
    exact Int.emod_eq_of_lt hm0 hm
  constructor
  · rintro (⟨n, _, h1, h2, _⟩ | ⟨n, _, h1, h2, _⟩)
    · left
      have h3 := h2 hqe
      have r0 := Int.emod_nonneg (ps + n * pe - qs) (show qe ≠ 0 by omega)
      have r1 := le_of_mod _ r0
      rw [show ps + (n : Int) * pe - qs = (ps - qs) + n * pe from by omega] at r1 h3
      rw [red2 _ _ _ n hgp hgq] at r1
      omega
    · have h3 := h2 hpe
      have r0 := Int.emod_nonneg (qs + n * qe - ps) (show pe ≠ 0 by omega)
      have r1 := le_of_mod _ r0
      rw [show qs + (n : Int) * qe - ps = (qs - ps) + n * qe from by omega] at r1 h3
      rw [red2 _ _ _ n hgq hgp, sub_swap] at r1
      split at r1
      · left; omega
      · right; omega
  · rintro (h | h)
    · left
      obtain ⟨n, n1, n2⟩ := reach ps pe qs qe x y hpe hqe hxy ((ps - qs) % g) m0 (by have := Int.le_of_dvd hqe hgq; omega) (Int.emod_emod_of_dvd _ (Int.dvd_refl g))
      exact ⟨n, fun h => by omega, n1, fun _ => by omega, fun h => by omega⟩
    · by_cases h0 : (ps - qs) % g = 0
      · left
        obtain ⟨n, n1, n2⟩ := reach ps pe qs qe x y hpe hqe hxy 0 (by omega) (by omega) (by rw [h0]; simp)
        exact ⟨n, fun h => by omega, n1, fun _ => by omega, fun h => by omega⟩
      · right
        rw [if_neg h0] at sub_swap
        obtain ⟨n, n1, n2⟩ := reach qs qe ps pe y x hqe hpe (by omega) (g - (ps - qs) % g) (by omega) (by omega) (by rw [sub_swap]; exact Int.emod_eq_of_lt (by omega) (by omega))
        exact ⟨n, fun h => by omega, n1, fun _ => by omega, fun h => by omega⟩
end Go.Proofs.Ytpgcekjnpieibaa
