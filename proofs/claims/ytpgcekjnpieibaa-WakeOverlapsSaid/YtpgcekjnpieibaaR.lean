/-
  WakeOverlaps: what the functions answer.
-/
import Derived.Test.YtpgcekjnpieibaaY7
import Derived.Test.YtpgcekjnpieibaaQ
namespace Go.Proofs.Ytpgcekjnpieibaa
open Go.Am
set_option linter.unusedVariables false
set_option linter.unusedSimpArgs false
/-- A valid agreement. -/
def Vd (p : TWakeRule) : Prop := 0 ≤ p.Id ∧ p.Id ≤ 255 ∧ 0 ≤ p.Group ∧ p.Group ≤ 255 ∧ 0 ≤ p.Start ∧ p.Start ≤ 1099511627776 ∧ 0 ≤ p.Every ∧ p.Every ≤ 4294967296 ∧ 1 ≤ p.Length ∧ p.Length ≤ 4294967296 ∧ (p.Every = 0 ∨ p.Length ≤ p.Every)
theorem F17_ok (p : TWakeRule) : (Vd p ∧ F17 p = some 0) ∨ (¬ Vd p ∧ F17 p = some 8) := by
  unfold F17 Vd
  simp only [bLe_eq, bLt_eq, bEq_eq]
  by_cases h : (0 ≤ p.Id ∧ p.Id ≤ 255 ∧ 0 ≤ p.Group ∧ p.Group ≤ 255 ∧ 0 ≤ p.Start ∧ p.Start ≤ 1099511627776 ∧ 0 ≤ p.Every ∧ p.Every ≤ 4294967296 ∧ 1 ≤ p.Length ∧ p.Length ≤ 4294967296 ∧ (p.Every = 0 ∨ p.Length ≤ p.Every))
  · refine .inl ⟨h, bif_f ?_⟩
    simp only [Bool.or_eq_false_iff, Bool.and_eq_true, Bool.not_eq_false', Bool.or_eq_true, decide_eq_true_eq, decide_eq_false_iff_not]; omega
  · refine .inr ⟨h, bif_t ?_⟩
    simp only [Bool.or_eq_true, Bool.not_eq_true', Bool.and_eq_false_iff, Bool.or_eq_false_iff, decide_eq_true_eq, decide_eq_false_iff_not]; omega
theorem F20_ok (p : TWakeRule) : ∃ b, F20 p = some b ∧ (b = true ↔ Vd p) := by
  unfold F20 Vd
  simp only [bLe_eq, bLt_eq, bEq_eq]
  cases h1 : ((((((decide (p.Id < 0)) || (decide (255 < p.Id))) || (decide (p.Group < 0))) || (decide (255 < p.Group))) || (decide (p.Start < 0))) || (decide (1099511627776 < p.Start)))
  · simp only [cond_false]
    cases h2 : ((((decide (p.Every < 0)) || (decide (4294967296 < p.Every))) || (decide (p.Length < 1))) || (decide (4294967296 < p.Length)))
    · simp only [cond_false]
      refine ⟨_, rfl, ?_⟩
      simp only [Bool.or_eq_false_iff, decide_eq_false_iff_not, Bool.or_eq_true, decide_eq_true_eq] at *
      omega
    · simp only [cond_true]
      refine ⟨_, rfl, ?_⟩
      simp only [Bool.or_eq_false_iff, decide_eq_false_iff_not, Bool.or_eq_true, decide_eq_true_eq] at *
      constructor
      · intro h; cases h
      · omega
  · simp only [cond_true]
    refine ⟨_, rfl, ?_⟩
    simp only [Bool.or_eq_true, decide_eq_true_eq] at *
    constructor
    · intro h; cases h
    · omega
theorem tmod_pos {a b : Int} (h : 0 ≤ a) : a.tmod b = a % b := Int.tmod_eq_emod_of_nonneg h
theorem F46_ok (q : TWakeRule) (t : Int) (hv : Vd q) (ht : -4503599627370496 ≤ t ∧ t ≤ 4503599627370496) : ∃ b, F46 q t = some b ∧ (b = true ↔ Held q.Start q.Every q.Length t) := by
  unfold Vd at hv
  unfold F46 Held
  rw [wr_in (by omega)]
  by_cases h1 : t < q.Start
  · rw [bif_t (by simpa [bLt_eq] using h1)]
    exact ⟨_, rfl, ⟨fun h => (by cases h), fun h => (by have := h.1; omega)⟩⟩
  · rw [bif_f (by simpa [bLt_eq] using h1)]
    by_cases h2 : 0 < q.Every
    · rw [bif_t (by simpa [bLt_eq] using h2), need_true (ne0_iff.2 (by omega)), tmod_pos (by omega)]
      refine ⟨_, rfl, ?_⟩
      simp only [bLt_eq, decide_eq_true_eq]
      exact ⟨fun h => ⟨by omega, fun _ => h, fun h => by omega⟩, fun h => h.2.1 h2⟩
    · rw [bif_f (by simpa [bLt_eq] using h2)]
      refine ⟨_, rfl, ?_⟩
      simp only [bLt_eq, decide_eq_true_eq]
      exact ⟨fun h => ⟨by omega, fun h => absurd h h2, fun _ => h⟩, fun h => h.2.2 (by omega)⟩
/-- So small that the periods can be counted. -/
def Sm (p : TWakeRule) : Prop := p.Start ≤ 200000 ∧ p.Every ≤ 2000 ∧ p.Length ≤ 2000
def BgR (p q : TWakeRule) : Prop := Bg p.Start p.Every q.Start q.Every q.Length
theorem F35_ok (p q : TWakeRule) (hp : Vd p) (hq : Vd q) (sp : Sm p) (sq : Sm q) : ∃ b, F35 p q = some b ∧ (b = true ↔ BgR p q) := by
  have vq := hq
  unfold Vd Sm at *
  unfold F35
  by_cases h0 : 0 < p.Every
  · rw [bif_t (by simpa [bLt_eq] using h0), need_true (ne0_iff.2 (by omega))]
    have hD : q.Start + q.Length - p.Start ≤ maxI (q.Start + q.Length - p.Start) 0 ∧ 0 ≤ maxI (q.Start + q.Length - p.Start) 0 ∧ maxI (q.Start + q.Length - p.Start) 0 ≤ 300000 := by unfold maxI; split <;> omega
    have hd1 : 0 ≤ maxI (q.Start + q.Length - p.Start) 0 / p.Every := Int.ediv_nonneg hD.2.1 (by omega)
    have hd2 : maxI (q.Start + q.Length - p.Start) 0 / p.Every ≤ maxI (q.Start + q.Length - p.Start) 0 := Int.ediv_le_self _ hD.2.1
    have hb : wr .i64 ((wr .i64 ((wr .i64 ((maxI (wr .i64 ((wr .i64 (q.Start + q.Length)) - p.Start)) 0).tdiv p.Every)) + 2)) + q.Every) = maxI (q.Start + q.Length - p.Start) 0 / p.Every + 2 + q.Every := by
      rw [wr_in (x := q.Start + q.Length) (by omega), wr_in (x := q.Start + q.Length - p.Start) (by omega), Int.tdiv_eq_ediv_of_nonneg hD.2.1, wr_in (x := _ / p.Every) (by omega), wr_in (x := _ + 2) (by omega), wr_in (by omega)]
    obtain ⟨N, hN⟩ := Int.eq_ofNat_of_zero_le (show 0 ≤ maxI (q.Start + q.Length - p.Start) 0 / p.Every + 2 + q.Every by omega)
    have hbg : BgR p q ↔ ∃ n : Nat, n < N ∧ Held q.Start q.Every q.Length (p.Start + n * p.Every) := by
      constructor
      · intro h
        obtain ⟨n, h1, h2⟩ := bg_bound h0 (by omega) (by omega) h
        exact ⟨n, by omega, h2⟩
      · rintro ⟨n, h1, h2⟩
        exact ⟨n, fun h => by omega, h2⟩
    have mul_le : ∀ n : Nat, n ≤ N → 0 ≤ (n : Int) * p.Every ∧ (n : Int) * p.Every ≤ 400000 * 2000 := fun n hn => by
      refine ⟨Int.mul_nonneg (by omega) (by omega), ?_⟩
      exact Int.le_trans (Int.mul_le_mul_of_nonneg_right (show (n : Int) ≤ 400000 by omega) (by omega)) (Int.mul_le_mul_of_nonneg_left (by omega) (by omega))
    obtain ⟨b, l1, l2⟩ := loop_forS (step := fun s : Int × Int => F35_L1 p q s.1 s.2) N (fun n => (p.Start + n * p.Every, (n : Int))) (fun n => ∀ i : Nat, i < n → ¬ Held q.Start q.Every q.Length (p.Start + i * p.Every))
      (fun b => match b with | .inl _ => ¬ BgR p q | .inr r => r = true ∧ BgR p q) (fun i hi => by omega)
      (fun n hn hI => by
        have hm := mul_le n (by omega)
        have hm1 := mul_le (n + 1) (by omega)
        unfold F35_L1
        simp only
        rw [hb, hN, bif_t (by simp [bLt_eq]; omega)]
        obtain ⟨r, g1, g2⟩ := F46_ok q (p.Start + n * p.Every) vq (by omega)
        rw [g1, Option.bind_some]
        cases r with
        | true => exact .inl ⟨_, rfl, rfl, hbg.2 ⟨n, hn, g2.1 rfl⟩⟩
        | false =>
          refine .inr ⟨?_, fun i hi => ?_⟩
          · rw [cond_false, wr_add1 (n := N) hn (by omega)]
            have : p.Start + n * p.Every + p.Every = p.Start + ((n + 1 : Nat) : Int) * p.Every := by rw [Int.natCast_add, Int.add_mul]; omega
            rw [wr_in (by omega), this]
          · rcases Nat.lt_or_eq_of_le (Nat.le_of_lt_succ hi) with h | rfl
            · exact hI i h
            · intro h; have := g2.2 h; cases this)
      (fun hI => by
        unfold F35_L1
        simp only
        rw [hb, hN, bif_f (by simp [bLt_eq])]
        exact ⟨_, rfl, fun h => by obtain ⟨n, h1, h2⟩ := hbg.1 h; exact hI n h1 h2⟩)
    have e0 : (p.Start + ((0 : Nat) : Int) * p.Every, ((0 : Nat) : Int)) = (p.Start, (0 : Int)) := by simp
    rw [e0] at l1
    cases b with
    | inl u => rw [lp_inl l1]; exact ⟨_, rfl, ⟨fun h => (by cases h), fun h => absurd h l2⟩⟩
    | inr r => rw [lp_inr l1]; exact ⟨_, rfl, by obtain ⟨rfl, h⟩ := l2; exact ⟨fun _ => h, fun _ => rfl⟩⟩
  · rw [bif_f (by simpa [bLt_eq] using h0)]
    obtain ⟨r, g1, g2⟩ := F46_ok q p.Start vq (by omega)
    rw [g1, Option.bind_some]
    have hbg : BgR p q ↔ Held q.Start q.Every q.Length p.Start := by
      constructor
      · rintro ⟨n, h1, h2⟩
        obtain rfl := h1 (by omega)
        simpa using h2
      · intro h
        exact ⟨0, fun _ => rfl, by simpa using h⟩
    cases r with
    | true => exact ⟨_, rfl, by simp [hbg, ← g2]⟩
    | false => exact ⟨_, rfl, by simp [hbg, ← g2]⟩
theorem F21_ok (p q : TWakeRule) (hp : Vd p) (hq : Vd q) (sp : Sm p) (sq : Sm q) : ∃ b, F21 p q = some b ∧ (b = true ↔ BgR p q ∨ BgR q p) := by
  obtain ⟨a, a1, a2⟩ := F35_ok p q hp hq sp sq
  obtain ⟨b, b1, b2⟩ := F35_ok q p hq hp sq sp
  unfold F21
  rw [a1, b1, Option.bind_some, need_true (by cases a <;> rfl)]
  refine ⟨_, rfl, ?_⟩
  rw [gt_some, Bool.or_eq_true, a2, b2]

/-! ### The fast answer -/
theorem F45_ok (a b : Int) (ha : 0 < a ∧ a ≤ 4294967296) (hb : 0 < b ∧ b ≤ 4294967296) : ∃ g, F45 a b = some g ∧ 0 < g ∧ g ≤ 4294967296 ∧ g ∣ a ∧ g ∣ b ∧ ∃ x y, g = x * a + y * b := by
  unfold F45
  obtain ⟨r, l1, l2⟩ := loop_inv (step := fun s : Int × Int => F45_L1 s.1 s.2) (fun s => 0 < s.1 ∧ 0 < s.2 ∧ s.2 ≤ 4294967296 ∧ (∀ d, d ∣ s.1 → d ∣ s.2 → d ∣ a ∧ d ∣ b) ∧ (∃ x y, s.1 = x * a + y * b) ∧ ∃ x y, s.2 = x * a + y * b)
    (fun r => match r with | .inl _ => False | .inr g => 0 < g ∧ g ≤ 4294967296 ∧ g ∣ a ∧ g ∣ b ∧ ∃ x y, g = x * a + y * b) (fun s => s.2.toNat) (fun s hI => by
      obtain ⟨u, v⟩ := s
      obtain ⟨h1, h2, h3, h4, ⟨x1, y1, h5⟩, ⟨x2, y2, h6⟩⟩ := hI
      simp only at h1 h2 h3 h4 h5 h6 ⊢
      unfold F45_L1
      rw [need_true (ne0_iff.2 (by omega)), tmod_pos (by omega)]
      have m0 := Int.emod_nonneg u (show v ≠ 0 by omega)
      have m1 := Int.emod_lt_of_pos u h2
      have m2 := Int.emod_add_mul_ediv u v
      by_cases hz : u % v = 0
      · left
        rw [bif_f (by simp [bEq, hz])]
        refine ⟨_, rfl, h2, h3, ?_⟩
        obtain ⟨q1, q2⟩ := h4 v (Int.dvd_of_emod_eq_zero hz) (Int.dvd_refl v)
        exact ⟨q1, q2, x2, y2, h6⟩
      · right
        rw [bif_t (by simp [bEq, hz])]
        refine ⟨_, rfl, ⟨h2, by simp only; omega, by simp only; omega, fun d d1 d2 => ?_, ⟨x2, y2, h6⟩, x1 - x2 * (u / v), y1 - y2 * (u / v), ?_⟩, by simp only; omega⟩
        · simp only at d1 d2
          refine h4 d ?_ d1
          rw [← m2]
          exact Int.dvd_add d2 (Int.dvd_trans d1 (Int.dvd_mul_right _ _))
        · simp only
          have e : u % v = u - v * (u / v) := by omega
          rw [e]
          generalize u / v = k
          rw [h6, h5, Int.sub_mul, Int.sub_mul, Int.add_mul, Int.mul_right_comm x2 k a, Int.mul_right_comm y2 k b]
          omega) (a, b) ⟨ha.1, hb.1, hb.2, fun d h1 h2 => ⟨h1, h2⟩, ⟨1, 0, by simp⟩, 0, 1, by simp⟩
  cases r with
  | inl u => exact l2.elim
  | inr g => rw [lp_inr l1]; exact ⟨g, rfl, l2⟩
/-- A period of q and the times from 'f' on before 't' have a time in common. -/
def Cut (q : TWakeRule) (f t : Int) : Prop := ∃ n : Nat, (q.Every = 0 → n = 0) ∧ q.Start + n * q.Every < t ∧ f < q.Start + n * q.Every + q.Length
theorem F44_ok (q : TWakeRule) (f t : Int) (hq : Vd q) (hf : 0 ≤ f ∧ f ≤ 4503599627370496) (ht : 0 ≤ t ∧ t ≤ 4503599627370496) : ∃ b, F44 q f t = some b ∧ (b = true ↔ Cut q f t) := by
  unfold Vd at hq
  unfold F44 Cut
  rw [wr_in (x := q.Start + q.Length) (by omega)]
  by_cases h0 : 0 < q.Every ∧ q.Start + q.Length ≤ f
  · rw [bif_t (by simp [bLt_eq, bLe_eq, h0.1, h0.2]), need_true (ne0_iff.2 (by omega))]
    rw [wr_in (x := f - _) (by omega), Int.tdiv_eq_ediv_of_nonneg (by omega)]
    have d0 : 0 ≤ (f - (q.Start + q.Length)) / q.Every := Int.ediv_nonneg (by omega) (by omega)
    have d1 := Int.ediv_mul_le (f - (q.Start + q.Length)) (show q.Every ≠ 0 by omega)
    have d2 := lt_div_mul (f - (q.Start + q.Length)) q.Every h0.1
    have d3 : (f - (q.Start + q.Length)) / q.Every ≤ f - (q.Start + q.Length) := Int.ediv_le_self _ (by omega)
    generalize (f - (q.Start + q.Length)) / q.Every = k at d0 d1 d2 d3 ⊢
    have e1 : (k + 1) * q.Every = k * q.Every + q.Every := by rw [Int.add_mul, Int.one_mul]
    rw [wr_in (x := k) (by omega), wr_in (x := k + 1) (by omega), wr_in (x := (k + 1) * _) (by omega), wr_in (x := q.Start + _) (by omega), wr_in (by omega)]
    refine ⟨_, rfl, ?_⟩
    simp only [Bool.and_eq_true, bLt_eq, decide_eq_true_eq]
    constructor
    · rintro ⟨h1, h2⟩
      obtain ⟨n, hn⟩ := Int.eq_ofNat_of_zero_le (show 0 ≤ k + 1 by omega)
      rw [hn] at h1 h2
      exact ⟨n, fun h => by omega, h1, h2⟩
    · rintro ⟨n, h1, h2, h3⟩
      have hk : k + 1 ≤ n := by
        rcases Int.lt_or_le (n : Int) (k + 1) with h | h
        · have := Int.mul_le_mul_of_nonneg_right (show (n : Int) ≤ k by omega) (show 0 ≤ q.Every by omega)
          omega
        · exact h
      have := Int.mul_le_mul_of_nonneg_right hk (show 0 ≤ q.Every by omega)
      omega
  · rw [bif_f (by simp only [bLt_eq, bLe_eq]; simp; omega)]
    refine ⟨_, rfl, ?_⟩
    simp only [Bool.and_eq_true, bLt_eq, decide_eq_true_eq]
    constructor
    · rintro ⟨h1, h2⟩
      exact ⟨0, fun _ => rfl, by simpa using h1, by simpa using h2⟩
    · rintro ⟨n, h1, h2, h3⟩
      by_cases hz : q.Every = 0
      · obtain rfl := h1 hz
        simp at h2 h3
        exact ⟨h2, h3⟩
      · have := Int.mul_nonneg (show 0 ≤ (n : Int) by omega) (show 0 ≤ q.Every by omega)
        omega
/-- Two agreements have a beginning in common with a period of the other. -/
def Mt (p q : TWakeRule) : Prop := BgR p q ∨ BgR q p
theorem Mt_comm (p q : TWakeRule) : Mt p q ↔ Mt q p := Or.comm
theorem cut_mt (p q : TWakeRule) (hp : Vd p) (hq : Vd q) (h0 : p.Every = 0) : Cut q p.Start (p.Start + p.Length) ↔ Mt p q := by
  unfold Vd at hp hq
  unfold Cut Mt BgR Bg Held
  constructor
  · rintro ⟨n, h1, h2, h3⟩
    rcases Int.lt_or_le (q.Start + n * q.Every) p.Start with h | h
    · left
      refine ⟨0, fun _ => rfl, ?_⟩
      have n0 := Int.mul_nonneg (show 0 ≤ (n : Int) by omega) (show 0 ≤ q.Every by omega)
      refine ⟨by simp; omega, fun he => ?_, fun he => ?_⟩
      · rw [show p.Start + ((0 : Nat) : Int) * p.Every - q.Start = (p.Start - (q.Start + n * q.Every)) + q.Every * n from by rw [Int.mul_comm q.Every]; simp; omega, Int.add_mul_emod_self_left]
        rw [Int.emod_eq_of_lt (by omega) (by omega)]; omega
      · obtain rfl := h1 he
        simp at h3 ⊢; omega
    · right
      refine ⟨n, h1, by omega, fun he => by omega, fun _ => by omega⟩
  · rintro (⟨n, h1, h2, h3, h4⟩ | ⟨n, h1, h2, h3, h4⟩)
    · obtain rfl := h1 h0
      rw [show p.Start + ((0 : Nat) : Int) * p.Every = p.Start from by simp] at h2 h3 h4
      by_cases he : 0 < q.Every
      · have := h3 he
        have m0 := Int.emod_nonneg (p.Start - q.Start) (show q.Every ≠ 0 by omega)
        have m2 := Int.emod_add_mul_ediv (p.Start - q.Start) q.Every
        have d0 : 0 ≤ (p.Start - q.Start) / q.Every := Int.ediv_nonneg (by omega) (by omega)
        obtain ⟨k, hk⟩ := Int.eq_ofNat_of_zero_le d0
        refine ⟨k, fun h => by omega, ?_⟩
        rw [hk, Int.mul_comm] at m2
        omega
      · have := h4 (by omega)
        exact ⟨0, fun _ => rfl, by simp; omega, by simp; omega⟩
    · exact ⟨n, h1, by have := h4 h0; omega, by omega⟩
theorem F34_ok (p q : TWakeRule) (hp : Vd p) (hq : Vd q) : ∃ b, F34 p q = some b ∧ (b = true ↔ Mt p q) := by
  have vp := hp
  have vq := hq
  unfold Vd at hp hq
  unfold F34
  by_cases h1 : p.Every = 0
  · rw [bif_t (by simp [bEq, h1]), wr_in (x := p.Start + p.Length) (by omega)]
    obtain ⟨b, b1, b2⟩ := F44_ok q p.Start (p.Start + p.Length) vq (by omega) (by omega)
    rw [b1]
    exact ⟨b, rfl, b2.trans (cut_mt p q vp vq h1)⟩
  · rw [bif_f (by simp [bEq, h1])]
    by_cases h2 : q.Every = 0
    · rw [bif_t (by simp [bEq, h2]), wr_in (x := q.Start + q.Length) (by omega)]
      obtain ⟨b, b1, b2⟩ := F44_ok p q.Start (q.Start + q.Length) vp (by omega) (by omega)
      rw [b1]
      exact ⟨b, rfl, b2.trans ((cut_mt q p vq vp h2).trans (Mt_comm q p))⟩
    · rw [bif_f (by simp [bEq, h2])]
      obtain ⟨g, g1, g2, g3, g4, g5, x, y, g6⟩ := F45_ok p.Every q.Every (by omega) (by omega)
      rw [g1, Option.bind_some, need_true (ne0_iff.2 (by omega)), wr_in (x := p.Start - q.Start) (by omega)]
      have key := meet_gcd (ps := p.Start) (pe := p.Every) (pl := p.Length) (qs := q.Start) (qe := q.Every) (ql := q.Length) (g := g) (by omega) (by omega) (by omega) (by omega) g2 g4 g5 g6
      have m0 := Int.emod_nonneg (p.Start - q.Start) (show g ≠ 0 by omega)
      have m1 := Int.emod_lt_of_pos (p.Start - q.Start) g2
      have tm : (p.Start - q.Start).tmod g = if 0 ≤ p.Start - q.Start ∨ g ∣ p.Start - q.Start then (p.Start - q.Start) % g else (p.Start - q.Start) % g - g := by
        rw [Int.tmod_eq_emod]
        split
        · simp
        · rw [Int.natAbs_of_nonneg (by omega)]
      rw [tm]
      have dz : g ∣ p.Start - q.Start ↔ (p.Start - q.Start) % g = 0 := Int.dvd_iff_emod_eq_zero
      generalize (p.Start - q.Start) % g = m at *
      split
      · rw [bif_f (by simp [bLt_eq]; omega), wr_in (x := g - m) (by omega)]
        exact ⟨_, rfl, by rw [Bool.or_eq_true, bLt_eq, bLt_eq, decide_eq_true_eq, decide_eq_true_eq]; exact key.symm⟩
      · rename_i hn
        rw [bif_t (by simp [bLt_eq]; omega), show m - g + g = m from by omega, wr_in (x := m) (by omega), wr_in (x := g - m) (by omega)]
        exact ⟨_, rfl, by rw [Bool.or_eq_true, bLt_eq, bLt_eq, decide_eq_true_eq, decide_eq_true_eq]; exact key.symm⟩
theorem F18_ok (p q : TWakeRule) : (¬ (Vd p ∧ Vd q) ∧ F18 p q = some (false, 2)) ∨ ((Vd p ∧ Vd q) ∧ ∃ b, F18 p q = some (b, 0) ∧ (b = true ↔ Mt p q)) := by
  unfold F18
  rcases F17_ok p with ⟨hp, e1⟩ | ⟨hp, e1⟩ <;> rcases F17_ok q with ⟨hq, e2⟩ | ⟨hq, e2⟩ <;> rw [e1, e2]
  · obtain ⟨b, b1, b2⟩ := F34_ok p q hp hq
    exact .inr ⟨⟨hp, hq⟩, b, by rw [b1]; rfl, b2⟩
  · exact .inl ⟨fun h => hq h.2, rfl⟩
  · exact .inl ⟨fun h => hp h.1, rfl⟩
  · exact .inl ⟨fun h => hp h.1, rfl⟩
end Go.Proofs.Ytpgcekjnpieibaa
