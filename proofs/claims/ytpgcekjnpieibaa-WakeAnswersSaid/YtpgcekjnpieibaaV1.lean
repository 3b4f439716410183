/-
  Answers: what the functions say.
-/
import Derived.Test.YtpgcekjnpieibaaY9
import Derived.Test.YtpgcekjnpieibaaQ
namespace Go.Proofs.Ytpgcekjnpieibaa
open Go.Am
set_option linter.unusedVariables false
set_option linter.unusedSimpArgs false
/-- A valid agreement. -/
def Vd (p : TWakeRule) : Prop := 0 ≤ p.Id ∧ p.Id ≤ 255 ∧ 0 ≤ p.Group ∧ p.Group ≤ 255 ∧ 0 ≤ p.Start ∧ p.Start ≤ 1099511627776 ∧ 0 ≤ p.Every ∧ p.Every ≤ 4294967296 ∧ 1 ≤ p.Length ∧ p.Length ≤ 4294967296 ∧ (p.Every = 0 ∨ p.Length ≤ p.Every)
theorem F17_ok (p : TWakeRule) : (Vd p ∧ F17 p = some 0) ∨ (¬ Vd p ∧ F17 p = some 8) := by
  unfold F17 Vd
  simp only [bLe_eq, bLt_eq, bEq_eq]
  by_cases h : (0 ≤ p.Id ∧ p.Id ≤ 255 ∧ 0 ≤ p.Group ∧ p.Group ≤ 255 ∧ 0 ≤ p.Start ∧ p.Start ≤ 1099511627776 ∧ 0 ≤ p.Every ∧ p.Every ≤ 4294967296 ∧ 1 ≤ p.Length ∧ p.Length ≤ 4294967296 ∧ (p.Every = 0 ∨ p.Length ≤ p.Every))
  · refine .inl ⟨h, bif_f ?_⟩
    simp only [Bool.or_eq_false_iff, Bool.and_eq_true, Bool.not_eq_false', Bool.or_eq_true, decide_eq_true_eq, decide_eq_false_iff_not]; omega
  · refine .inr ⟨h, bif_t ?_⟩
    simp only [Bool.or_eq_true, Bool.not_eq_true', Bool.and_eq_false_iff, Bool.or_eq_false_iff, decide_eq_true_eq, decide_eq_false_iff_not]; omega
theorem tmod_pos {a b : Int} (h : 0 ≤ a) : a.tmod b = a % b := Int.tmod_eq_emod_of_nonneg h
def BgR (p q : TWakeRule) : Prop := Bg p.Start p.Every q.Start q.Every q.Length
theorem F45_ok (a b : Int) (ha : 0 < a ∧ a ≤ 4294967296) (hb : 0 < b ∧ b ≤ 4294967296) : ∃ g, F45 a b = some g ∧ 0 < g ∧ g ≤ 4294967296 ∧ g ∣ a ∧ g ∣ b ∧ ∃ x y, g = x * a + y * b := by
  unfold F45
  obtain ⟨r, l1, l2⟩ := loop_inv (step := fun s : Int × Int => F45_L1 s.1 s.2) (fun s => 0 < s.1 ∧ 0 < s.2 ∧ s.2 ≤ 4294967296 ∧ (∀ d, d ∣ s.1 → d ∣ s.2 → d ∣ a ∧ d ∣ b) ∧ (∃ x y, s.1 = x * a + y * b) ∧ ∃ x y, s.2 = x * a + y * b)
    (fun r => match r with | .inl _ => False | .inr g => 0 < g ∧ g ≤ 4294967296 ∧ g ∣ a ∧ g ∣ b ∧ ∃ x y, g = x * a + y * b) (fun s => s.2.toNat) (fun s hI => by
      obtain ⟨u, v⟩ := s
      obtain ⟨h1, h2, h3, h4, ⟨x1, y1, h5⟩, ⟨x2, y2, h6⟩⟩ := hI
      simp only at h1 h2 h3 h4 h5 h6 ⊢
      unfold F45_L1
      rw [need_true (ne0_iff.2 (by omega)), tmod_pos (by omega)]
      have m0 := Int.emod_nonneg u (show v ≠ 0 by omega)
      have m1 := Int.emod_lt_of_pos u h2
      have m2 := Int.emod_add_mul_ediv u v
      by_cases hz : u % v = 0
      · left
        rw [bif_f (by simp [bEq, hz])]
        refine ⟨_, rfl, h2, h3, ?_⟩
        obtain ⟨q1, q2⟩ := h4 v (Int.dvd_of_emod_eq_zero hz) (Int.dvd_refl v)
        exact ⟨q1, q2, x2, y2, h6⟩
      · right
        rw [bif_t (by simp [bEq, hz])]
        refine ⟨_, rfl, ⟨h2, by simp only; omega, by simp only; omega, fun d d1 d2 => ?_, ⟨x2, y2, h6⟩, x1 - x2 * (u / v), y1 - y2 * (u / v), ?_⟩, by simp only; omega⟩
        · simp only at d1 d2
          refine h4 d ?_ d1
          rw [← m2]
          exact Int.dvd_add d2 (Int.dvd_trans d1 (Int.dvd_mul_right _ _))
        · simp only
          have e : u % v = u - v * (u / v) := by omega
          rw [e]
          generalize u / v = k
          rw [h6, h5, Int.sub_mul, Int.sub_mul, Int.add_mul, Int.mul_right_comm x2 k a, Int.mul_right_comm y2 k b]
          omega) (a, b) ⟨ha.1, hb.1, hb.2, fun d h1 h2 => ⟨h1, h2⟩, ⟨1, 0, by simp⟩, 0, 1, by simp⟩
  cases r with
  | inl u => exact l2.elim
  | inr g => rw [lp_inr l1]; exact ⟨g, rfl, l2⟩
/-- A period of q and the times from 'f' on before 't' have a time in common. -/
def Cut (q : TWakeRule) (f t : Int) : Prop := ∃ n : Nat, (q.Every = 0 → n = 0) ∧ q.Start + n * q.Every < t ∧ f < q.Start + n * q.Every + q.Length
theorem F44_ok (q : TWakeRule) (f t : Int) (hq : Vd q) (hf : 0 ≤ f ∧ f ≤ 4503599627370496) (ht : 0 ≤ t ∧ t ≤ 4503599627370496) : ∃ b, F44 q f t = some b ∧ (b = true ↔ Cut q f t) := by
  unfold Vd at hq
  unfold F44 Cut
  rw [wr_in (x := q.Start + q.Length) (by omega)]
  by_cases h0 : 0 < q.Every ∧ q.Start + q.Length ≤ f
  · rw [bif_t (by simp [bLt_eq, bLe_eq, h0.1, h0.2]), need_true (ne0_iff.2 (by omega))]
    rw [wr_in (x := f - _) (by omega), Int.tdiv_eq_ediv_of_nonneg (by omega)]
    have d0 : 0 ≤ (f - (q.Start + q.Length)) / q.Every := Int.ediv_nonneg (by omega) (by omega)
    have d1 := Int.ediv_mul_le (f - (q.Start + q.Length)) (show q.Every ≠ 0 by omega)
    have d2 := lt_div_mul (f - (q.Start + q.Length)) q.Every h0.1
    have d3 : (f - (q.Start + q.Length)) / q.Every ≤ f - (q.Start + q.Length) := Int.ediv_le_self _ (by omega)
    generalize (f - (q.Start + q.Length)) / q.Every = k at d0 d1 d2 d3 ⊢
    have e1 : (k + 1) * q.Every = k * q.Every + q.Every := by rw [Int.add_mul, Int.one_mul]
    rw [wr_in (x := k) (by omega), wr_in (x := k + 1) (by omega), wr_in (x := (k + 1) * _) (by omega), wr_in (x := q.Start + _) (by omega), wr_in (by omega)]
    refine ⟨_, rfl, ?_⟩
    simp only [Bool.and_eq_true, bLt_eq, decide_eq_true_eq]
    constructor
    · rintro ⟨h1, h2⟩
      obtain ⟨n, hn⟩ := Int.eq_ofNat_of_zero_le (show 0 ≤ k + 1 by omega)
      rw [hn] at h1 h2
      exact ⟨n, fun h => by omega, h1, h2⟩
    · rintro ⟨n, h1, h2, h3⟩
      have hk : k + 1 ≤ n := by
        rcases Int.lt_or_le (n : Int) (k + 1) with h | h
        · have := Int.mul_le_mul_of_nonneg_right (show (n : Int) ≤ k by omega) (show 0 ≤ q.Every by omega)
          omega
        · exact h
      have := Int.mul_le_mul_of_nonneg_right hk (show 0 ≤ q.Every by omega)
      omega
  · rw [bif_f (by simp only [bLt_eq, bLe_eq]; simp; omega)]
    refine ⟨_, rfl, ?_⟩
    simp only [Bool.and_eq_true, bLt_eq, decide_eq_true_eq]
    constructor
    · rintro ⟨h1, h2⟩
      exact ⟨0, fun _ => rfl, by simpa using h1, by simpa using h2⟩
    · rintro ⟨n, h1, h2, h3⟩
      by_cases hz : q.Every = 0
      · obtain rfl := h1 hz
        simp at h2 h3
        exact ⟨h2, h3⟩
      · have := Int.mul_nonneg (show 0 ≤ (n : Int) by omega) (show 0 ≤ q.Every by omega)
        omega
/-- Two agreements have a beginning in common with a period of the other. -/
def Mt (p q : TWakeRule) : Prop := BgR p q ∨ BgR q p
theorem Mt_comm (p q : TWakeRule) : Mt p q ↔ Mt q p := Or.comm
theorem cut_mt (p q : TWakeRule) (hp : Vd p) (hq : Vd q) (h0 : p.Every = 0) : Cut q p.Start (p.Start + p.Length) ↔ Mt p q := by
  unfold Vd at hp hq
  unfold Cut Mt BgR Bg Held
  constructor
  · rintro ⟨n, h1, h2, h3⟩
    rcases Int.lt_or_le (q.Start + n * q.Every) p.Start with h | h
    · left
      refine ⟨0, fun _ => rfl, ?_⟩
      have n0 := Int.mul_nonneg (show 0 ≤ (n : Int) by omega) (show 0 ≤ q.Every by omega)
      refine ⟨by simp; omega, fun he => ?_, fun he => ?_⟩
      · rw [show p.Start + ((0 : Nat) : Int) * p.Every - q.Start = (p.Start - (q.Start + n * q.Every)) + q.Every * n from by rw [Int.mul_comm q.Every]; simp; omega, Int.add_mul_emod_self_left]
        rw [Int.emod_eq_of_lt (by omega) (by omega)]; omega
      · obtain rfl := h1 he
        simp at h3 ⊢; omega
    · right
      refine ⟨n, h1, by omega, fun he => by omega, fun _ => by omega⟩
  · rintro (⟨n, h1, h2, h3, h4⟩ | ⟨n, h1, h2, h3, h4⟩)
    · obtain rfl := h1 h0
      rw [show p.Start + ((0 : Nat) : Int) * p.Every = p.Start from by simp] at h2 h3 h4
      by_cases he : 0 < q.Every
      · have := h3 he
        have m0 := Int.emod_nonneg (p.Start - q.Start) (show q.Every ≠ 0 by omega)
        have m2 := Int.emod_add_mul_ediv (p.Start - q.Start) q.Every
        have d0 : 0 ≤ (p.Start - q.Start) / q.Every := Int.ediv_nonneg (by omega) (by omega)
        obtain ⟨k, hk⟩ := Int.eq_ofNat_of_zero_le d0
        refine ⟨k, fun h => by omega, ?_⟩
        rw [hk, Int.mul_comm] at m2
        omega
      · have := h4 (by omega)
        exact ⟨0, fun _ => rfl, by simp; omega, by simp; omega⟩
    · exact ⟨n, h1, by have := h4 h0; omega, by omega⟩
theorem F34_ok (p q : TWakeRule) (hp : Vd p) (hq : Vd q) : ∃ b, F34 p q = some b ∧ (b = true ↔ Mt p q) := by
  have vp := hp
  have vq := hq
  unfold Vd at hp hq
  unfold F34
  by_cases h1 : p.Every = 0
  · rw [bif_t (by simp [bEq, h1]), wr_in (x := p.Start + p.Length) (by omega)]
    obtain ⟨b, b1, b2⟩ := F44_ok q p.Start (p.Start + p.Length) vq (by omega) (by omega)
    rw [b1]
    exact ⟨b, rfl, b2.trans (cut_mt p q vp vq h1)⟩
  · rw [bif_f (by simp [bEq, h1])]
    by_cases h2 : q.Every = 0
    · rw [bif_t (by simp [bEq, h2]), wr_in (x := q.Start + q.Length) (by omega)]
      obtain ⟨b, b1, b2⟩ := F44_ok p q.Start (q.Start + q.Length) vp (by omega) (by omega)
      rw [b1]
      exact ⟨b, rfl, b2.trans ((cut_mt q p vq vp h2).trans (Mt_comm q p))⟩
    · rw [bif_f (by simp [bEq, h2])]
      obtain ⟨g, g1, g2, g3, g4, g5, x, y, g6⟩ := F45_ok p.Every q.Every (by omega) (by omega)
      rw [g1, Option.bind_some, need_true (ne0_iff.2 (by omega)), wr_in (x := p.Start - q.Start) (by omega)]
      have key := meet_gcd (ps := p.Start) (pe := p.Every) (pl := p.Length) (qs := q.Start) (qe := q.Every) (ql := q.Length) (g := g) (by omega) (by omega) (by omega) (by omega) g2 g4 g5 g6
      have m0 := Int.emod_nonneg (p.Start - q.Start) (show g ≠ 0 by omega)
      have m1 := Int.emod_lt_of_pos (p.Start - q.Start) g2
      have tm : (p.Start - q.Start).tmod g = if 0 ≤ p.Start - q.Start ∨ g ∣ p.Start - q.Start then (p.Start - q.Start) % g else (p.Start - q.Start) % g - g := by
        rw [Int.tmod_eq_emod]
        split
        · simp
        · rw [Int.natAbs_of_nonneg (by omega)]
      rw [tm]
      have dz : g ∣ p.Start - q.Start ↔ (p.Start - q.Start) % g = 0 := Int.dvd_iff_emod_eq_zero
      generalize (p.Start - q.Start) % g = m at *
      split
      · rw [bif_f (by simp [bLt_eq]; omega), wr_in (x := g - m) (by omega)]
        exact ⟨_, rfl, by rw [Bool.or_eq_true, bLt_eq, bLt_eq, decide_eq_true_eq, decide_eq_true_eq]; exact key.symm⟩
      · rename_i hn
        rw [bif_t (by simp [bLt_eq]; omega), show m - g + g = m from by omega, wr_in (x := m) (by omega), wr_in (x := g - m) (by omega)]
        exact ⟨_, rfl, by rw [Bool.or_eq_true, bLt_eq, bLt_eq, decide_eq_true_eq, decide_eq_true_eq]; exact key.symm⟩
theorem F18_ok (p q : TWakeRule) : (¬ (Vd p ∧ Vd q) ∧ F18 p q = some (false, 2)) ∨ ((Vd p ∧ Vd q) ∧ ∃ b, F18 p q = some (b, 0) ∧ (b = true ↔ Mt p q)) := by
  unfold F18
  rcases F17_ok p with ⟨hp, e1⟩ | ⟨hp, e1⟩ <;> rcases F17_ok q with ⟨hq, e2⟩ | ⟨hq, e2⟩ <;> rw [e1, e2]
  · obtain ⟨b, b1, b2⟩ := F34_ok p q hp hq
    exact .inr ⟨⟨hp, hq⟩, b, by rw [b1]; rfl, b2⟩
  · exact .inl ⟨fun h => hq h.2, rfl⟩
  · exact .inl ⟨fun h => hp h.1, rfl⟩
  · exact .inl ⟨fun h => hp h.1, rfl⟩
def VT (t : TWakeTable) : Prop := t.List.length ≤ 32 ∧ ∀ i : Nat, i < t.List.length → Vd (gd t.List i) ∧ (0 < i → (gd t.List (i - 1)).Id < (gd t.List i).Id)
theorem pre_nat {i n : Nat} (hi : i < n) (hn : n ≤ 1000) (h0 : 0 < i) : wr .i64 ((i : Int) - 1) = ((i - 1 : Nat) : Int) := by rw [wr_in (by omega)]; omega
theorem F32_ok (t : TWakeTable) : (VT t ∧ F32 t = some 0) ∨ (¬ VT t ∧ F32 t = some 8) := by
  unfold F32
  by_cases hl : t.List.length ≤ 32
  · rw [bif_f (by simp [bLt_eq]; omega)]
    obtain ⟨b, l1, l2⟩ := loop_for (step := fun s => F32_L1 t s) t.List.length (fun n => ∀ i : Nat, i < n → Vd (gd t.List i) ∧ (0 < i → (gd t.List (i - 1)).Id < (gd t.List i).Id))
      (fun b => match b with | .inl _ => VT t | .inr r => r = 8 ∧ ¬ VT t) (fun i hi => by omega)
      (fun i hi hI => by
        unfold F32_L1
        rw [bif_t (by simp [bLt_eq]; omega), need_true (inb_nat hi), Int.toNat_natCast]
        rcases F17_ok (gd t.List i) with ⟨hv, e⟩ | ⟨hv, e⟩
        · rw [e, Option.bind_some]
          by_cases h0 : 0 < i
          · rw [pre_nat hi (by omega) h0, Int.toNat_natCast, need_true (by rw [inb_nat (show i - 1 < t.List.length by omega)]; simp)]
            by_cases hlt : (gd t.List (i - 1)).Id < (gd t.List i).Id
            · rw [bif_f (by simp [bEq, bLt_eq, bLe_eq]; omega), wr_add1 hi (by omega)]
              refine .inr ⟨rfl, fun j hj => ?_⟩
              rcases Nat.lt_or_eq_of_le (Nat.le_of_lt_succ hj) with h | rfl
              · exact hI j h
              · exact ⟨hv, fun _ => hlt⟩
            · rw [bif_t (by simp [bEq, bLt_eq, bLe_eq]; omega)]
              exact .inl ⟨_, rfl, rfl, fun h => hlt ((h.2 i hi).2 h0)⟩
          · obtain rfl : i = 0 := by omega
            rw [need_true (by simp [bLt_eq, bEq]), bif_f (by simp [bLt_eq, bEq]), wr_add1 hi (by omega)]
            refine .inr ⟨rfl, fun j hj => ?_⟩
            obtain rfl : j = 0 := by omega
            exact ⟨hv, fun h => by omega⟩
        · rw [e, Option.bind_some, need_true (by simp [bEq]), bif_t (by simp [bEq])]
          exact .inl ⟨_, rfl, rfl, fun h => hv (h.2 i hi).1⟩)
      (fun hI => by
        unfold F32_L1
        rw [bif_f (by simp [bLt_eq])]
        exact ⟨_, rfl, hl, hI⟩)
    cases b with
    | inl u => exact .inl ⟨l2, lp_inl l1⟩
    | inr r => obtain ⟨rfl, h⟩ := l2; exact .inr ⟨h, lp_inr l1⟩
  · rw [bif_t (by simp [bLt_eq]; omega)]
    exact .inr ⟨fun h => hl h.1, rfl⟩
/-- Two agreements of a table that may not be beside each other. -/
def Cf (o x : TWakeRule) : Prop := (o.Id ≠ x.Id ∧ (o.Group = 0 ∨ o.Group ≠ x.Group)) ∧ Mt o x
theorem F36_ok (o x : TWakeRule) (ho : Vd o) (hx : Vd x) : ∃ b, F36_0 o x = some b ∧ (b = true ↔ Cf o x) := by
  obtain ⟨b, b1, b2⟩ := F34_ok o x ho hx
  unfold F36_0
  rw [b1, need_true (by simp)]
  refine ⟨_, rfl, ?_⟩
  rw [gt_some, Bool.and_eq_true, b2]
  unfold Cf
  simp [bEq]
theorem F47_ok (L : List TWakeRule) (x : TWakeRule) (hL : ∀ i : Nat, i < L.length → Vd (gd L i)) (hx : Vd x) (hn : L.length ≤ 1000) : ∃ n, F47_0 L x = some n ∧ (0 ≤ n ↔ ∃ i : Nat, i < L.length ∧ Cf (gd L i) x) := by
  unfold F47_0
  obtain ⟨b, l1, l2⟩ := loop_for (step := fun s => F47_0_L1 L x s) L.length (fun n => ∀ i : Nat, i < n → ¬ Cf (gd L i) x)
    (fun b => match b with | .inl _ => ¬ ∃ i : Nat, i < L.length ∧ Cf (gd L i) x | .inr r => 0 ≤ r ∧ ∃ i : Nat, i < L.length ∧ Cf (gd L i) x) (fun i hi => by omega)
    (fun i hi hI => by
      unfold F47_0_L1
      rw [bif_t (by simp [bLt_eq]; omega), need_true (inb_nat hi), Int.toNat_natCast]
      obtain ⟨b, b1, b2⟩ := F36_ok (gd L i) x (hL i hi) hx
      rw [b1, Option.bind_some]
      cases b with
      | true => exact .inl ⟨_, rfl, by omega, i, hi, b2.1 rfl⟩
      | false =>
        rw [cond_false, wr_add1 hi (by omega)]
        refine .inr ⟨rfl, fun j hj => ?_⟩
        rcases Nat.lt_or_eq_of_le (Nat.le_of_lt_succ hj) with h | rfl
        · exact hI j h
        · exact fun h => by have := b2.2 h; cases this)
    (fun hI => by
      unfold F47_0_L1
      rw [bif_f (by simp [bLt_eq])]
      exact ⟨_, rfl, fun ⟨i, h1, h2⟩ => hI i h1 h2⟩)
  cases b with
  | inl u => exact ⟨_, lp_inl l1, fun h => by omega, fun h => absurd h l2⟩
  | inr r => exact ⟨_, lp_inr l1, fun _ => l2.2, fun _ => l2.1⟩
theorem F37_ok (L : List TWakeRule) (x : TWakeRule) (hL : ∀ i : Nat, i < L.length → Vd (gd L i)) (hx : Vd x) (hn : L.length ≤ 1000) : ∃ b, F37_0 L x = some b ∧ (b = true ↔ ∃ i : Nat, i < L.length ∧ Cf (gd L i) x) := by
  obtain ⟨n, n1, n2⟩ := F47_ok L x hL hx hn
  unfold F37_0
  rw [n1, Option.bind_some]
  exact ⟨_, rfl, by rw [bLe_eq, decide_eq_true_eq, n2]⟩
/-- The agreement moved by k periods' lengths. -/
def Mv (r : TWakeRule) (k : Nat) : TWakeRule := TWakeRule.mk r.Id (r.Start + k * r.Length) r.Every r.Length r.Group
def Gd (t : TWakeTable) (r : TWakeRule) (k : Nat) : Prop := Vd (Mv r k) ∧ ¬ ∃ i : Nat, i < t.List.length ∧ Cf (gd t.List i) (Mv r k)
/-- What Answer says: the first good move. -/
def An (t : TWakeTable) (r : TWakeRule) (b : (Unit) ⊕ (TWakeRule × Int)) : Prop := match b with
  | .inl _ => ∀ k : Nat, k < 65 → ¬ Gd t r k
  | .inr (x, e) => ∃ k : Nat, k < 65 ∧ Gd t r k ∧ (∀ j : Nat, j < k → ¬ Gd t r j) ∧ x = Mv r k ∧ e = 0
theorem mv_bd (r : TWakeRule) (hs : Vd r) (k : Nat) (hk : k ≤ 65) : 0 ≤ (k : Int) * r.Length ∧ (k : Int) * r.Length ≤ 279172874240 := by
  unfold Vd at hs
  refine ⟨Int.mul_nonneg (by omega) (by omega), ?_⟩
  exact Int.le_trans (Int.mul_le_mul_of_nonneg_right (show (k : Int) ≤ 65 by omega) (by omega)) (by omega)
theorem F22_L (t : TWakeTable) (r : TWakeRule) (ht : ∀ i : Nat, i < t.List.length → Vd (gd t.List i)) (hn : t.List.length ≤ 1000) (hr : Vd r) :
    ∃ b, loopD (fun s : Int × Int => F22_L1 t r s.1 s.2) (0, r.Start) = some b ∧ An t r b := by
  have e0 : ((0 : Int), r.Start) = (((0 : Nat) : Int), r.Start + ((0 : Nat) : Int) * r.Length) := by simp
  rw [e0]
  refine loop_forS (step := fun s : Int × Int => F22_L1 t r s.1 s.2) 65 (fun n => ((n : Int), r.Start + (n : Int) * r.Length)) (fun n => ∀ k : Nat, k < n → ¬ Gd t r k) (An t r) (fun i hi => by omega) (fun n hi hI => ?_) (fun hI => ?_)
  · have m1 := mv_bd r hr n (by omega)
    have m2 := mv_bd r hr (n + 1) (by omega)
    unfold F22_L1
    simp only
    rw [bif_t (by simp [bLt_eq]; omega)]
    have hmv : TWakeRule.mk r.Id (r.Start + (n : Int) * r.Length) r.Every r.Length r.Group = Mv r n := rfl
    rw [hmv]
    have nx : (wr .i64 ((n : Int) + 1), wr .i64 (r.Start + n * r.Length + r.Length)) = (((n + 1 : Nat) : Int), r.Start + ((n + 1 : Nat) : Int) * r.Length) := by
      have : r.Start + n * r.Length + r.Length = r.Start + ((n + 1 : Nat) : Int) * r.Length := by rw [Int.natCast_add, Int.add_mul]; omega
      have hv := hr
      unfold Vd at hv
      rw [wr_add1 hi (by omega), wr_in (by omega), this]
    rcases F17_ok (Mv r n) with ⟨hv, e⟩ | ⟨hv, e⟩
    · obtain ⟨b, b1, b2⟩ := F37_ok t.List (Mv r n) (fun i hi => ht i hi) hv hn
      rw [e, Option.bind_some, b1, need_true (by simp), gt_some]
      cases b with
      | true =>
        rw [bif_f (by simp), nx]
        refine .inr ⟨rfl, fun j hj => ?_⟩
        rcases Nat.lt_or_eq_of_le (Nat.le_of_lt_succ hj) with h | rfl
        · exact hI j h
        · exact fun h => h.2 (b2.1 rfl)
      | false =>
        rw [bif_t (by simp [bEq])]
        exact .inl ⟨_, rfl, n, hi, ⟨hv, fun h => by have := b2.2 h; cases this⟩, hI, rfl, rfl⟩
    · rw [e, Option.bind_some, need_true (by simp [bEq]), bif_f (by simp [bEq]), nx]
      refine .inr ⟨rfl, fun j hj => ?_⟩
      rcases Nat.lt_or_eq_of_le (Nat.le_of_lt_succ hj) with h | rfl
      · exact hI j h
      · exact fun h => hv h.1
  · unfold F22_L1
    simp only
    rw [bif_f (by simp [bLt_eq])]
    exact ⟨_, rfl, hI⟩
end Go.Proofs.Ytpgcekjnpieibaa
