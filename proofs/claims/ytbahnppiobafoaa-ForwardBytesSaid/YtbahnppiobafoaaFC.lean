/-
  ForwardBytes: the plain law.
-/
import Derived.Test.YtbahnppiobafoaaFB
namespace Go.Proofs.Ytbahnppiobafoaa
open Go.Am
set_option linter.unusedVariables false
set_option linter.unusedSimpArgs false
theorem touch_ok (m : TMeshFrame) (h : m.Data.length ≤ 10000) : F18_0 0 0 0 0 0 0 0 m = some () := by
  unfold F18_0
  obtain ⟨r, l1, rfl⟩ := loop_inv (step := fun s => F18_0_L1 s.1 s.2) (fun s => ∃ x : Nat, s.1 = (x : Int) ∧ x ≤ m.Data.length ∧ s.2.length = m.Data.length) (fun r => r = .inl ()) (fun s => (m.Data.length - s.1).toNat)
    (fun s hS => by
      obtain ⟨i, L⟩ := s
      obtain ⟨x, h1, h2, h3⟩ := hS
      simp only at h1 h3
      subst h1
      show (∃ b, F18_0_L1 x L = _ ∧ _) ∨ ∃ s', F18_0_L1 x L = _ ∧ _
      unfold F18_0_L1
      by_cases hx : x < m.Data.length
      · right
        rw [bif_t (by simp [bLt_eq]; omega), need_true (inb_nat (by omega)), need_true (inb_nat (by omega)), wr_add1 hx (by omega)]
        exact ⟨_, rfl, ⟨x + 1, rfl, by omega, by simp [h3]⟩, by simp only; omega⟩
      · left
        rw [bif_f (by simp [bLt_eq]; omega)]
        exact ⟨_, rfl, rfl⟩) (0, m.Data) ⟨0, rfl, by omega, rfl⟩
  rw [lp_inl l1]
theorem inc_ok (l : List Int) (h : l.length ≤ 10000) : loopD (fun s => F3_L1 s.1 s.2) (l, 0) = some (.inl ()) := by
  obtain ⟨r, l1, rfl⟩ := loop_inv (step := fun s => F3_L1 s.1 s.2) (fun s => ∃ x : Nat, s.2 = (x : Int) ∧ x ≤ l.length ∧ s.1.length = l.length) (fun r => r = .inl ()) (fun s => (l.length - s.2).toNat)
    (fun s hS => by
      obtain ⟨L, i⟩ := s
      obtain ⟨x, h1, h2, h3⟩ := hS
      simp only at h1 h3
      subst h1
      show (∃ b, F3_L1 L x = _ ∧ _) ∨ ∃ s', F3_L1 L x = _ ∧ _
      unfold F3_L1
      by_cases hx : x < l.length
      · right
        rw [bif_t (by simp [bLt_eq]; omega), need_true (inb_nat (by omega)), need_true (inb_nat (by omega)), wr_add1 hx (by omega)]
        exact ⟨_, rfl, ⟨x + 1, rfl, by omega, by simp [h3]⟩, by simp only; omega⟩
      · left
        rw [bif_f (by simp [bLt_eq]; omega)]
        exact ⟨_, rfl, rfl⟩) (l, 0) ⟨0, rfl, by omega, rfl⟩
  exact l1
theorem F11_ok (m : TMeshFrame) (h : m.Data.length ≤ 2400) : F11 m = some m := by
  unfold F11
  rw [nd_cap (by omega) (by omega), List.nil_append]
theorem Dc_len {l : List Int} {r : TMeshFrame × Int} (h : Dc l r) (hl : l.length ≤ 2400) : r.1.Data.length ≤ 2400 := by
  cases h with
  | short => exact Nat.zero_le _
  | bad => exact Nat.zero_le _
  | zero => show (l.drop 28).length ≤ 2400; rw [List.length_drop]; omega
  | one => show (l.drop 40).length ≤ 2400; rw [List.length_drop]; omega
theorem law3 (m : TMeshFrame) (b : List Int) (hm : Fb m) (hb : By b) : F3 m b = some true := by
  unfold F3 F10
  simp only [eta_A6u8, eta_TMeshFrame]
  rw [Option.bind_some]
  by_cases hl : m.Data.length ≤ 2400 ∧ b.length ≤ 2400
  · obtain ⟨h1, h2⟩ := hl
    rw [bif_f (by simp [bLt_eq]; omega), F11_ok m h1, Option.bind_some, nd_cap (by omega) (by omega)]
    have enq : ∃ x : List Int × Int, F12 m = some x ∧ F13 m = some x ∧ x.1.length ≤ 10000 := by
      rcases F12_ok m hm h1 with ⟨h, e⟩ | ⟨h, e⟩ <;> rcases F13_ok m hm h1 with ⟨k, e2⟩ | ⟨k, e2⟩
      · refine ⟨_, e, e2, ?_⟩
        unfold enc
        cases six m <;> simp [ad] <;> omega
      · exact absurd h k
      · exact absurd k h
      · exact ⟨_, e, e2, Nat.zero_le _⟩
    obtain ⟨x, x1, x2, x3⟩ := enq
    obtain ⟨r, r1, r2⟩ := F14_ok b hb h2
    obtain ⟨s, s1, s2⟩ := F15_ok b hb h2
    have hrs := Dc_uniq r2 s2
    subst hrs
    have hrl := Dc_len r2 h2
    obtain ⟨c, c1, c2⟩ := F16_ok x.1 x.1 x3
    obtain ⟨d, d1, d2⟩ := F16_ok b b (by omega)
    have e17 := F17_refl r.1 (by omega)
    have m17 := F17_refl m (by omega)
    rw [c2.2 rfl] at c1
    rw [d2.2 rfl] at d1
    rw [x1, Option.bind_some, x2, Option.bind_some, Option.bind_some, List.nil_append, r1, Option.bind_some, s1, Option.bind_some, c1, Option.bind_some, e17, need_true (by simp), touch_ok r.1 (by omega), Option.bind_some, lp_inl (inc_ok x.1 x3), m17, d1]
    simp [bEq_eq, need, gt_some]
  · rw [bif_t (by simp [bLt_eq]; omega)]
end Go.Proofs.Ytbahnppiobafoaa
