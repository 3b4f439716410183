/-
  Agreements and tables: when they are valid.
-/
import Derived.Test.YtpgcekjnpieibaaY8
namespace Go.Proofs.Ytpgcekjnpieibaa
open Go.Am
set_option linter.unusedVariables false
set_option linter.unusedSimpArgs false
/-- A valid agreement. -/
def Vd (p : TWakeRule) : Prop := 0 ≤ p.Id ∧ p.Id ≤ 255 ∧ 0 ≤ p.Group ∧ p.Group ≤ 255 ∧ 0 ≤ p.Start ∧ p.Start ≤ 1099511627776 ∧ 0 ≤ p.Every ∧ p.Every ≤ 4294967296 ∧ 1 ≤ p.Length ∧ p.Length ≤ 4294967296 ∧ (p.Every = 0 ∨ p.Length ≤ p.Every)
theorem F17_ok (p : TWakeRule) : (Vd p ∧ F17 p = some 0) ∨ (¬ Vd p ∧ F17 p = some 8) := by
  unfold F17 Vd
  simp only [bLe_eq, bLt_eq, bEq_eq]
  by_cases h : (0 ≤ p.Id ∧ p.Id ≤ 255 ∧ 0 ≤ p.Group ∧ p.Group ≤ 255 ∧ 0 ≤ p.Start ∧ p.Start ≤ 1099511627776 ∧ 0 ≤ p.Every ∧ p.Every ≤ 4294967296 ∧ 1 ≤ p.Length ∧ p.Length ≤ 4294967296 ∧ (p.Every = 0 ∨ p.Length ≤ p.Every))
  · refine .inl ⟨h, bif_f ?_⟩
    simp only [Bool.or_eq_false_iff, Bool.and_eq_true, Bool.not_eq_false', Bool.or_eq_true, decide_eq_true_eq, decide_eq_false_iff_not]; omega
  · refine .inr ⟨h, bif_t ?_⟩
    simp only [Bool.or_eq_true, Bool.not_eq_true', Bool.and_eq_false_iff, Bool.or_eq_false_iff, decide_eq_true_eq, decide_eq_false_iff_not]; omega
theorem F20_ok (p : TWakeRule) : ∃ b, F20 p = some b ∧ (b = true ↔ Vd p) := by
  unfold F20 Vd
  simp only [bLe_eq, bLt_eq, bEq_eq]
  cases h1 : ((((((decide (p.Id < 0)) || (decide (255 < p.Id))) || (decide (p.Group < 0))) || (decide (255 < p.Group))) || (decide (p.Start < 0))) || (decide (1099511627776 < p.Start)))
  · simp only [cond_false]
    cases h2 : ((((decide (p.Every < 0)) || (decide (4294967296 < p.Every))) || (decide (p.Length < 1))) || (decide (4294967296 < p.Length)))
    · simp only [cond_false]
      refine ⟨_, rfl, ?_⟩
      simp only [Bool.or_eq_false_iff, decide_eq_false_iff_not, Bool.or_eq_true, decide_eq_true_eq] at *
      omega
    · simp only [cond_true]
      refine ⟨_, rfl, ?_⟩
      simp only [Bool.or_eq_false_iff, decide_eq_false_iff_not, Bool.or_eq_true, decide_eq_true_eq] at *
      constructor
      · intro h; cases h
      · omega
  · simp only [cond_true]
    refine ⟨_, rfl, ?_⟩
    simp only [Bool.or_eq_true, decide_eq_true_eq] at *
    constructor
    · intro h; cases h
    · omega
/-- So small that the periods can be counted. -/
def Sm (p : TWakeRule) : Prop := p.Start ≤ 200000 ∧ p.Every ≤ 2000 ∧ p.Length ≤ 2000
def VT (t : TWakeTable) : Prop := t.List.length ≤ 32 ∧ ∀ i : Nat, i < t.List.length → Vd (gd t.List i) ∧ (0 < i → (gd t.List (i - 1)).Id < (gd t.List i).Id)
theorem pre_nat {i n : Nat} (hi : i < n) (hn : n ≤ 1000) (h0 : 0 < i) : wr .i64 ((i : Int) - 1) = ((i - 1 : Nat) : Int) := by rw [wr_in (by omega)]; omega
theorem F32_ok (t : TWakeTable) : (VT t ∧ F32 t = some 0) ∨ (¬ VT t ∧ F32 t = some 8) := by
  unfold F32
  by_cases hl : t.List.length ≤ 32
  · rw [bif_f (by simp [bLt_eq]; omega)]
    obtain ⟨b, l1, l2⟩ := loop_for (step := fun s => F32_L1 t s) t.List.length (fun n => ∀ i : Nat, i < n → Vd (gd t.List i) ∧ (0 < i → (gd t.List (i - 1)).Id < (gd t.List i).Id))
      (fun b => match b with | .inl _ => VT t | .inr r => r = 8 ∧ ¬ VT t) (fun i hi => by omega)
      (fun i hi hI => by
        unfold F32_L1
        rw [bif_t (by simp [bLt_eq]; omega), need_true (inb_nat hi), Int.toNat_natCast]
        rcases F17_ok (gd t.List i) with ⟨hv, e⟩ | ⟨hv, e⟩
        · rw [e, Option.bind_some]
          by_cases h0 : 0 < i
          · rw [pre_nat hi (by omega) h0, Int.toNat_natCast, need_true (by rw [inb_nat (show i - 1 < t.List.length by omega)]; simp)]
            by_cases hlt : (gd t.List (i - 1)).Id < (gd t.List i).Id
            · rw [bif_f (by simp [bEq, bLt_eq, bLe_eq]; omega), wr_add1 hi (by omega)]
              refine .inr ⟨rfl, fun j hj => ?_⟩
              rcases Nat.lt_or_eq_of_le (Nat.le_of_lt_succ hj) with h | rfl
              · exact hI j h
              · exact ⟨hv, fun _ => hlt⟩
            · rw [bif_t (by simp [bEq, bLt_eq, bLe_eq]; omega)]
              exact .inl ⟨_, rfl, rfl, fun h => hlt ((h.2 i hi).2 h0)⟩
          · obtain rfl : i = 0 := by omega
            rw [need_true (by simp [bLt_eq, bEq]), bif_f (by simp [bLt_eq, bEq]), wr_add1 hi (by omega)]
            refine .inr ⟨rfl, fun j hj => ?_⟩
            obtain rfl : j = 0 := by omega
            exact ⟨hv, fun h => by omega⟩
        · rw [e, Option.bind_some, need_true (by simp [bEq]), bif_t (by simp [bEq])]
          exact .inl ⟨_, rfl, rfl, fun h => hv (h.2 i hi).1⟩)
      (fun hI => by
        unfold F32_L1
        rw [bif_f (by simp [bLt_eq])]
        exact ⟨_, rfl, hl, hI⟩)
    cases b with
    | inl u => exact .inl ⟨l2, lp_inl l1⟩
    | inr r => obtain ⟨rfl, h⟩ := l2; exact .inr ⟨h, lp_inr l1⟩
  · rw [bif_t (by simp [bLt_eq]; omega)]
    exact .inr ⟨fun h => hl h.1, rfl⟩
theorem F33_ok (t : TWakeTable) : ∃ b, F33 t = some b ∧ (b = true ↔ VT t) := by
  unfold F33
  by_cases hl : t.List.length ≤ 32
  · rw [bif_f (by simp [bLt_eq]; omega)]
    obtain ⟨b, l1, l2⟩ := loop_for (step := fun s => F33_L1 t s) t.List.length (fun n => ∀ i : Nat, i < n → Vd (gd t.List i) ∧ (0 < i → (gd t.List (i - 1)).Id < (gd t.List i).Id))
      (fun b => match b with | .inl _ => VT t | .inr r => r = false ∧ ¬ VT t) (fun i hi => by omega)
      (fun i hi hI => by
        unfold F33_L1
        rw [bif_t (by simp [bLt_eq]; omega), need_true (inb_nat hi), Int.toNat_natCast]
        obtain ⟨b, e, hv⟩ := F20_ok (gd t.List i)
        rw [e, Option.bind_some]
        cases b with
        | true =>
          have hv := hv.1 rfl
          by_cases h0 : 0 < i
          · rw [pre_nat hi (by omega) h0, Int.toNat_natCast, need_true (by rw [inb_nat (show i - 1 < t.List.length by omega)]; simp), need_true (by rw [inb_nat hi]; simp)]
            by_cases hlt : (gd t.List (i - 1)).Id < (gd t.List i).Id
            · rw [bif_f (by simp [bEq, bLt_eq, bLe_eq]; omega), wr_add1 hi (by omega)]
              refine .inr ⟨rfl, fun j hj => ?_⟩
              rcases Nat.lt_or_eq_of_le (Nat.le_of_lt_succ hj) with h | rfl
              · exact hI j h
              · exact ⟨hv, fun _ => hlt⟩
            · rw [bif_t (by simp [bEq, bLt_eq, bLe_eq]; omega)]
              exact .inl ⟨_, rfl, rfl, fun h => hlt ((h.2 i hi).2 h0)⟩
          · obtain rfl : i = 0 := by omega
            rw [need_true (by simp [bLt_eq]), need_true (by simp [bLt_eq]), bif_f (by simp [bLt_eq]), wr_add1 hi (by omega)]
            refine .inr ⟨rfl, fun j hj => ?_⟩
            obtain rfl : j = 0 := by omega
            exact ⟨hv, fun h => by omega⟩
        | false =>
          rw [need_true (by simp), need_true (by simp), bif_t (by simp)]
          exact .inl ⟨_, rfl, rfl, fun h => by have := hv.2 (h.2 i hi).1; cases this⟩)
      (fun hI => by
        unfold F33_L1
        rw [bif_f (by simp [bLt_eq])]
        exact ⟨_, rfl, hl, hI⟩)
    cases b with
    | inl u => exact ⟨_, lp_inl l1, fun _ => l2, fun _ => rfl⟩
    | inr r => obtain ⟨rfl, h⟩ := l2; exact ⟨_, lp_inr l1, fun h => (by cases h), fun h' => absurd h' h⟩
  · rw [bif_t (by simp [bLt_eq]; omega)]
    exact ⟨_, rfl, fun h => (by cases h), fun h => absurd h.1 hl⟩
theorem F11_ok (p : TWakeRule) : ∃ b, F11 p = some b ∧ (b = true → p.Start ≤ 20000 ∧ p.Every ≤ 2000 ∧ p.Length ≤ 2000) := by
  unfold F11
  refine ⟨_, rfl, fun h => ?_⟩
  simp only [Bool.and_eq_true, bLe_eq, decide_eq_true_eq] at h
  exact ⟨h.1.1.1, h.1.1.2, h.1.2⟩
theorem F19_ok (t : TWakeTable) : ∃ b, F19 t = some b ∧ (b = true → t.List.length ≤ 40 ∧ ∀ i : Nat, i < t.List.length → Sm (gd t.List i)) := by
  unfold F19
  by_cases hl : t.List.length ≤ 40
  · rw [bif_f (by simp [bLt_eq]; omega)]
    obtain ⟨b, l1, l2⟩ := loop_for (step := fun s => F19_L1 t s) t.List.length (fun n => ∀ i : Nat, i < n → Sm (gd t.List i))
      (fun b => match b with | .inl _ => ∀ i : Nat, i < t.List.length → Sm (gd t.List i) | .inr r => r = false) (fun i hi => by omega)
      (fun i hi hI => by
        unfold F19_L1
        obtain ⟨b, b1, b2⟩ := F11_ok (gd t.List i)
        rw [bif_t (by simp [bLt_eq]; omega), need_true (inb_nat hi), Int.toNat_natCast, b1, Option.bind_some]
        cases b with
        | true =>
          rw [bif_f (by simp), wr_add1 hi (by omega)]
          refine .inr ⟨rfl, fun j hj => ?_⟩
          rcases Nat.lt_or_eq_of_le (Nat.le_of_lt_succ hj) with h | rfl
          · exact hI j h
          · have := b2 rfl
            exact ⟨by omega, this.2.1, this.2.2⟩
        | false => exact .inl ⟨_, rfl, rfl⟩)
      (fun hI => by
        unfold F19_L1
        rw [bif_f (by simp [bLt_eq])]
        exact ⟨_, rfl, hI⟩)
    cases b with
    | inl u => exact ⟨_, lp_inl l1, fun _ => ⟨hl, l2⟩⟩
    | inr r => subst l2; exact ⟨_, lp_inr l1, fun h => by cases h⟩
  · rw [bif_t (by simp [bLt_eq]; omega)]
    exact ⟨_, rfl, fun h => by cases h⟩
end Go.Proofs.Ytpgcekjnpieibaa
