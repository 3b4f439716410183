/-
  When a buffer is valid: both checks, the whole.
-/
import Derived.Test.YtefiemaoacmdkaaBV
namespace Go.Proofs.Ytefiemaoacmdkaa
open Go.Am
set_option linter.unusedVariables false
set_option linter.unusedSimpArgs false
def Asl (b : TBuffer) : Prop := ∃ i : Nat, i < b.List.length ∧ (gd b.List i).Asleep = true
theorem F47_ok (b : TBuffer) (hn : b.List.length ≤ 1000) : ∃ r, F47 b = some r ∧ (r = true ↔ Asl b) := by
  unfold F47 F85_0 F106_0
  obtain ⟨r, l1, l2⟩ := loop_for (step := fun s => F106_0_L1 b.List s) b.List.length (fun n => ∀ i : Nat, i < n → (gd b.List i).Asleep = false) (fun r => match r with | .inl _ => ¬ Asl b | .inr k => 0 ≤ k ∧ Asl b) (fun i hi => by omega)
    (fun i hi hI => by
      unfold F106_0_L1 F86
      rw [bif_t (by simp [bLt_eq]; omega), need_true (inb_nat hi), Int.toNat_natCast, Option.bind_some]
      cases ha : (gd b.List i).Asleep with
      | true => exact .inl ⟨_, rfl, by omega, i, hi, ha⟩
      | false =>
        rw [cond_false, wr_add1 hi (by omega)]
        refine .inr ⟨rfl, fun j hj => ?_⟩
        rcases Nat.lt_or_eq_of_le (Nat.le_of_lt_succ hj) with h | rfl
        · exact hI j h
        · exact ha)
    (fun hI => by
      unfold F106_0_L1
      rw [bif_f (by simp [bLt_eq])]
      exact ⟨_, rfl, fun ⟨i, h1, h2⟩ => by rw [hI i h1] at h2; cases h2⟩)
  cases r with
  | inl u => rw [lp_inl l1]; exact ⟨_, rfl, fun h => by simp [bLe_eq] at h, fun h => absurd h l2⟩
  | inr k => rw [lp_inr l1]; exact ⟨_, rfl, fun _ => l2.2, fun _ => by simp [bLe_eq]; exact l2.1⟩
theorem F49_ok (b : TBuffer) (hn : b.List.length ≤ 1000) : ∃ r, F49 b = some r ∧ (r = true ↔ Asl b) := by
  unfold F49
  obtain ⟨r, l1, l2⟩ := loop_for (step := fun s => F49_L1 b s) b.List.length (fun n => ∀ i : Nat, i < n → (gd b.List i).Asleep = false) (fun r => match r with | .inl _ => ¬ Asl b | .inr k => k = true ∧ Asl b) (fun i hi => by omega)
    (fun i hi hI => by
      unfold F49_L1
      rw [bif_t (by simp [bLt_eq]; omega), need_true (inb_nat hi), Int.toNat_natCast]
      cases ha : (gd b.List i).Asleep with
      | true => exact .inl ⟨_, rfl, rfl, i, hi, ha⟩
      | false =>
        rw [cond_false, wr_add1 hi (by omega)]
        refine .inr ⟨rfl, fun j hj => ?_⟩
        rcases Nat.lt_or_eq_of_le (Nat.le_of_lt_succ hj) with h | rfl
        · exact hI j h
        · exact ha)
    (fun hI => by
      unfold F49_L1
      rw [bif_f (by simp [bLt_eq])]
      exact ⟨_, rfl, fun ⟨i, h1, h2⟩ => by rw [hI i h1] at h2; cases h2⟩)
  cases r with
  | inl u => rw [lp_inl l1]; exact ⟨_, rfl, fun h => (by cases h), fun h => absurd h l2⟩
  | inr k => rw [lp_inr l1]; obtain ⟨rfl, h⟩ := l2; exact ⟨_, rfl, fun _ => h, fun _ => rfl⟩
def lastB (b : TBuffer) (i : Nat) : Int := if i = 0 then 0 else (gd b.List (i - 1)).Aid
def Hb (b : TBuffer) : Prop := (1 ≤ b.Limit ∧ b.Limit ≤ 64) ∧ (1 ≤ b.Stay ∧ b.Stay ≤ 1073741824) ∧ b.List.length ≤ 32
/-- A station's entry is in order. -/
def Pe (b : TBuffer) (i : Nat) : Prop := lastB b i < (gd b.List i).Aid ∧ (gd b.List i).Aid ≤ 255 ∧ Qu (gd b.List i).Held b.Limit 3 ∧ ((gd b.List i).Asleep = true ∨ (gd b.List i).Held.length = 0)
def Vb (b : TBuffer) : Prop := (Hb b ∧ ∀ i : Nat, i < b.List.length → Pe b i) ∧ Qu b.Group b.Limit 0 ∧ (b.Group.length = 0 ∨ Asl b)
theorem aid_pos {b : TBuffer} {n : Nat} (h : ∀ i : Nat, i < n → Pe b i) : 0 ≤ lastB b n := by
  unfold lastB
  induction n with
  | zero => simp
  | succ n ih =>
    rw [if_neg (by omega)]
    have h1 := ih fun i hi => h i (by omega)
    have h2 := (h n (by omega)).1
    unfold lastB at h2
    have e : n + 1 - 1 = n := rfl
    rw [e]
    omega
theorem F18_ok (b : TBuffer) (hg : Ng b) : (Vb b ∧ F18 b = some 0) ∨ (¬ Vb b ∧ F18 b = some 8) := by
  obtain ⟨g1, g2, g3⟩ := hg
  unfold F18
  obtain ⟨r, l1, l2⟩ := loop_inv (step := fun s : Bool × Int × Int => F18_L1 b s.1 s.2.1 s.2.2) (fun s => ∃ i : Nat, i ≤ b.List.length ∧ s.2.1 = lastB b i ∧ s.2.2 = (i : Int) ∧ (s.1 = true ↔ Hb b ∧ ∀ j : Nat, j < i → Pe b j))
    (fun r => ∃ v, r = .inl v ∧ (v = true ↔ Hb b ∧ ∀ j : Nat, j < b.List.length → Pe b j)) (fun s => (b.List.length - s.2.2).toNat)
    (fun s hI => by
      obtain ⟨ok, la, ix⟩ := s
      obtain ⟨i, h1, h2, h3, h4⟩ := hI
      simp only at h2 h3 h4
      subst h2 h3
      unfold F18_L1
      simp only
      by_cases hi : i < b.List.length
      · obtain ⟨q, q1, q2⟩ := F46_ok (gd b.List i).Held b.Limit 3 (by have := g3 i hi; omega)
        rw [bif_t (by simp [bLt_eq]; omega), need_true (inb_nat hi), Int.toNat_natCast, q1]
        simp only [Option.isSome_some, Bool.cond_self, need_true, gt_some]
        rw [wr_add1 hi (by omega)]
        refine .inr ⟨_, rfl, ⟨i + 1, by omega, by simp [lastB], rfl, ?_⟩, by simp only; omega⟩
        have e : ((((ok && bLt (lastB b i) (gd b.List i).Aid) && bLe (gd b.List i).Aid 255) && q) && ((gd b.List i).Asleep || bEq ((gd b.List i).Held.length : Nat) 0)) = true ↔ (Hb b ∧ ∀ j : Nat, j < i → Pe b j) ∧ Pe b i := by
          simp only [Bool.and_eq_true, Bool.or_eq_true, h4, q2, bLt_eq, bLe_eq, bEq_eq, decide_eq_true_eq, Pe]
          have : (((gd b.List i).Held.length : Int) = 0 ↔ (gd b.List i).Held.length = 0) := by omega
          simp only [this]
          constructor
          · rintro ⟨⟨⟨⟨x1, x2⟩, x3⟩, x4⟩, x5⟩; exact ⟨x1, x2, x3, x4, x5⟩
          · rintro ⟨x1, x2, x3, x4, x5⟩; exact ⟨⟨⟨⟨x1, x2⟩, x3⟩, x4⟩, x5⟩
        refine e.trans ⟨fun ⟨⟨x1, x2⟩, x3⟩ => ⟨x1, fun j hj => ?_⟩, fun ⟨x1, x2⟩ => ⟨⟨x1, fun j hj => x2 j (by omega)⟩, x2 i (by omega)⟩⟩
        rcases Nat.lt_or_eq_of_le (Nat.le_of_lt_succ hj) with h | rfl
        · exact x2 j h
        · exact x3
      · obtain rfl : i = b.List.length := by omega
        rw [bif_f (by simp [bLt_eq])]
        exact .inl ⟨_, rfl, ok, rfl, h4⟩)
    (((((bLe 1 b.Limit && bLe b.Limit 64) && bLe 1 b.Stay) && bLe b.Stay 1073741824) && bLe (b.List.length : Nat) 32), 0, 0)
    ⟨0, by omega, rfl, rfl, by
      simp only [Bool.and_eq_true, bLe_eq, decide_eq_true_eq, Hb]
      constructor
      · rintro ⟨⟨⟨⟨x1, x2⟩, x3⟩, x4⟩, x5⟩; exact ⟨⟨⟨x1, x2⟩, ⟨x3, x4⟩, by omega⟩, fun j hj => by omega⟩
      · rintro ⟨⟨⟨x1, x2⟩, ⟨x3, x4⟩, x5⟩, _⟩; exact ⟨⟨⟨⟨x1, x2⟩, x3⟩, x4⟩, by omega⟩⟩
  obtain ⟨v, rfl, l2⟩ := l2
  rw [lp_inl l1]
  obtain ⟨q, q1, q2⟩ := F46_ok b.Group b.Limit 0 (by omega)
  obtain ⟨a, a1, a2⟩ := F47_ok b (by omega)
  rw [q1, a1]
  simp only [Option.isSome_some, Bool.cond_self, need_true, gt_some]
  have e : (((!v) || (!q)) || (bLt 0 (b.Group.length : Nat) && (!a))) = false ↔ Vb b := by
    simp only [Bool.or_eq_false_iff, Bool.not_eq_false', Bool.and_eq_false_iff, l2, q2, a2, Vb, bLt_eq, decide_eq_false_iff_not]
    have : ¬ ((0 : Int) < (b.Group.length : Nat)) ↔ b.Group.length = 0 := by omega
    simp only [this]
    constructor
    · rintro ⟨⟨x1, x2⟩, x3⟩; exact ⟨x1, x2, x3⟩
    · rintro ⟨x1, x2, x3⟩; exact ⟨⟨x1, x2⟩, x3⟩
  cases hc : (((!v) || (!q)) || (bLt 0 (b.Group.length : Nat) && (!a))) with
  | true => exact .inr ⟨fun h => (by rw [e.2 h] at hc; cases hc), rfl⟩
  | false => exact .inl ⟨e.1 hc, rfl⟩
theorem F19_ok (b : TBuffer) (hg : Ng b) (hc : Cb b.Group ∧ ∀ i : Nat, i < b.List.length → Cb (gd b.List i).Held) : ∃ r, F19 b = some r ∧ (r = true ↔ Vb b) := by
  obtain ⟨g1, g2, g3⟩ := hg
  obtain ⟨c1, c2⟩ := hc
  unfold F19
  obtain ⟨q, q1, q2⟩ := F46_ok b.Group b.Limit 0 (by omega)
  obtain ⟨a, a1, a2⟩ := F49_ok b (by omega)
  rw [F48_ok b.Group b.Limit 0 (by omega) c1, q1, a1]
  simp only [Option.isSome_some, Bool.cond_self, need_true, gt_some]
  have e : ((((((bLt b.Limit 1) || (bLt 64 b.Limit)) || (bLt b.Stay 1)) || (bLt 1073741824 b.Stay)) || (bLt 32 (b.List.length : Nat))) || (!q)) = false ↔ Hb b ∧ Qu b.Group b.Limit 0 := by
    simp only [Bool.or_eq_false_iff, Bool.not_eq_false', q2, Hb, bLt_eq, decide_eq_false_iff_not]
    constructor
    · rintro ⟨⟨⟨⟨⟨x1, x2⟩, x3⟩, x4⟩, x5⟩, x6⟩; exact ⟨⟨by omega, by omega, by omega⟩, x6⟩
    · rintro ⟨⟨⟨x1, x2⟩, ⟨x3, x4⟩, x5⟩, x6⟩; exact ⟨⟨⟨⟨⟨by omega, by omega⟩, by omega⟩, by omega⟩, by omega⟩, x6⟩
  cases hh : ((((((bLt b.Limit 1) || (bLt 64 b.Limit)) || (bLt b.Stay 1)) || (bLt 1073741824 b.Stay)) || (bLt 32 (b.List.length : Nat))) || (!q)) with
  | true => exact ⟨_, rfl, fun h => (by cases h), fun h => by rw [e.2 ⟨h.1.1, h.2.1⟩] at hh; cases hh⟩
  | false =>
    obtain ⟨e1, e2⟩ := e.1 hh
    rw [cond_false]
    obtain ⟨r, l1, l2⟩ := loop_for (step := fun s => F19_L1 b s) b.List.length (fun n => ∀ j : Nat, j < n → Pe b j) (fun r => match r with | .inl _ => ∀ j : Nat, j < b.List.length → Pe b j | .inr x => x = false ∧ ¬ ∀ j : Nat, j < b.List.length → Pe b j) (fun i hi => by omega)
      (fun i hi hI => by
        have pos := aid_pos hI
        obtain ⟨q, q1, q2⟩ := F46_ok (gd b.List i).Held b.Limit 3 (by have := g3 i hi; omega)
        unfold F19_L1
        rw [bif_t (by simp [bLt_eq]; omega), need_true (inb_nat hi), Int.toNat_natCast, F48_ok _ _ _ (by have := g3 i hi; omega) (c2 i hi), q1]
        simp only [Option.isSome_some, Bool.cond_self, need_true, gt_some]
        rw [wr_add1 hi (by omega)]
        have fin : ∀ c : Bool, (c = false ↔ Pe b i) → (∃ x, (bif c then some (Lp.done (.inr false)) else some (.next ((i + 1 : Nat) : Int)) : Option (Lp Int (Unit ⊕ Bool))) = some (.done x) ∧ (match x with | .inl _ => ∀ j : Nat, j < b.List.length → Pe b j | .inr x => x = false ∧ ¬ ∀ j : Nat, j < b.List.length → Pe b j)) ∨ ((bif c then some (Lp.done (.inr false)) else some (.next ((i + 1 : Nat) : Int)) : Option (Lp Int (Unit ⊕ Bool))) = some (.next ((i + 1 : Nat) : Int)) ∧ ∀ j : Nat, j < i + 1 → Pe b j) := fun c hc => by
          cases c with
          | true => exact .inl ⟨_, rfl, rfl, fun h => by have := hc.2 (h i hi); cases this⟩
          | false =>
            refine .inr ⟨rfl, fun j hj => ?_⟩
            rcases Nat.lt_or_eq_of_le (Nat.le_of_lt_succ hj) with h | rfl
            · exact hI j h
            · exact hc.1 rfl
        have hz : ((0 : Int) < (((gd b.List i).Held.length : Nat) : Int)) ↔ ¬ (gd b.List i).Held.length = 0 := by omega
        by_cases h0 : 0 < i
        · rw [pre_nat hi (by omega) h0, Int.toNat_natCast, need_true (by rw [inb_nat (show i - 1 < b.List.length by omega)]; simp)]
          refine fin _ ?_
          have hla : lastB b i = (gd b.List (i - 1)).Aid := by unfold lastB; rw [if_neg (by omega)]
          have a4 : bLt 0 (i : Int) = true := by simp [bLt_eq]; omega
          rw [a4]
          unfold Pe
          rw [hla] at pos ⊢
          simp only [Bool.or_eq_false_iff, Bool.and_eq_false_iff, Bool.not_eq_false', q2, bLt_eq, bLe_eq, decide_eq_false_iff_not, Bool.true_and, hz, Decidable.not_not]
          constructor
          · rintro ⟨⟨⟨⟨x1, x2⟩, x3⟩, x4⟩, x5⟩; exact ⟨by omega, by omega, x4, x5⟩
          · rintro ⟨x1, x2, x3, x4⟩; exact ⟨⟨⟨⟨by omega, by omega⟩, by omega⟩, x3⟩, x4⟩
        · obtain rfl : i = 0 := by omega
          have a4 : bLt 0 ((0 : Nat) : Int) = false := rfl
          rw [a4, need_true (by simp)]
          refine fin _ ?_
          unfold Pe
          have hla : lastB b 0 = 0 := rfl
          rw [hla]
          simp only [Bool.or_eq_false_iff, Bool.and_eq_false_iff, Bool.not_eq_false', q2, bLt_eq, bLe_eq, decide_eq_false_iff_not, Bool.false_and, hz, Decidable.not_not]
          constructor
          · rintro ⟨⟨⟨⟨x1, x2⟩, x3⟩, x4⟩, x5⟩; exact ⟨by omega, by omega, x4, x5⟩
          · rintro ⟨x1, x2, x3, x4⟩; exact ⟨⟨⟨⟨by omega, by omega⟩, trivial⟩, x3⟩, x4⟩)
      (fun hI => by
        unfold F19_L1
        rw [bif_f (by simp [bLt_eq])]
        exact ⟨_, rfl, hI⟩)
    cases r with
    | inl u =>
      rw [lp_inl l1]
      refine ⟨_, rfl, ?_⟩
      simp only [Bool.or_eq_true, bEq_eq, decide_eq_true_eq, a2, Vb]
      have : (((b.Group.length : Nat) : Int) = 0 ↔ b.Group.length = 0) := by omega
      simp only [this]
      exact ⟨fun h => ⟨⟨e1, l2⟩, e2, h⟩, fun h => h.2.2⟩
    | inr x => rw [lp_inr l1]; obtain ⟨rfl, h⟩ := l2; exact ⟨_, rfl, fun h => (by cases h), fun h' => absurd h'.1.2 h⟩
end Go.Proofs.Ytefiemaoacmdkaa
