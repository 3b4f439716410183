/-
  Binary search, adding and removing.
-/
import Derived.Test.YtpgcekjnpieibaaU2
namespace Go.Proofs.Ytpgcekjnpieibaa
open Go.Am
set_option linter.unusedVariables false
set_option linter.unusedSimpArgs false
theorem wr0 {x : Int} (h : -9223372036854775808 ≤ x ∧ x ≤ 9223372036854776063) (e : wr .i64 x = 0) : x = 0 := by
  by_cases h1 : x ≤ 9223372036854775807
  · rwa [wr_in (by omega)] at e
  · exfalso
    obtain ⟨y, rfl⟩ : ∃ y, x = 18446744073709551616 + y := ⟨x - 18446744073709551616, by omega⟩
    have : wr .i64 (18446744073709551616 + y) = wr .i64 y := by
      unfold wr IntKind.wrap
      simp [IntKind.signed, IntKind.bits, Int.bmod]
    rw [this, wr_in (by omega)] at e
    omega
theorem half {a b : Nat} (h : a + b ≤ 100000) : wr .i64 (shrI .u64 (wr .u64 (wr .i64 ((a : Int) + b))) 1) = (((a + b) / 2 : Nat) : Int) := by
  rw [wr_in (x := (a : Int) + b) (by omega), show ((a : Int) + b) = ((a + b : Nat) : Int) from by omega]
  rw [show wr .u64 ((a + b : Nat) : Int) = ((a + b : Nat) : Int) from wrap_nat .u64 rfl (a + b) (by show a + b < 2 ^ 64; omega)]
  rw [show shrI .u64 ((a + b : Nat) : Int) 1 = (((a + b) / 2 ^ 1 : Nat) : Int) from shrI_nat .u64 (a + b) 1 (by decide), Nat.pow_one, wr_in (by omega)]
/-- The identifiers grow. -/
def Inc (l : List TWakeRule) : Prop := ∀ i : Nat, i < l.length → (0 ≤ (gd l i).Id ∧ (gd l i).Id ≤ 255) ∧ (0 < i → (gd l (i - 1)).Id < (gd l i).Id)
theorem Inc_lt {l : List TWakeRule} (h : Inc l) : ∀ j : Nat, j < l.length → ∀ i : Nat, i < j → (gd l i).Id < (gd l j).Id := by
  intro j
  induction j with
  | zero => intro _ i hi; omega
  | succ j ih =>
    intro hj i hi
    have h1 := (h (j + 1) hj).2 (by omega)
    have e : j + 1 - 1 = j := rfl
    rw [e] at h1
    rcases Nat.lt_or_eq_of_le (Nat.le_of_lt_succ hi) with h2 | rfl
    · have := ih (by omega) i h2; omega
    · exact h1
theorem find_ok (l : List TWakeRule) (id : Int) (hl : l.length ≤ 1000) (hI : Inc l) (hid : -9223372036854775808 ≤ id ∧ id ≤ 9223372036854775807) :
    ∃ (i : Nat) (b : Bool), F48_0 l id = some ((i : Int), b) ∧ i ≤ l.length ∧ (b = true → i < l.length ∧ (gd l i).Id = id) ∧
      (0 ≤ id ∧ id ≤ 255 → (∀ j : Nat, j < i → (gd l j).Id < id) ∧ (∀ j : Nat, i ≤ j → j < l.length → id ≤ (gd l j).Id) ∧ (b = false → ∀ j : Nat, j < l.length → (gd l j).Id ≠ id)) := by
  unfold F48_0
  obtain ⟨r, l1, l2⟩ := loop_inv (step := fun s : Int × Int => F48_0_L1 l id s.1 s.2) (fun s => ∃ a b : Nat, s = ((a : Int), (b : Int)) ∧ a ≤ b ∧ b ≤ l.length ∧ (0 ≤ id ∧ id ≤ 255 → (∀ j : Nat, j < a → (gd l j).Id < id) ∧ (∀ j : Nat, b ≤ j → j < l.length → id ≤ (gd l j).Id)))
    (fun r => ∃ a : Nat, r = .inl (a : Int) ∧ a ≤ l.length ∧ (0 ≤ id ∧ id ≤ 255 → (∀ j : Nat, j < a → (gd l j).Id < id) ∧ (∀ j : Nat, a ≤ j → j < l.length → id ≤ (gd l j).Id))) (fun s => (s.2 - s.1).toNat)
    (fun s hS => by
      obtain ⟨a, b, rfl, h1, h2, h3⟩ := hS
      unfold F48_0_L1 F49
      simp only
      by_cases hab : a < b
      · right
        have hm : (a + b) / 2 < l.length := by omega
        rw [bif_t (by simp [bLt_eq]; omega), half (by omega), need_true (inb_nat hm), Int.toNat_natCast, Option.bind_some]
        cases hc : bLt (wr .i64 ((gd l ((a + b) / 2)).Id - id)) 0 with
        | true =>
          rw [cond_true, wr_in (by omega)]
          refine ⟨_, rfl, ⟨(a + b) / 2 + 1, b, by simp, by omega, h2, fun hd => ⟨fun j hj => ?_, (h3 hd).2⟩⟩, by simp only; omega⟩
          have h4 := (hI _ hm).1
          rw [wr_in (by omega)] at hc
          simp [bLt_eq] at hc
          rcases Nat.lt_or_eq_of_le (Nat.le_of_lt_succ hj) with h5 | rfl
          · have := Inc_lt hI _ hm j h5; omega
          · omega
        | false =>
          rw [cond_false]
          refine ⟨_, rfl, ⟨a, (a + b) / 2, rfl, by omega, by omega, fun hd => ⟨(h3 hd).1, fun j hj hj2 => ?_⟩⟩, by simp only; omega⟩
          have h4 := (hI _ hm).1
          rw [wr_in (by omega)] at hc
          simp [bLt_eq] at hc
          rcases Nat.lt_or_eq_of_le hj with h5 | rfl
          · have := Inc_lt hI _ hj2 _ h5; omega
          · omega
      · left
        obtain rfl : a = b := by omega
        rw [bif_f (by simp [bLt_eq])]
        exact ⟨_, rfl, a, rfl, h2, h3⟩) (0, (l.length : Nat)) ⟨0, l.length, rfl, by omega, by omega, fun _ => ⟨fun j hj => by omega, fun j hj hj2 => by omega⟩⟩
  obtain ⟨a, rfl, ha, h3⟩ := l2
  rw [lp_inl l1]
  unfold F49
  simp only [Option.isSome_some, gt_some, Bool.cond_self, need_true, Int.toNat_natCast]
  by_cases hlt : a < l.length
  · have e1 : bLt (a : Int) (l.length : Nat) = true := by simp [bLt_eq]; omega
    rw [e1, inb_nat hlt]
    have h4 := (hI _ hlt).1
    refine ⟨a, _, rfl, ha, fun hb => ⟨hlt, ?_⟩, fun hd => ⟨(h3 hd).1, (h3 hd).2, fun hb j hj he => ?_⟩⟩
    · simp only [Bool.true_and, bEq_eq, decide_eq_true_eq] at hb
      have := wr0 (by omega) hb
      omega
    · simp only [Bool.true_and, bEq_eq, decide_eq_false_iff_not] at hb
      rw [wr_in (by omega)] at hb
      rcases Nat.lt_trichotomy j a with h5 | rfl | h5
      · have := (h3 hd).1 j h5; omega
      · omega
      · have := Inc_lt hI j hj a h5
        have := (h3 hd).2 a (by omega) hlt
        omega
  · have e1 : bLt (a : Int) (l.length : Nat) = false := by simp [bLt_eq]; omega
    rw [e1]
    refine ⟨a, _, rfl, ha, fun hb => by simp at hb, fun hd => ⟨(h3 hd).1, (h3 hd).2, fun hb j hj he => ?_⟩⟩
    have := (h3 hd).1 j (by omega)
    omega
theorem has_ok (t : TWakeTable) (id : Int) (hl : t.List.length ≤ 1000) : ∃ b, F42 t id = some b ∧ (b = true ↔ ∃ j : Nat, j < t.List.length ∧ (gd t.List j).Id = id) := by
  unfold F42
  obtain ⟨r, l1, l2⟩ := loop_for (step := fun s => F42_L1 t id s) t.List.length (fun n => ∀ j : Nat, j < n → (gd t.List j).Id ≠ id) (fun r => match r with | .inl _ => ¬ ∃ j : Nat, j < t.List.length ∧ (gd t.List j).Id = id | .inr b => b = true ∧ ∃ j : Nat, j < t.List.length ∧ (gd t.List j).Id = id) (fun i hi => by omega)
    (fun i hi hS => by
      unfold F42_L1
      rw [bif_t (by simp [bLt_eq]; omega), need_true (inb_nat hi), Int.toNat_natCast]
      by_cases he : (gd t.List i).Id = id
      · rw [bif_t (by simp [bEq, he])]
        exact .inl ⟨_, rfl, rfl, i, hi, he⟩
      · rw [bif_f (by simp [bEq, he]), wr_add1 hi (by omega)]
        refine .inr ⟨rfl, fun j hj => ?_⟩
        rcases Nat.lt_or_eq_of_le (Nat.le_of_lt_succ hj) with h | rfl
        · exact hS j h
        · exact he)
    (fun hS => by
      unfold F42_L1
      rw [bif_f (by simp [bLt_eq])]
      exact ⟨_, rfl, fun ⟨j, h1, h2⟩ => hS j h1 h2⟩)
  cases r with
  | inl u => exact ⟨_, lp_inl l1, fun h => (by cases h), fun h => absurd h l2⟩
  | inr b => obtain ⟨rfl, h⟩ := l2; exact ⟨_, lp_inr l1, fun _ => h, fun _ => rfl⟩
/-- Those that a loop takes over. -/
theorem take_filter (p : TWakeRule → Bool) (l : List TWakeRule) {i : Nat} (hi : i < l.length) : (l.take (i + 1)).filter p = bif p (gd l i) then (l.take i).filter p ++ [gd l i] else (l.take i).filter p := by
  have e : gd l i = l[i] := by simp [gd, List.getD_eq_getElem?_getD, hi]
  rw [List.take_succ_eq_append_getElem hi, List.filter_append, e]
  cases h : p l[i] <;> simp [h]
theorem Inc_pw {l : List TWakeRule} (h : Inc l) : l.Pairwise fun a b => a.Id < b.Id := by
  rw [List.pairwise_iff_getElem]
  intro i j hi hj hij
  have := Inc_lt h j hj i hij
  simpa [gd, List.getD_eq_getElem?_getD, hi, hj] using this
theorem rem_ok (t : TWakeTable) (id : Int) (hid : -9223372036854775808 ≤ id ∧ id ≤ 9223372036854775807) : ∃ r : TWakeTable × Int, F26 t id = some r ∧ F27 t id = some r ∧ r.1.List.length ≤ 1000 := by
  unfold F26 F27
  obtain ⟨v, v1, v2⟩ := F33_ok t
  rw [v1]
  rcases F32_ok t with ⟨hv, e⟩ | ⟨hv, e⟩
  · rw [e]
    obtain rfl := v2.2 hv
    simp only [Option.bind_some, bEq_eq, decide_true, Bool.not_true, cond_false]
    have hI : Inc t.List := fun i hi => ⟨⟨(hv.2 i hi).1.1, (hv.2 i hi).1.2.1⟩, (hv.2 i hi).2⟩
    have hlen := hv.1
    obtain ⟨i, f, f1, f2, f3, f4⟩ := find_ok t.List id (by omega) hI hid
    obtain ⟨h, h1, h2⟩ := has_ok t id (by omega)
    have eF : F39 t id = some ((i : Int), f) := by unfold F39; rw [f1]; rfl
    rw [eF, h1]
    simp only [Option.bind_some]
    cases f with
    | true =>
      obtain ⟨g1, g2⟩ := f3 rfl
      obtain rfl := h2.2 ⟨i, g1, g2⟩
      simp only [Bool.not_true, cond_false]
      have ec : F41 t.List = some t.List := by unfold F41; rw [need_true (capb_iff.2 (by omega))]
      rw [ec, wr_add1 g1 (by omega)]
      simp only [Option.bind_some]
      rw [need_true (delb_iff.2 (by omega))]
      obtain ⟨b, l1, l2⟩ := loop_forS (step := fun s : Int × List TWakeRule => F27_L1 t id s.1 s.2) t.List.length (fun n => ((n : Int), (t.List.take n).filter fun q => !bEq q.Id id)) (fun _ => True) (fun b => b = .inl (t.List.filter fun q => !bEq q.Id id)) trivial
        (fun j hj _ => by
          have hl : ((t.List.take j).filter fun q => !bEq q.Id id).length ≤ j := by
            refine Nat.le_trans (List.length_filter_le _ _) ?_
            simp; omega
          have e1 : capb 40 (((t.List.take j).filter fun q => !bEq q.Id id).length + 1) = true := capb_iff.2 (by omega)
          unfold F27_L1
          simp only
          rw [bif_t (by simp [bLt_eq]; omega), inb_nat hj, Int.toNat_natCast, wr_add1 hj (by omega), e1, take_filter _ _ hj]
          simp only [need_true]
          refine .inr ⟨?_, trivial⟩
          cases (!bEq (gd t.List j).Id id) <;> rfl)
        (fun _ => by
          unfold F27_L1
          simp only
          rw [bif_f (by simp [bLt_eq]), List.take_length]
          exact ⟨_, rfl, rfl⟩)
      subst l2
      have l1 : loopD (fun s : Int × List TWakeRule => F27_L1 t id s.1 s.2) (0, []) = some (.inl (t.List.filter fun q => !bEq q.Id id)) := l1
      rw [lp_inl l1]
      have key : delL t.List (i : Int) ((i + 1 : Nat) : Int) = t.List.filter fun q => !bEq q.Id id := by
        unfold delL
        rw [Int.toNat_natCast, Int.toNat_natCast]
        have e2 : t.List = t.List.take i ++ ([gd t.List i] ++ t.List.drop (i + 1)) := by
          have e : gd t.List i = t.List[i] := by simp [gd, List.getD_eq_getElem?_getD, g1]
          rw [e, List.singleton_append, ← List.drop_eq_getElem_cons g1, List.take_append_drop]
        have pw := Inc_pw hI
        conv => rhs; rw [e2]
        rw [e2] at pw
        obtain ⟨_, pw2, pw3⟩ := List.pairwise_append.1 pw
        rw [List.singleton_append] at pw2 pw3
        have pw2 := List.pairwise_cons.1 pw2
        rw [List.filter_append, List.filter_append]
        have q1 : (t.List.take i).filter (fun q => !bEq q.Id id) = t.List.take i := List.filter_eq_self.2 fun x hx => by
          have := pw3 x hx (gd t.List i) (by simp)
          simp [bEq]; omega
        have q2 : (t.List.drop (i + 1)).filter (fun q => !bEq q.Id id) = t.List.drop (i + 1) := List.filter_eq_self.2 fun x hx => by
          have := pw2.1 x hx
          simp [bEq]; omega
        have q3 : [gd t.List i].filter (fun q => !bEq q.Id id) = [] := by simp [bEq, g2]
        rw [q1, q2, q3, List.nil_append]
      rw [key]
      refine ⟨_, rfl, rfl, ?_⟩
      have := List.length_filter_le (fun q => !bEq q.Id id) t.List
      simp only; omega
    | false =>
      have : h = false := by
        cases h with
        | false => rfl
        | true =>
          obtain ⟨j, j1, j2⟩ := h2.1 rfl
          have := (hI j j1).1
          exact absurd j2 ((f4 (by omega)).2.2 rfl j j1)
      subst this
      exact ⟨_, rfl, rfl, by simp⟩
  · rw [e]
    have : v = false := by cases v with | true => exact absurd (v2.1 rfl) hv | false => rfl
    subst this
    exact ⟨_, rfl, rfl, by simp⟩
end Go.Proofs.Ytpgcekjnpieibaa
