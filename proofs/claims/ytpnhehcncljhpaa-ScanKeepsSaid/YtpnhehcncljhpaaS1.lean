/-
  Tables of candidates: order of addresses, Check.
-/
import Derived.Test.YtpnhehcncljhpaaY4
namespace Go.Proofs.Ytpnhehcncljhpaa
open Go.Am
set_option linter.unusedVariables false
set_option linter.unusedSimpArgs false
/-- An address is of bytes; its number. -/
def Ab (a : A6u8) : Prop := (0 ≤ a.x0 ∧ a.x0 ≤ 255) ∧ (0 ≤ a.x1 ∧ a.x1 ≤ 255) ∧ (0 ≤ a.x2 ∧ a.x2 ≤ 255) ∧ (0 ≤ a.x3 ∧ a.x3 ≤ 255) ∧ (0 ≤ a.x4 ∧ a.x4 ≤ 255) ∧ (0 ≤ a.x5 ∧ a.x5 ≤ 255)
def nA (a : A6u8) : Int := ((((a.x0 * 256 + a.x1) * 256 + a.x2) * 256 + a.x3) * 256 + a.x4) * 256 + a.x5
theorem Ab_u8 {a : A6u8} (h : Ab a) : u8A [a.x0, a.x1, a.x2, a.x3, a.x4, a.x5] = true := by
  obtain ⟨h0, h1, h2, h3, h4, h5⟩ := h
  rw [u8A_iff]
  intro q hq
  simp only [List.mem_cons, List.not_mem_nil, or_false] at hq
  rcases hq with rfl | rfl | rfl | rfl | rfl | rfl <;> assumption
theorem cmp_eq {x y : Int} (l m : List Int) (h : x = y) : cmpL (x :: l) (y :: m) = cmpL l m := by
  subst h; simp only [cmpL, Int.lt_irrefl, if_false]
theorem cmp_lt {x y : Int} (l m : List Int) (h : x < y) : cmpL (x :: l) (y :: m) = -1 := by simp only [cmpL, if_pos h]
theorem cmp_gt {x y : Int} (l m : List Int) (h : y < x) : cmpL (x :: l) (y :: m) = 1 := by
  have h2 : ¬ x < y := by omega
  simp only [cmpL, if_neg h2, if_pos h]
theorem F39_ok (a b : A6u8) (ha : Ab a) (hb : Ab b) : ∃ k, F39 a b = some k ∧ (k < 0 → nA a < nA b) ∧ (nA a < nA b → k < 0) := by
  unfold F39 F53
  rw [need_true (Ab_u8 ha), need_true (Ab_u8 hb), Option.bind_some]
  refine ⟨_, rfl, ?_⟩
  unfold Ab at ha hb
  rcases Int.lt_trichotomy a.x0 b.x0 with h0 | h0 | h0
  · rw [cmp_lt _ _ h0]
    exact ⟨fun _ => by unfold nA; omega, fun _ => by omega⟩
  · rw [cmp_eq _ _ h0]
    rcases Int.lt_trichotomy a.x1 b.x1 with h1 | h1 | h1
    · rw [cmp_lt _ _ h1]
      exact ⟨fun _ => by unfold nA; omega, fun _ => by omega⟩
    · rw [cmp_eq _ _ h1]
      rcases Int.lt_trichotomy a.x2 b.x2 with h2 | h2 | h2
      · rw [cmp_lt _ _ h2]
        exact ⟨fun _ => by unfold nA; omega, fun _ => by omega⟩
      · rw [cmp_eq _ _ h2]
        rcases Int.lt_trichotomy a.x3 b.x3 with h3 | h3 | h3
        · rw [cmp_lt _ _ h3]
          exact ⟨fun _ => by unfold nA; omega, fun _ => by omega⟩
        · rw [cmp_eq _ _ h3]
          rcases Int.lt_trichotomy a.x4 b.x4 with h4 | h4 | h4
          · rw [cmp_lt _ _ h4]
            exact ⟨fun _ => by unfold nA; omega, fun _ => by omega⟩
          · rw [cmp_eq _ _ h4]
            rcases Int.lt_trichotomy a.x5 b.x5 with h5 | h5 | h5
            · rw [cmp_lt _ _ h5]
              exact ⟨fun _ => by unfold nA; omega, fun _ => by omega⟩
            · rw [cmp_eq _ _ h5]
              exact ⟨fun h => by simp [cmpL] at h, fun h => by unfold nA at h; omega⟩
            · rw [cmp_gt _ _ h5]
              exact ⟨fun h => by omega, fun h => by unfold nA at h; omega⟩
          · rw [cmp_gt _ _ h4]
            exact ⟨fun h => by omega, fun h => by unfold nA at h; omega⟩
        · rw [cmp_gt _ _ h3]
          exact ⟨fun h => by omega, fun h => by unfold nA at h; omega⟩
      · rw [cmp_gt _ _ h2]
        exact ⟨fun h => by omega, fun h => by unfold nA at h; omega⟩
    · rw [cmp_gt _ _ h1]
      exact ⟨fun h => by omega, fun h => by unfold nA at h; omega⟩
  · rw [cmp_gt _ _ h0]
    exact ⟨fun h => by omega, fun h => by unfold nA at h; omega⟩
/-- A candidate is valid. -/
def Vc (c : TCandidate) : Prop := (1 ≤ c.Channel ∧ c.Channel ≤ 64) ∧ (-2000 ≤ c.Level ∧ c.Level ≤ 2000) ∧ (0 ≤ c.Load ∧ c.Load ≤ 255) ∧ (0 ≤ c.Heard ∧ c.Heard ≤ 1099511627776) ∧ (1 ≤ c.Interval ∧ c.Interval ≤ 65535) ∧ c.Name.size ≤ 32
theorem F34_ok (c : TCandidate) : ∃ b, F34 c = some b ∧ (b = true ↔ Vc c) := by
  unfold F34 F29
  simp only [Option.bind_some, Option.isSome_some, gt_some, Bool.cond_self, need_true]
  refine ⟨_, rfl, ?_⟩
  simp only [Bool.and_eq_true, bLe_eq, decide_eq_true_eq, Vc]
  constructor
  · rintro ⟨⟨⟨⟨⟨h1, h2⟩, h3⟩, h4⟩, h5⟩, h6⟩; exact ⟨h1, h2, h3, h4, h5, by omega⟩
  · rintro ⟨h1, h2, h3, h4, h5, h6⟩; exact ⟨⟨⟨⟨⟨h1, h2⟩, h3⟩, h4⟩, h5⟩, by omega⟩
/-- The addresses are of bytes. -/
def Abs (t : TCandidates) : Prop := ∀ i : Nat, i < t.List.length → Ab (gd t.List i).Addr
def Vt (t : TCandidates) : Prop := t.List.length ≤ 64 ∧ ∀ i : Nat, i < t.List.length → Vc (gd t.List i) ∧ (0 < i → nA (gd t.List (i - 1)).Addr < nA (gd t.List i).Addr)
theorem pre_nat {i n : Nat} (hi : i < n) (hn : n ≤ 1000) (h0 : 0 < i) : wr .i64 ((i : Int) - 1) = ((i - 1 : Nat) : Int) := by rw [wr_in (by omega)]; omega
theorem F19_ok (t : TCandidates) (hb : Abs t) : (Vt t ∧ F19 t = some 0) ∨ (¬ Vt t ∧ F19 t = some 8) := by
  unfold F19
  by_cases hl : t.List.length ≤ 64
  · rw [bif_f (by simp [bLt_eq]; omega)]
    obtain ⟨b, l1, l2⟩ := loop_for (step := fun s => F19_L1 t s) t.List.length (fun n => ∀ i : Nat, i < n → Vc (gd t.List i) ∧ (0 < i → nA (gd t.List (i - 1)).Addr < nA (gd t.List i).Addr))
      (fun b => match b with | .inl _ => Vt t | .inr r => r = 8 ∧ ¬ Vt t) (fun i hi => by omega)
      (fun i hi hI => by
        obtain ⟨v, v1, v2⟩ := F34_ok (gd t.List i)
        unfold F19_L1
        rw [bif_t (by simp [bLt_eq]; omega), need_true (inb_nat hi), Int.toNat_natCast]
        simp only [eta_A6u8, eta_TCandidate]
        rw [v1, Option.bind_some]
        cases v with
        | false =>
          rw [need_true (by simp), need_true (by simp), bif_t (by simp)]
          exact .inl ⟨_, rfl, rfl, fun h => by have := v2.2 (h.2 i hi).1; cases this⟩
        | true =>
          have hv := v2.1 rfl
          by_cases h0 : 0 < i
          · have a4 : bLt 0 (i : Int) = true := by simp [bLt_eq]; omega
            obtain ⟨k, k1, k2, k3⟩ := F39_ok (gd t.List (i - 1)).Addr (gd t.List i).Addr (hb _ (by omega)) (hb _ hi)
            rw [pre_nat hi (by omega) h0, Int.toNat_natCast, need_true (by rw [inb_nat (show i - 1 < t.List.length by omega)]; simp), k1, need_true (by simp), gt_some, a4]
            by_cases hk : k < 0
            · rw [bif_f (by simp [bLe_eq]; omega), wr_add1 hi (by omega)]
              refine .inr ⟨rfl, fun j hj => ?_⟩
              rcases Nat.lt_or_eq_of_le (Nat.le_of_lt_succ hj) with h | rfl
              · exact hI j h
              · exact ⟨hv, fun _ => k2 hk⟩
            · rw [bif_t (by simp [bLe_eq]; omega)]
              exact .inl ⟨_, rfl, rfl, fun h => hk (k3 ((h.2 i hi).2 h0))⟩
          · have a4 : bLt 0 (i : Int) = false := by simp [bLt_eq]; omega
            rw [a4, need_true (by simp), need_true (by simp), bif_f (by simp), wr_add1 hi (by omega)]
            refine .inr ⟨rfl, fun j hj => ?_⟩
            rcases Nat.lt_or_eq_of_le (Nat.le_of_lt_succ hj) with h | rfl
            · exact hI j h
            · exact ⟨hv, fun h => absurd h h0⟩)
      (fun hI => by
        unfold F19_L1
        rw [bif_f (by simp [bLt_eq])]
        exact ⟨_, rfl, hl, hI⟩)
    cases b with
    | inl u => exact .inl ⟨l2, lp_inl l1⟩
    | inr r => obtain ⟨rfl, h⟩ := l2; exact .inr ⟨h, lp_inr l1⟩
  · rw [bif_t (by simp [bLt_eq]; omega)]
    exact .inr ⟨fun h => hl h.1, rfl⟩
theorem F46_ok (t : TCandidates) (now : Int) (hb : Abs t) : ∃ k, F46 t now = some k ∧ (k = 0 ∨ k = 8 ∨ k = 2) ∧ (k = 0 ↔ Vt t ∧ 0 ≤ now ∧ now ≤ 1099511627776) := by
  unfold F46 F29
  rcases F19_ok t hb with ⟨h, e⟩ | ⟨h, e⟩
  · rw [e, Option.bind_some, bif_f (by simp [bEq]), Option.bind_some]
    cases hc : (bLe 0 now && bLe now 1099511627776) with
    | true =>
      simp only [Bool.and_eq_true, bLe_eq, decide_eq_true_eq] at hc
      exact ⟨_, rfl, by simp, fun _ => ⟨h, hc⟩, fun _ => rfl⟩
    | false =>
      refine ⟨_, rfl, by simp, fun h => (by cases h), fun h => ?_⟩
      simp only [Bool.and_eq_false_iff, bLe_eq, decide_eq_false_iff_not] at hc
      omega
  · rw [e, Option.bind_some, bif_t (by simp [bEq])]
    exact ⟨_, rfl, by simp, fun h => (by cases h), fun h' => absurd h'.1 h⟩
theorem Vt_lt {t : TCandidates} (h : Vt t) : ∀ j : Nat, j < t.List.length → ∀ i : Nat, i < j → nA (gd t.List i).Addr < nA (gd t.List j).Addr := by
  intro j
  induction j with
  | zero => intro _ i hi; omega
  | succ j ih =>
    intro hj i hi
    have h1 := (h.2 (j + 1) hj).2 (by omega)
    have e : j + 1 - 1 = j := rfl
    rw [e] at h1
    rcases Nat.lt_or_eq_of_le (Nat.le_of_lt_succ hi) with h2 | rfl
    · have := ih (by omega) i h2; omega
    · exact h1
end Go.Proofs.Ytpnhehcncljhpaa
