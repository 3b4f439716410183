/-
  WakeOverlaps: Answer.
-/
import Derived.Test.YtpgcekjnpieibaaR
namespace Go.Proofs.Ytpgcekjnpieibaa
open Go.Am
set_option linter.unusedVariables false
set_option linter.unusedSimpArgs false
def VT (t : TWakeTable) : Prop := t.List.length ≤ 32 ∧ ∀ i : Nat, i < t.List.length → Vd (gd t.List i) ∧ (0 < i → (gd t.List (i - 1)).Id < (gd t.List i).Id)
theorem pre_nat {i n : Nat} (hi : i < n) (hn : n ≤ 1000) (h0 : 0 < i) : wr .i64 ((i : Int) - 1) = ((i - 1 : Nat) : Int) := by rw [wr_in (by omega)]; omega
theorem F32_ok (t : TWakeTable) : (VT t ∧ F32 t = some 0) ∨ (¬ VT t ∧ F32 t = some 8) := by
  unfold F32
  by_cases hl : t.List.length ≤ 32
  · rw [bif_f (by simp [bLt_eq]; omega)]
    obtain ⟨b, l1, l2⟩ := loop_for (step := fun s => F32_L1 t s) t.List.length (fun n => ∀ i : Nat, i < n → Vd (gd t.List i) ∧ (0 < i → (gd t.List (i - 1)).Id < (gd t.List i).Id))
      (fun b => match b with | .inl _ => VT t | .inr r => r = 8 ∧ ¬ VT t) (fun i hi => by omega)
      (fun i hi hI => by
        unfold F32_L1
        rw [bif_t (by simp [bLt_eq]; omega), need_true (inb_nat hi), Int.toNat_natCast]
        rcases F17_ok (gd t.List i) with ⟨hv, e⟩ | ⟨hv, e⟩
        · rw [e, Option.bind_some]
          by_cases h0 : 0 < i
          · rw [pre_nat hi (by omega) h0, Int.toNat_natCast, need_true (by rw [inb_nat (show i - 1 < t.List.length by omega)]; simp)]
            by_cases hlt : (gd t.List (i - 1)).Id < (gd t.List i).Id
            · rw [bif_f (by simp [bEq, bLt_eq, bLe_eq]; omega), wr_add1 hi (by omega)]
              refine .inr ⟨rfl, fun j hj => ?_⟩
              rcases Nat.lt_or_eq_of_le (Nat.le_of_lt_succ hj) with h | rfl
              · exact hI j h
              · exact ⟨hv, fun _ => hlt⟩
            · rw [bif_t (by simp [bEq, bLt_eq, bLe_eq]; omega)]
              exact .inl ⟨_, rfl, rfl, fun h => hlt ((h.2 i hi).2 h0)⟩
          · obtain rfl : i = 0 := by omega
            rw [need_true (by simp [bLt_eq, bEq]), bif_f (by simp [bLt_eq, bEq]), wr_add1 hi (by omega)]
            refine .inr ⟨rfl, fun j hj => ?_⟩
            obtain rfl : j = 0 := by omega
            exact ⟨hv, fun h => by omega⟩
        · rw [e, Option.bind_some, need_true (by simp [bEq]), bif_t (by simp [bEq])]
          exact .inl ⟨_, rfl, rfl, fun h => hv (h.2 i hi).1⟩)
      (fun hI => by
        unfold F32_L1
        rw [bif_f (by simp [bLt_eq])]
        exact ⟨_, rfl, hl, hI⟩)
    cases b with
    | inl u => exact .inl ⟨l2, lp_inl l1⟩
    | inr r => obtain ⟨rfl, h⟩ := l2; exact .inr ⟨h, lp_inr l1⟩
  · rw [bif_t (by simp [bLt_eq]; omega)]
    exact .inr ⟨fun h => hl h.1, rfl⟩
theorem F33_ok (t : TWakeTable) : ∃ b, F33 t = some b ∧ (b = true ↔ VT t) := by
  unfold F33
  by_cases hl : t.List.length ≤ 32
  · rw [bif_f (by simp [bLt_eq]; omega)]
    obtain ⟨b, l1, l2⟩ := loop_for (step := fun s => F33_L1 t s) t.List.length (fun n => ∀ i : Nat, i < n → Vd (gd t.List i) ∧ (0 < i → (gd t.List (i - 1)).Id < (gd t.List i).Id))
      (fun b => match b with | .inl _ => VT t | .inr r => r = false ∧ ¬ VT t) (fun i hi => by omega)
      (fun i hi hI => by
        unfold F33_L1
        rw [bif_t (by simp [bLt_eq]; omega), need_true (inb_nat hi), Int.toNat_natCast]
        obtain ⟨b, e, hv⟩ := F20_ok (gd t.List i)
        rw [e, Option.bind_some]
        cases b with
        | true =>
          have hv := hv.1 rfl
          by_cases h0 : 0 < i
          · rw [pre_nat hi (by omega) h0, Int.toNat_natCast, need_true (by rw [inb_nat (show i - 1 < t.List.length by omega)]; simp), need_true (by rw [inb_nat hi]; simp)]
            by_cases hlt : (gd t.List (i - 1)).Id < (gd t.List i).Id
            · rw [bif_f (by simp [bEq, bLt_eq, bLe_eq]; omega), wr_add1 hi (by omega)]
              refine .inr ⟨rfl, fun j hj => ?_⟩
              rcases Nat.lt_or_eq_of_le (Nat.le_of_lt_succ hj) with h | rfl
              · exact hI j h
              · exact ⟨hv, fun _ => hlt⟩
            · rw [bif_t (by simp [bEq, bLt_eq, bLe_eq]; omega)]
              exact .inl ⟨_, rfl, rfl, fun h => hlt ((h.2 i hi).2 h0)⟩
          · obtain rfl : i = 0 := by omega
            rw [need_true (by simp [bLt_eq]), need_true (by simp [bLt_eq]), bif_f (by simp [bLt_eq]), wr_add1 hi (by omega)]
            refine .inr ⟨rfl, fun j hj => ?_⟩
            obtain rfl : j = 0 := by omega
            exact ⟨hv, fun h => by omega⟩
        | false =>
          rw [need_true (by simp), need_true (by simp), bif_t (by simp)]
          exact .inl ⟨_, rfl, rfl, fun h => by have := hv.2 (h.2 i hi).1; cases this⟩)
      (fun hI => by
        unfold F33_L1
        rw [bif_f (by simp [bLt_eq])]
        exact ⟨_, rfl, hl, hI⟩)
    cases b with
    | inl u => exact ⟨_, lp_inl l1, fun _ => l2, fun _ => rfl⟩
    | inr r => obtain ⟨rfl, h⟩ := l2; exact ⟨_, lp_inr l1, fun h => (by cases h), fun h' => absurd h' h⟩
  · rw [bif_t (by simp [bLt_eq]; omega)]
    exact ⟨_, rfl, fun h => (by cases h), fun h => absurd h.1 hl⟩
/-- Two agreements of a table that may not be beside each other. -/
def Cf (o x : TWakeRule) : Prop := (o.Id ≠ x.Id ∧ (o.Group = 0 ∨ o.Group ≠ x.Group)) ∧ Mt o x
theorem F36_ok (o x : TWakeRule) (ho : Vd o) (hx : Vd x) : ∃ b, F36_0 o x = some b ∧ (b = true ↔ Cf o x) := by
  obtain ⟨b, b1, b2⟩ := F34_ok o x ho hx
  unfold F36_0
  rw [b1, need_true (by simp)]
  refine ⟨_, rfl, ?_⟩
  rw [gt_some, Bool.and_eq_true, b2]
  unfold Cf
  simp [bEq]
theorem F47_ok (L : List TWakeRule) (x : TWakeRule) (hL : ∀ i : Nat, i < L.length → Vd (gd L i)) (hx : Vd x) (hn : L.length ≤ 1000) : ∃ n, F47_0 L x = some n ∧ (0 ≤ n ↔ ∃ i : Nat, i < L.length ∧ Cf (gd L i) x) := by
  unfold F47_0
  obtain ⟨b, l1, l2⟩ := loop_for (step := fun s => F47_0_L1 L x s) L.length (fun n => ∀ i : Nat, i < n → ¬ Cf (gd L i) x)
    (fun b => match b with | .inl _ => ¬ ∃ i : Nat, i < L.length ∧ Cf (gd L i) x | .inr r => 0 ≤ r ∧ ∃ i : Nat, i < L.length ∧ Cf (gd L i) x) (fun i hi => by omega)
    (fun i hi hI => by
      unfold F47_0_L1
      rw [bif_t (by simp [bLt_eq]; omega), need_true (inb_nat hi), Int.toNat_natCast]
      obtain ⟨b, b1, b2⟩ := F36_ok (gd L i) x (hL i hi) hx
      rw [b1, Option.bind_some]
      cases b with
      | true => exact .inl ⟨_, rfl, by omega, i, hi, b2.1 rfl⟩
      | false =>
        rw [cond_false, wr_add1 hi (by omega)]
        refine .inr ⟨rfl, fun j hj => ?_⟩
        rcases Nat.lt_or_eq_of_le (Nat.le_of_lt_succ hj) with h | rfl
        · exact hI j h
        · exact fun h => by have := b2.2 h; cases this)
    (fun hI => by
      unfold F47_0_L1
      rw [bif_f (by simp [bLt_eq])]
      exact ⟨_, rfl, fun ⟨i, h1, h2⟩ => hI i h1 h2⟩)
  cases b with
  | inl u => exact ⟨_, lp_inl l1, fun h => by omega, fun h => absurd h l2⟩
  | inr r => exact ⟨_, lp_inr l1, fun _ => l2.2, fun _ => l2.1⟩
theorem F37_ok (L : List TWakeRule) (x : TWakeRule) (hL : ∀ i : Nat, i < L.length → Vd (gd L i)) (hx : Vd x) (hn : L.length ≤ 1000) : ∃ b, F37_0 L x = some b ∧ (b = true ↔ ∃ i : Nat, i < L.length ∧ Cf (gd L i) x) := by
  obtain ⟨n, n1, n2⟩ := F47_ok L x hL hx hn
  unfold F37_0
  rw [n1, Option.bind_some]
  exact ⟨_, rfl, by rw [bLe_eq, decide_eq_true_eq, n2]⟩
theorem F38_ok (t : TWakeTable) (x : TWakeRule) (hL : ∀ i : Nat, i < t.List.length → Vd (gd t.List i) ∧ Sm (gd t.List i)) (hx : Vd x) (sx : Sm x) (hn : t.List.length ≤ 1000) : ∃ b, F38 t x = some b ∧ (b = true ↔ ¬ ∃ i : Nat, i < t.List.length ∧ Cf (gd t.List i) x) := by
  unfold F38
  obtain ⟨b, l1, l2⟩ := loop_for (step := fun s => F38_L1 t x s) t.List.length (fun n => ∀ i : Nat, i < n → ¬ Cf (gd t.List i) x)
    (fun b => match b with | .inl _ => ¬ ∃ i : Nat, i < t.List.length ∧ Cf (gd t.List i) x | .inr r => r = false ∧ ∃ i : Nat, i < t.List.length ∧ Cf (gd t.List i) x) (fun i hi => by omega)
    (fun i hi hI => by
      unfold F38_L1
      obtain ⟨b, b1, b2⟩ := F21_ok (gd t.List i) x (hL i hi).1 hx (hL i hi).2 sx
      rw [bif_t (by simp [bLt_eq]; omega), need_true (inb_nat hi), Int.toNat_natCast, b1, need_true (by simp), gt_some]
      by_cases hc : Cf (gd t.List i) x
      · rw [bif_t (by
          have := b2.2 hc.2
          subst this
          obtain ⟨⟨q1, q2⟩, _⟩ := hc
          simp [bEq, q1, q2])]
        exact .inl ⟨_, rfl, rfl, i, hi, hc⟩
      · rw [bif_f (by
          cases b with
          | false => simp
          | true =>
            have hm := b2.1 rfl
            unfold Cf at hc
            rw [Bool.and_true]
            have : ¬ ((gd t.List i).Id ≠ x.Id ∧ ((gd t.List i).Group = 0 ∨ (gd t.List i).Group ≠ x.Group)) := fun h => hc ⟨h, hm⟩
            simp [bEq]; omega), wr_add1 hi (by omega)]
        refine .inr ⟨rfl, fun j hj => ?_⟩
        rcases Nat.lt_or_eq_of_le (Nat.le_of_lt_succ hj) with h | rfl
        · exact hI j h
        · exact hc)
    (fun hI => by
      unfold F38_L1
      rw [bif_f (by simp [bLt_eq])]
      exact ⟨_, rfl, fun ⟨i, h1, h2⟩ => hI i h1 h2⟩)
  cases b with
  | inl u => exact ⟨_, lp_inl l1, fun _ => l2, fun _ => rfl⟩
  | inr r => obtain ⟨rfl, h⟩ := l2; exact ⟨_, lp_inr l1, fun h => (by cases h), fun h' => absurd h h'⟩

/-- The agreement moved by k periods' lengths. -/
def Mv (r : TWakeRule) (k : Nat) : TWakeRule := TWakeRule.mk r.Id (r.Start + k * r.Length) r.Every r.Length r.Group
def Gd (t : TWakeTable) (r : TWakeRule) (k : Nat) : Prop := Vd (Mv r k) ∧ ¬ ∃ i : Nat, i < t.List.length ∧ Cf (gd t.List i) (Mv r k)
/-- What Answer says: the first good move. -/
def An (t : TWakeTable) (r : TWakeRule) (b : (Unit) ⊕ (TWakeRule × Int)) : Prop := match b with
  | .inl _ => ∀ k : Nat, k < 65 → ¬ Gd t r k
  | .inr (x, e) => ∃ k : Nat, k < 65 ∧ Gd t r k ∧ (∀ j : Nat, j < k → ¬ Gd t r j) ∧ x = Mv r k ∧ e = 0
theorem An_uniq {t : TWakeTable} {r : TWakeRule} {a b : (Unit) ⊕ (TWakeRule × Int)} (ha : An t r a) (hb : An t r b) : a = b := by
  cases a with
  | inl u => cases b with
    | inl v => rfl
    | inr y => obtain ⟨x, e⟩ := y; obtain ⟨k, h1, h2, _⟩ := hb; exact absurd h2 (ha k h1)
  | inr y => obtain ⟨x, e⟩ := y; cases b with
    | inl v => obtain ⟨k, h1, h2, _⟩ := ha; exact absurd h2 (hb k h1)
    | inr z =>
      obtain ⟨x', e'⟩ := z
      obtain ⟨k, h1, h2, h3, rfl, rfl⟩ := ha
      obtain ⟨j, g1, g2, g3, rfl, rfl⟩ := hb
      have : k = j := by
        rcases Nat.lt_trichotomy k j with h | h | h
        · exact absurd h2 (g3 k h)
        · exact h
        · exact absurd g2 (h3 j h)
      rw [this]
theorem mv_bd (r : TWakeRule) (hs : Vd r) (ss : r.Start ≤ 20000 ∧ r.Every ≤ 2000 ∧ r.Length ≤ 2000) (k : Nat) (hk : k ≤ 65) : 0 ≤ (k : Int) * r.Length ∧ (k : Int) * r.Length ≤ 130000 := by
  unfold Vd at hs
  refine ⟨Int.mul_nonneg (by omega) (by omega), ?_⟩
  exact Int.le_trans (Int.mul_le_mul_of_nonneg_right (show (k : Int) ≤ 65 by omega) (by omega)) (by omega)
theorem F22_L (t : TWakeTable) (r : TWakeRule) (ht : ∀ i : Nat, i < t.List.length → Vd (gd t.List i) ∧ Sm (gd t.List i)) (hn : t.List.length ≤ 1000) (hr : Vd r) (sr : r.Start ≤ 20000 ∧ r.Every ≤ 2000 ∧ r.Length ≤ 2000) :
    ∃ b, loopD (fun s : Int × Int => F22_L1 t r s.1 s.2) (0, r.Start) = some b ∧ An t r b := by
  have e0 : ((0 : Int), r.Start) = (((0 : Nat) : Int), r.Start + ((0 : Nat) : Int) * r.Length) := by simp
  rw [e0]
  refine loop_forS (step := fun s : Int × Int => F22_L1 t r s.1 s.2) 65 (fun n => ((n : Int), r.Start + (n : Int) * r.Length)) (fun n => ∀ k : Nat, k < n → ¬ Gd t r k) (An t r) (fun i hi => by omega) (fun n hi hI => ?_) (fun hI => ?_)
  · have m1 := mv_bd r hr sr n (by omega)
    have m2 := mv_bd r hr sr (n + 1) (by omega)
    unfold F22_L1
    simp only
    rw [bif_t (by simp [bLt_eq]; omega)]
    have hmv : TWakeRule.mk r.Id (r.Start + (n : Int) * r.Length) r.Every r.Length r.Group = Mv r n := rfl
    rw [hmv]
    have nx : (wr .i64 ((n : Int) + 1), wr .i64 (r.Start + n * r.Length + r.Length)) = (((n + 1 : Nat) : Int), r.Start + ((n + 1 : Nat) : Int) * r.Length) := by
      have : r.Start + n * r.Length + r.Length = r.Start + ((n + 1 : Nat) : Int) * r.Length := by rw [Int.natCast_add, Int.add_mul]; omega
      have hv := hr
      unfold Vd at hv
      rw [wr_add1 hi (by omega), wr_in (by omega), this]
    rcases F17_ok (Mv r n) with ⟨hv, e⟩ | ⟨hv, e⟩
    · obtain ⟨b, b1, b2⟩ := F37_ok t.List (Mv r n) (fun i hi => (ht i hi).1) hv hn
      rw [e, Option.bind_some, b1, need_true (by simp), gt_some]
      cases b with
      | true =>
        rw [bif_f (by simp), nx]
        refine .inr ⟨rfl, fun j hj => ?_⟩
        rcases Nat.lt_or_eq_of_le (Nat.le_of_lt_succ hj) with h | rfl
        · exact hI j h
        · exact fun h => h.2 (b2.1 rfl)
      | false =>
        rw [bif_t (by simp [bEq])]
        exact .inl ⟨_, rfl, n, hi, ⟨hv, fun h => by have := b2.2 h; cases this⟩, hI, rfl, rfl⟩
    · rw [e, Option.bind_some, need_true (by simp [bEq]), bif_f (by simp [bEq]), nx]
      refine .inr ⟨rfl, fun j hj => ?_⟩
      rcases Nat.lt_or_eq_of_le (Nat.le_of_lt_succ hj) with h | rfl
      · exact hI j h
      · exact fun h => hv h.1
  · unfold F22_L1
    simp only
    rw [bif_f (by simp [bLt_eq])]
    exact ⟨_, rfl, hI⟩
theorem F23_L (t : TWakeTable) (r : TWakeRule) (ht : ∀ i : Nat, i < t.List.length → Vd (gd t.List i) ∧ Sm (gd t.List i)) (hn : t.List.length ≤ 1000) (hr : Vd r) (sr : r.Start ≤ 20000 ∧ r.Every ≤ 2000 ∧ r.Length ≤ 2000) :
    ∃ b, loopD (fun s : Int => F23_L1 t r s) 0 = some b ∧ An t r b := by
  refine loop_for (step := fun s : Int => F23_L1 t r s) 65 (fun n => ∀ k : Nat, k < n → ¬ Gd t r k) (An t r) (fun i hi => by omega) (fun n hi hI => ?_) (fun hI => ?_)
  · have m1 := mv_bd r hr sr n (by omega)
    have hv := hr
    unfold Vd at hv
    unfold F23_L1
    rw [bif_t (by simp [bLe_eq]; omega)]
    rw [wr_in (x := (n : Int) * r.Length) (by omega), wr_in (x := r.Start + _) (by omega)]
    have hmv : TWakeRule.mk r.Id (r.Start + (n : Int) * r.Length) r.Every r.Length r.Group = Mv r n := rfl
    rw [hmv]
    obtain ⟨a, a1, a2⟩ := F20_ok (Mv r n)
    rw [a1, Option.bind_some]
    cases a with
    | true =>
      have hv' := a2.1 rfl
      obtain ⟨b, b1, b2⟩ := F38_ok t (Mv r n) ht hv' ⟨by show r.Start + n * r.Length ≤ 200000; omega, sr.2.1, sr.2.2⟩ hn
      rw [b1, need_true (by simp), gt_some]
      cases b with
      | true => exact .inl ⟨_, rfl, n, hi, ⟨hv', b2.1 rfl⟩, hI, rfl, rfl⟩
      | false =>
        rw [bif_f (by simp), wr_add1 hi (by omega)]
        refine .inr ⟨rfl, fun j hj => ?_⟩
        rcases Nat.lt_or_eq_of_le (Nat.le_of_lt_succ hj) with h | rfl
        · exact hI j h
        · exact fun h => by have := b2.2 h.2; cases this
    | false =>
      rw [need_true (by simp), bif_f (by simp), wr_add1 hi (by omega)]
      refine .inr ⟨rfl, fun j hj => ?_⟩
      rcases Nat.lt_or_eq_of_le (Nat.le_of_lt_succ hj) with h | rfl
      · exact hI j h
      · exact fun h => by have := a2.2 h.1; cases this
  · unfold F23_L1
    rw [bif_f (by simp [bLe_eq])]
    exact ⟨_, rfl, hI⟩
theorem F2223 (t : TWakeTable) (r : TWakeRule) (ht : ∀ i : Nat, i < t.List.length → Sm (gd t.List i)) (hn : t.List.length ≤ 1000) (sr : r.Start ≤ 20000 ∧ r.Every ≤ 2000 ∧ r.Length ≤ 2000) : ∃ x, F22 t r = some x ∧ F23 t r = some x := by
  unfold F22 F23
  obtain ⟨b, b1, b2⟩ := F33_ok t
  obtain ⟨c, c1, c2⟩ := F20_ok r
  rw [b1, c1, Option.bind_some]
  rcases F32_ok t with ⟨hv, e⟩ | ⟨hv, e⟩
  · rw [b2.2 hv, e, Option.bind_some, bif_f (by simp [bEq]), Bool.not_true, cond_false, Option.bind_some]
    rcases F17_ok r with ⟨hr, e⟩ | ⟨hr, e⟩
    · rw [c2.2 hr, e, Option.bind_some, bif_f (by simp [bEq]), Bool.not_true, cond_false]
      obtain ⟨x, x1, x2⟩ := F22_L t r (fun i hi => ⟨(hv.2 i hi).1, ht i hi⟩) hn hr sr
      obtain ⟨y, y1, y2⟩ := F23_L t r (fun i hi => ⟨(hv.2 i hi).1, ht i hi⟩) hn hr sr
      obtain rfl := An_uniq x2 y2
      rw [x1, y1]
      cases x with
      | inl u => exact ⟨_, rfl, rfl⟩
      | inr z => exact ⟨_, rfl, rfl⟩
    · have : c = false := by cases c with | false => rfl | true => exact absurd (c2.1 rfl) hr
      rw [this, e, Option.bind_some, bif_t (by simp [bEq]), Bool.not_false, cond_true]
      exact ⟨_, rfl, rfl⟩
  · have : b = false := by cases b with | false => rfl | true => exact absurd (b2.1 rfl) hv
    rw [this, e, Option.bind_some, bif_t (by simp [bEq]), Bool.not_false, cond_true]
    exact ⟨_, rfl, rfl⟩
theorem F11_ok (p : TWakeRule) : ∃ b, F11 p = some b ∧ (b = true → p.Start ≤ 20000 ∧ p.Every ≤ 2000 ∧ p.Length ≤ 2000) := by
  unfold F11
  refine ⟨_, rfl, fun h => ?_⟩
  simp only [Bool.and_eq_true, bLe_eq, decide_eq_true_eq] at h
  exact ⟨h.1.1.1, h.1.1.2, h.1.2⟩
theorem F19_ok (t : TWakeTable) : ∃ b, F19 t = some b ∧ (b = true → t.List.length ≤ 40 ∧ ∀ i : Nat, i < t.List.length → Sm (gd t.List i)) := by
  unfold F19
  by_cases hl : t.List.length ≤ 40
  · rw [bif_f (by simp [bLt_eq]; omega)]
    obtain ⟨b, l1, l2⟩ := loop_for (step := fun s => F19_L1 t s) t.List.length (fun n => ∀ i : Nat, i < n → Sm (gd t.List i))
      (fun b => match b with | .inl _ => ∀ i : Nat, i < t.List.length → Sm (gd t.List i) | .inr r => r = false) (fun i hi => by omega)
      (fun i hi hI => by
        unfold F19_L1
        obtain ⟨b, b1, b2⟩ := F11_ok (gd t.List i)
        rw [bif_t (by simp [bLt_eq]; omega), need_true (inb_nat hi), Int.toNat_natCast, b1, Option.bind_some]
        cases b with
        | true =>
          rw [bif_f (by simp), wr_add1 hi (by omega)]
          refine .inr ⟨rfl, fun j hj => ?_⟩
          rcases Nat.lt_or_eq_of_le (Nat.le_of_lt_succ hj) with h | rfl
          · exact hI j h
          · have := b2 rfl
            exact ⟨by omega, this.2.1, this.2.2⟩
        | false => exact .inl ⟨_, rfl, rfl⟩)
      (fun hI => by
        unfold F19_L1
        rw [bif_f (by simp [bLt_eq])]
        exact ⟨_, rfl, hI⟩)
    cases b with
    | inl u => exact ⟨_, lp_inl l1, fun _ => ⟨hl, l2⟩⟩
    | inr r => subst l2; exact ⟨_, lp_inr l1, fun h => by cases h⟩
  · rw [bif_t (by simp [bLt_eq]; omega)]
    exact ⟨_, rfl, fun h => by cases h⟩
theorem law7 (t : TWakeTable) (a b : TWakeRule) : F7 t a b = some true := by
  unfold F7
  obtain ⟨s, s1, s2⟩ := F19_ok t
  obtain ⟨u, u1, u2⟩ := F11_ok a
  obtain ⟨v, v1, v2⟩ := F11_ok b
  rw [s1, Option.bind_some, u1, need_true (by simp), v1, need_true (by simp), gt_some, gt_some]
  cases s <;> cases u <;> cases v <;> simp only [Bool.not_true, Bool.not_false, Bool.or_true, Bool.true_or, Bool.or_false, cond_true, cond_false]
  have sa := u2 rfl
  have sb := v2 rfl
  obtain ⟨h40, hs⟩ := s2 rfl
  obtain ⟨x, x1, x2⟩ := F2223 t a hs (by omega) sa
  obtain ⟨p, p1, p2⟩ := F20_ok a
  obtain ⟨q, q1, q2⟩ := F20_ok b
  rw [p1, q1]
  simp only [Option.bind_some, need_true (show (bif !!p then (some q).isSome else true) = true by simp), gt_some, x1, x2]
  rcases F18_ok a b with ⟨hv, e⟩ | ⟨hv, r, e, er⟩
  · rw [e, Option.bind_some, bif_t (by
      cases p <;> cases q <;> simp
      exact hv ⟨p2.1 rfl, q2.1 rfl⟩)]
    simp [bB, bEq]
  · obtain ⟨m, m1, m2⟩ := F21_ok a b hv.1 hv.2 ⟨by omega, sa.2.1, sa.2.2⟩ ⟨by omega, sb.2.1, sb.2.2⟩
    have hrm : r = m := by
      have : r = true ↔ m = true := er.trans m2.symm
      cases r <;> cases m <;> simp_all
    rw [e, Option.bind_some, m1, Option.bind_some, bif_f (by rw [p2.2 hv.1, q2.2 hv.2]; rfl), hrm]
    simp [bB, bEq]
end Go.Proofs.Ytpgcekjnpieibaa
