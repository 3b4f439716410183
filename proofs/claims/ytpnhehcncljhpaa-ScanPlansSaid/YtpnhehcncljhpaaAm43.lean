/-
  Plain lemmas: loops, arithmetic.
-/
import Derived.Test.YtpnhehcncljhpaaAm42
namespace Go.Am
set_option linter.unusedVariables false

/-- A loop with an invariant and a measure ends, and its result is as the rounds say. -/
theorem loop_inv {S B : Type} {step : S → Option (Lp S B)} (Inv : S → Prop) (Post : B → Prop) (m : S → Nat)
    (hs : ∀ s, Inv s → (∃ b, step s = some (.done b) ∧ Post b) ∨ ∃ s', step s = some (.next s') ∧ Inv s' ∧ m s' < m s) : ∀ s, Inv s → ∃ b, loopD step s = some b ∧ Post b := by
  have : ∀ (k : Nat) (s : S), m s < k → Inv s → ∃ b, loopD step s = some b ∧ Post b := by
    intro k
    induction k with
    | zero => intro s hk; omega
    | succ k ih =>
      intro s hk hI
      rcases hs s hI with ⟨b, h1, h2⟩ | ⟨s', h1, h2, h3⟩
      · exact ⟨b, loopD_done h1, h2⟩
      · obtain ⟨b, g1, g2⟩ := ih s' (by omega) h2
        exact ⟨b, (loopD_next h1).trans g1, g2⟩
  intro s hI
  exact this (m s + 1) s (by omega) hI
/-- A loop that counts from 0 to n. -/
theorem loop_for {B : Type} {step : Int → Option (Lp Int B)} (n : Nat) (Inv : Nat → Prop) (Post : B → Prop) (h0 : Inv 0)
    (hs : ∀ i : Nat, i < n → Inv i → (∃ b, step i = some (.done b) ∧ Post b) ∨ (step i = some (.next ((i + 1 : Nat) : Int)) ∧ Inv (i + 1)))
    (he : Inv n → ∃ b, step n = some (.done b) ∧ Post b) : ∃ b, loopD step 0 = some b ∧ Post b := by
  have := loop_inv (step := step) (fun s => ∃ i : Nat, s = i ∧ i ≤ n ∧ Inv i) Post (fun s => (n - s).toNat) (fun s hI => by
    obtain ⟨i, rfl, hi, hI⟩ := hI
    rcases Nat.lt_or_ge i n with h | h
    · rcases hs i h hI with q | ⟨q1, q2⟩
      · exact .inl q
      · exact .inr ⟨_, q1, ⟨i + 1, rfl, by omega, q2⟩, by omega⟩
    · obtain rfl : i = n := by omega
      exact .inl (he hI)) 0 ⟨0, rfl, by omega, h0⟩
  exact this
/-- The same with a state told by the round's number. -/
theorem loop_forS {S B : Type} {step : S → Option (Lp S B)} (n : Nat) (f : Nat → S) (Inv : Nat → Prop) (Post : B → Prop) (h0 : Inv 0)
    (hs : ∀ i : Nat, i < n → Inv i → (∃ b, step (f i) = some (.done b) ∧ Post b) ∨ (step (f i) = some (.next (f (i + 1))) ∧ Inv (i + 1)))
    (he : Inv n → ∃ b, step (f n) = some (.done b) ∧ Post b) : ∃ b, loopD step (f 0) = some b ∧ Post b := by
  have : ∀ k i, n - i < k → i ≤ n → Inv i → ∃ b, loopD step (f i) = some b ∧ Post b := by
    intro k
    induction k with
    | zero => intro i hk; omega
    | succ k ih =>
      intro i hk hi hI
      rcases Nat.lt_or_ge i n with h | h
      · rcases hs i h hI with ⟨b, q1, q2⟩ | ⟨q1, q2⟩
        · exact ⟨b, loopD_done q1, q2⟩
        · obtain ⟨b, g1, g2⟩ := ih (i + 1) (by omega) (by omega) q2
          exact ⟨b, (loopD_next q1).trans g1, g2⟩
      · obtain rfl : i = n := by omega
        obtain ⟨b, q1, q2⟩ := he hI
        exact ⟨b, loopD_done q1, q2⟩
  exact this (n + 1) 0 (by omega) (by omega) h0
theorem wr_in {x : Int} (h : -9223372036854775808 ≤ x ∧ x ≤ 9223372036854775807) : wr .i64 x = x := by unfold wr; rw [IntWalk.i64_in _ (by omega)]
theorem wr_add1 {i n : Nat} (h : i < n) (hn : n < 4611686018427387904) : wr .i64 ((i : Int) + 1) = ((i + 1 : Nat) : Int) := by rw [wr_in (by omega)]; omega
theorem bLe_eq (x y : Int) : bLe x y = decide (x ≤ y) := rfl
theorem bLt_eq (x y : Int) : bLt x y = decide (x < y) := rfl
theorem bEq_eq (x y : Int) : bEq x y = decide (x = y) := rfl
theorem bB_eq (x y : Bool) : bB x y = decide (x = y) := by cases x <;> cases y <;> rfl
theorem need_true {α : Type} {b : Bool} {k : Option α} (h : b = true) : need b k = k := by subst h; rfl
theorem lp_inl {A R X : Type} {o : Option (A ⊕ R)} {a : A} {k : A → Option X} {j : R → Option X} (h : o = some (.inl a)) : lp o k j = k a := by subst h; rfl
theorem lp_inr {A R X : Type} {o : Option (A ⊕ R)} {a : R} {k : A → Option X} {j : R → Option X} (h : o = some (.inr a)) : lp o k j = j a := by subst h; rfl
theorem bif_t {α : Type} {c : Bool} {a b : α} (h : c = true) : (bif c then a else b) = a := by subst h; rfl
theorem bif_f {α : Type} {c : Bool} {a b : α} (h : c = false) : (bif c then a else b) = b := by subst h; rfl
theorem inb_nat {i n : Nat} (h : i < n) : inb (i : Int) n = true := inb_iff.2 (by omega)
theorem gd_mem {α : Type} [Inhabited α] {l : List α} {i : Nat} (h : i < l.length) : gd l i ∈ l := by
  simp only [gd, List.getD_eq_getElem?_getD, List.getElem?_eq_getElem h, Option.getD_some]; exact List.getElem_mem h
theorem mem_gd {α : Type} [Inhabited α] {l : List α} {a : α} (h : a ∈ l) : ∃ i, i < l.length ∧ gd l i = a := by
  obtain ⟨i, hi, rfl⟩ := List.getElem_of_mem h
  exact ⟨i, hi, by simp [gd, List.getD_eq_getElem?_getD, hi]⟩
end Go.Am
