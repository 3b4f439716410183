/-
  Loops over lists: checks, first places, filters, binary search, putting in at its place.
-/
import Derived.Test.YtefiemaoacmdkaaPW
namespace Go.Am
set_option linter.unusedVariables false
set_option linter.unusedSimpArgs false
set_option linter.unusedSectionVars false
section
variable {α : Type} [Inhabited α]
theorem gd_at {l : List α} {j : Nat} (h : j < l.length) : l[j] = gd l j := by simp [gd, List.getD_eq_getElem?_getD, h]
theorem take_snoc {l : List α} {i : Nat} (h : i < l.length) : l.take (i + 1) = l.take i ++ [gd l i] := by
  rw [List.take_succ_eq_append_getElem h, gd_at h]
theorem run_gen {S E R : Type} {step : S -> Option (Lp S (E ⊕ R))} (n : Nat) (f : Nat -> S) (e : E) (hs : ∀ i : Nat, i < n -> step (f i) = some (.next (f (i + 1)))) (he : step (f n) = some (.done (.inl e))) : loopD step (f 0) = some (.inl e) := by
  obtain ⟨b, l1, l2⟩ := loop_forS (step := step) n f (fun _ => True) (fun b => b = .inl e) trivial (fun i hi _ => .inr ⟨hs i hi, trivial⟩) (fun _ => ⟨_, he, rfl⟩)
  rw [l2] at l1
  exact l1
theorem half_ok {a b : Nat} (h : a + b <= 100000) : wr .i64 (shrI .u64 (wr .u64 (wr .i64 ((a : Int) + b))) 1) = (((a + b) / 2 : Nat) : Int) := by
  rw [wr_in (x := (a : Int) + b) (by omega), show ((a : Int) + b) = ((a + b : Nat) : Int) from by omega]
  rw [show wr .u64 ((a + b : Nat) : Int) = ((a + b : Nat) : Int) from wrap_nat .u64 rfl (a + b) (by show a + b < 2 ^ 64; omega)]
  rw [show shrI .u64 ((a + b : Nat) : Int) 1 = (((a + b) / 2 ^ 1 : Nat) : Int) from shrI_nat .u64 (a + b) 1 (by decide), Nat.pow_one, wr_in (by omega)]
theorem bs_gen {R : Type} {step : Int × Int -> Option (Lp (Int × Int) (Int ⊕ R))} (l : List α) (c : α -> Option Int) (a : Nat) (ha : a <= l.length) (hl : l.length <= 10000) (hlo : ∀ i : Nat, i < a -> ∃ r, c (gd l i) = some r /\ r < 0) (hhi : ∀ i : Nat, a <= i -> i < l.length -> ∃ r, c (gd l i) = some r /\ 0 <= r)
    (hs : ∀ s, step s = bif (bLt s.1 s.2) then (need (inb (wr .i64 (shrI .u64 (wr .u64 (wr .i64 (s.1 + s.2))) 1)) l.length) <| (c (gd l ((wr .i64 (shrI .u64 (wr .u64 (wr .i64 (s.1 + s.2))) 1)).toNat))).bind fun r2 => bif (bLt r2 0) then (some (.next (wr .i64 ((wr .i64 (shrI .u64 (wr .u64 (wr .i64 (s.1 + s.2))) 1)) + 1), s.2))) else (some (.next (s.1, wr .i64 (shrI .u64 (wr .u64 (wr .i64 (s.1 + s.2))) 1))))) else (some (.done (.inl s.1)))) :
    loopD step (0, (l.length : Nat)) = some (.inl (a : Int)) := by
  obtain ⟨r, l1, l2⟩ := loop_inv (step := step) (fun s => ∃ x y : Nat, s = ((x : Int), (y : Int)) /\ x <= a /\ a <= y /\ y <= l.length) (fun r => r = .inl (a : Int)) (fun s => (s.2 - s.1).toNat)
    (fun s hS => by
      obtain ⟨x, y, rfl, h1, h2, h3⟩ := hS
      rw [hs]
      simp only
      by_cases hxy : x < y
      · right
        have hm : (x + y) / 2 < l.length := by omega
        rw [bif_t (by simp [bLt_eq]; omega), half_ok (by omega), need_true (inb_nat hm), Int.toNat_natCast]
        by_cases hk : (x + y) / 2 < a
        · obtain ⟨r, r1, r2⟩ := hlo _ hk
          rw [r1, Option.bind_some, bif_t (by simp [bLt_eq]; omega), wr_add1 hm (by omega)]
          exact ⟨_, rfl, ⟨(x + y) / 2 + 1, y, rfl, by omega, h2, h3⟩, by simp only; omega⟩
        · obtain ⟨r, r1, r2⟩ := hhi _ (by omega) hm
          rw [r1, Option.bind_some, bif_f (by simp [bLt_eq]; omega)]
          exact ⟨_, rfl, ⟨x, (x + y) / 2, rfl, h1, by omega, by omega⟩, by simp only; omega⟩
      · left
        rw [bif_f (by simp [bLt_eq]; omega)]
        exact ⟨_, rfl, by rw [show x = a by omega]⟩) (0, (l.length : Nat)) ⟨0, l.length, rfl, by omega, ha, Nat.le_refl _⟩
  rw [l2] at l1
  exact l1
end
end Go.Am
