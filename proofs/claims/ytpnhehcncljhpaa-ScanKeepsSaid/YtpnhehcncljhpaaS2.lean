/-
  The choice among candidates.
-/
import Derived.Test.YtpnhehcncljhpaaS1
namespace Go.Proofs.Ytpnhehcncljhpaa
open Go.Am
set_option linter.unusedVariables false
set_option linter.unusedSimpArgs false
theorem F43_ok (x y : Int) : (x < y ∧ F43 x y = some (-1)) ∨ (y < x ∧ F43 x y = some 1) ∨ (x = y ∧ F43 x y = some 0) := by
  unfold F43 F56
  simp only [bEq_eq, decide_true, Bool.not_true, Option.bind_some, cond_false]
  rcases Int.lt_trichotomy x y with h | h | h
  · exact .inl ⟨h, bif_t (by simp [bLt_eq, h])⟩
  · exact .inr (.inr ⟨h, by rw [bif_f (by simp [bLt_eq]; omega), bif_f (by simp [bLt_eq]; omega)]⟩)
  · exact .inr (.inl ⟨h, by rw [bif_f (by simp [bLt_eq]; omega), bif_t (by simp [bLt_eq, h])]⟩)
theorem F48_ok (x y : Int) : F48 [x, y] = some (if x = 0 then y else x) := by
  unfold F48
  by_cases hx : x = 0
  · subst hx
    have s0 : F48_L1 [0, y] 0 = some (.next 1) := rfl
    by_cases hy : y = 0
    · subst hy
      rfl
    · have s1 : F48_L1 [0, y] 1 = some (.done (.inr y)) := by
        show (bif (!bEq y 0) then some (Lp.done (Sum.inr y)) else _) = _
        rw [bif_t (by simp [bEq, hy])]
      rw [lp_inr ((loopD_next s0).trans (loopD_done s1))]
      rfl
  · have s0 : F48_L1 [x, y] 0 = some (.done (.inr x)) := by
      show (bif (!bEq x 0) then some (Lp.done (Sum.inr x)) else _) = _
      rw [bif_t (by simp [bEq, hx])]
    rw [lp_inr (loopD_done s0), if_neg hx]
/-- Its numbers are small. -/
def Sc (c : TCandidate) : Prop := (-2000 ≤ c.Level ∧ c.Level ≤ 2000) ∧ (0 ≤ c.Load ∧ c.Load ≤ 255)
def Bt (c b : TCandidate) : Prop := b.Level - b.Load < c.Level - c.Load ∨ (c.Level - c.Load = b.Level - b.Load ∧ b.Level < c.Level)
theorem F47_ok (c : TCandidate) (f : Bool) (b : TCandidate) (hc : Sc c) (hb : Sc b) : ∃ r, F47_0 c f b = some r ∧ (r = true ↔ f = false ∨ Bt c b) := by
  unfold Sc at hc hb
  unfold F47_0
  rw [wr_in (x := c.Level - c.Load) (by omega), wr_in (x := b.Level - b.Load) (by omega)]
  cases f with
  | false =>
    simp only [Bool.not_false, Bool.not_true, cond_false, cond_true]
    exact ⟨true, rfl, by simp⟩
  | true =>
    simp only [Bool.not_false, Bool.not_true, cond_false, cond_true]
    unfold Bt
    rcases F43_ok (c.Level - c.Load) (b.Level - b.Load) with ⟨h1, e1⟩ | ⟨h1, e1⟩ | ⟨h1, e1⟩ <;> rcases F43_ok c.Level b.Level with ⟨h2, e2⟩ | ⟨h2, e2⟩ | ⟨h2, e2⟩ <;> rw [e1, e2] <;> simp only [Option.isSome_some, need_true, gt_some, F48_ok, Option.bind_some] <;> refine ⟨_, rfl, ?_⟩ <;> simp [bLt_eq] <;> omega
/-- A candidate that may be chosen. -/
def El (w : TWanted) (now : Int) (q : TCandidate) : Prop := sEq q.Name w.Name = true ∧ bB q.Secure w.Secure = true ∧ w.Floor ≤ q.Level ∧ 0 ≤ now - q.Heard ∧ now - q.Heard ≤ w.Life
/-- The best of the first i. -/
def Be (t : TCandidates) (w : TWanted) (now : Int) (i : Nat) (c : TCandidate) : Prop := ∃ j : Nat, j < i ∧ c = gd t.List j ∧ El w now c ∧ ∀ m : Nat, m < i → El w now (gd t.List m) → Bt c (gd t.List m) ∨ (¬ Bt (gd t.List m) c ∧ j ≤ m)
def zc : TCandidate := TCandidate.mk (A6u8.mk 0 0 0 0 0 0) 0 0 0 0 0 (ByteArray.mk #[]) false
def tup (i : Int) (c : TCandidate) (f : Bool) : Int × Int × Int × Int × Int × Int × Int × Int × Int × Int × Int × Int × ByteArray × Bool × Bool := (i, c.Addr.x0, c.Addr.x1, c.Addr.x2, c.Addr.x3, c.Addr.x4, c.Addr.x5, c.Channel, c.Level, c.Load, c.Heard, c.Interval, c.Name, c.Secure, f)
def tue (c : TCandidate) (f : Bool) : Int × Int × Int × Int × Int × Int × Int × Int × Int × Int × Int × ByteArray × Bool × Bool := (c.Addr.x0, c.Addr.x1, c.Addr.x2, c.Addr.x3, c.Addr.x4, c.Addr.x5, c.Channel, c.Level, c.Load, c.Heard, c.Interval, c.Name, c.Secure, f)
/-- What the choice is after i candidates. -/
def Ch (t : TCandidates) (w : TWanted) (now : Int) (i : Nat) (c : TCandidate) (f : Bool) : Prop := (f = true ∧ Be t w now i c) ∨ (f = false ∧ c = zc ∧ ∀ m : Nat, m < i → ¬ El w now (gd t.List m))
theorem choose_ok (t : TCandidates) (w : TWanted) (now : Int) (hb : Abs t) : ∃ r : TCandidate × Int, F21 t w now = some r ∧
    ((¬ (Vt t ∧ 0 ≤ now ∧ now ≤ 1099511627776) ∧ r.2 ≠ 0 ∧ r.2 ≠ 6 ∧ r.1 = zc) ∨ (Vt t ∧ (0 ≤ now ∧ now ≤ 1099511627776) ∧ ((r.2 = 0 ∧ Be t w now t.List.length r.1) ∨ (r.2 = 6 ∧ r.1 = zc ∧ ∀ m : Nat, m < t.List.length → ¬ El w now (gd t.List m))))) := by
  obtain ⟨k, k1, k2, k3⟩ := F46_ok t now hb
  unfold F21
  rw [k1, Option.bind_some]
  by_cases hk : k = 0
  · obtain ⟨hv, hn1, hn2⟩ := k3.1 hk
    have hlen := hv.1
    rw [bif_f (by simp [bEq, hk])]
    obtain ⟨b, l1, l2⟩ := loop_inv (step := fun s : Int × Int × Int × Int × Int × Int × Int × Int × Int × Int × Int × Int × ByteArray × Bool × Bool => F21_L1 t w now s.1 s.2.1 s.2.2.1 s.2.2.2.1 s.2.2.2.2.1 s.2.2.2.2.2.1 s.2.2.2.2.2.2.1 s.2.2.2.2.2.2.2.1 s.2.2.2.2.2.2.2.2.1 s.2.2.2.2.2.2.2.2.2.1 s.2.2.2.2.2.2.2.2.2.2.1 s.2.2.2.2.2.2.2.2.2.2.2.1 s.2.2.2.2.2.2.2.2.2.2.2.2.1 s.2.2.2.2.2.2.2.2.2.2.2.2.2.1 s.2.2.2.2.2.2.2.2.2.2.2.2.2.2)
      (fun s => ∃ (i : Nat) (c : TCandidate) (f : Bool), s = tup i c f ∧ i ≤ t.List.length ∧ Ch t w now i c f ∧ Sc c)
      (fun b => ∃ (c : TCandidate) (f : Bool), b = .inl (tue c f) ∧ Ch t w now t.List.length c f) (fun s => (t.List.length - s.1).toNat)
      (fun s hS => by
        obtain ⟨i, c, f, rfl, h1, h2, h3⟩ := hS
        unfold F21_L1
        simp only [tup, eta_A6u8, eta_TCandidate]
        by_cases hi : i < t.List.length
        · have hvi := (hv.2 i hi).1
          unfold Vc at hvi
          have hsi : Sc (gd t.List i) := ⟨hvi.2.1, hvi.2.2.1⟩
          obtain ⟨r, r1, r2⟩ := F47_ok (gd t.List i) f c hsi h3
          rw [bif_t (c := bLt (i : Int) _) (by simp [bLt_eq]; omega), inb_nat hi, Int.toNat_natCast, r1, wr_add1 hi (by omega), wr_in (x := now - (gd t.List i).Heard) (by omega)]
          simp only [need_true, Option.isSome_some, gt_some, Bool.cond_self]
          right
          have hel : ((((sEq (gd t.List i).Name w.Name && bB (gd t.List i).Secure w.Secure) && bLe w.Floor (gd t.List i).Level) && bLe 0 (now - (gd t.List i).Heard)) && bLe (now - (gd t.List i).Heard) w.Life) = true ↔ El w now (gd t.List i) := by
            simp only [Bool.and_eq_true, bLe_eq, decide_eq_true_eq, El]
            constructor
            · rintro ⟨⟨⟨⟨x1, x2⟩, x3⟩, x4⟩, x5⟩; exact ⟨x1, x2, x3, x4, x5⟩
            · rintro ⟨x1, x2, x3, x4, x5⟩; exact ⟨⟨⟨⟨x1, x2⟩, x3⟩, x4⟩, x5⟩
          cases he : ((((sEq (gd t.List i).Name w.Name && bB (gd t.List i).Secure w.Secure) && bLe w.Floor (gd t.List i).Level) && bLe 0 (now - (gd t.List i).Heard)) && bLe (now - (gd t.List i).Heard) w.Life) with
          | true =>
            have hel := hel.1 he
            cases r with
            | true =>
              have hb := r2.1 rfl
              refine ⟨_, rfl, ⟨i + 1, gd t.List i, true, rfl, by omega, .inl ⟨rfl, i, by omega, rfl, hel, fun m hm hme => ?_⟩, hsi⟩, by simp only; omega⟩
              rcases Nat.lt_or_eq_of_le (Nat.le_of_lt_succ hm) with hm | rfl
              · left
                rcases h2 with ⟨rfl, j, j1, rfl, j3, j4⟩ | ⟨rfl, _, j2⟩
                · have hb : Bt (gd t.List i) (gd t.List j) := hb.resolve_left (by simp)
                  rcases j4 m hm hme with q | q
                  · unfold Bt at *; omega
                  · have := q.1; unfold Bt at *; omega
                · exact absurd hme (j2 m hm)
              · right
                exact ⟨by unfold Bt; omega, Nat.le_refl _⟩
            | false =>
              have nb : ¬ (f = false ∨ Bt (gd t.List i) c) := fun h => by have := r2.2 h; cases this
              have hf : f = true := by cases f with | true => rfl | false => exact absurd (.inl rfl) nb
              subst hf
              refine ⟨_, rfl, ⟨i + 1, c, true, rfl, by omega, ?_, h3⟩, by simp only; omega⟩
              rcases h2 with ⟨_, j, j1, rfl, j3, j4⟩ | ⟨h, _⟩
              · refine .inl ⟨rfl, j, by omega, rfl, j3, fun m hm hme => ?_⟩
                rcases Nat.lt_or_eq_of_le (Nat.le_of_lt_succ hm) with hm | rfl
                · exact j4 m hm hme
                · right
                  exact ⟨fun h => nb (.inr h), by omega⟩
              · cases h
          | false =>
            have hel : ¬ El w now (gd t.List i) := fun h => by rw [hel.2 h] at he; cases he
            rw [Bool.false_and]
            refine ⟨_, rfl, ⟨i + 1, c, f, rfl, by omega, ?_, h3⟩, by simp only; omega⟩
            rcases h2 with ⟨hf, j, j1, j2, j3, j4⟩ | ⟨hf, j1, j2⟩
            · refine .inl ⟨hf, j, by omega, j2, j3, fun m hm hme => ?_⟩
              rcases Nat.lt_or_eq_of_le (Nat.le_of_lt_succ hm) with hm | rfl
              · exact j4 m hm hme
              · exact absurd hme hel
            · refine .inr ⟨hf, j1, fun m hm hme => ?_⟩
              rcases Nat.lt_or_eq_of_le (Nat.le_of_lt_succ hm) with hm | rfl
              · exact j2 m hm hme
              · exact absurd hme hel
        · obtain rfl : i = t.List.length := by omega
          rw [bif_f (c := bLt _ _) (by simp [bLt_eq])]
          exact .inl ⟨_, rfl, c, f, rfl, h2⟩) (tup 0 zc false) ⟨0, zc, false, rfl, by omega, .inr ⟨rfl, rfl, fun m hm => by omega⟩, by simp [Sc, zc]⟩
    obtain ⟨c, f, rfl, l2⟩ := l2
    have l1 : loopD (fun s : Int × Int × Int × Int × Int × Int × Int × Int × Int × Int × Int × Int × ByteArray × Bool × Bool => F21_L1 t w now s.1 s.2.1 s.2.2.1 s.2.2.2.1 s.2.2.2.2.1 s.2.2.2.2.2.1 s.2.2.2.2.2.2.1 s.2.2.2.2.2.2.2.1 s.2.2.2.2.2.2.2.2.1 s.2.2.2.2.2.2.2.2.2.1 s.2.2.2.2.2.2.2.2.2.2.1 s.2.2.2.2.2.2.2.2.2.2.2.1 s.2.2.2.2.2.2.2.2.2.2.2.2.1 s.2.2.2.2.2.2.2.2.2.2.2.2.2.1 s.2.2.2.2.2.2.2.2.2.2.2.2.2.2) (0, 0, 0, 0, 0, 0, 0, 0, 0, 0, 0, 0, (ByteArray.mk #[]), false, false) = some (.inl (tue c f)) := l1
    rw [lp_inl l1]
    simp only [tue, eta_A6u8, eta_TCandidate]
    rcases l2 with ⟨rfl, h⟩ | ⟨rfl, h⟩
    · exact ⟨_, rfl, .inr ⟨hv, ⟨hn1, hn2⟩, .inl ⟨rfl, h⟩⟩⟩
    · exact ⟨_, rfl, .inr ⟨hv, ⟨hn1, hn2⟩, .inr ⟨rfl, h⟩⟩⟩
  · rw [bif_t (by simp [bEq, hk])]
    exact ⟨_, rfl, .inl ⟨fun h => hk (k3.2 h), hk, by show k ≠ 6; omega, rfl⟩⟩
end Go.Proofs.Ytpnhehcncljhpaa
