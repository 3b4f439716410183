/-
  Regulate: the law of states.
-/
import Derived.Test.YtjhkehdbjnhplaaQ6I
namespace Go.Proofs.Ytjhkehdbjnhplaa
open Go.Am
set_option linter.unusedVariables false
set_option linter.unusedSimpArgs false
theorem use_ok (s : TRegulate) (t : Int) (hg : Gr s) : ∃ y, F21 s t = some y /\ F27 s t = some y /\ y.1.length <= 1000 := by
  rcases F21_ok s t hg with ⟨h, e⟩ | ⟨h, h2, e⟩ | ⟨h, h2, e⟩ <;> rcases F27_ok s t hg with ⟨k, e2⟩ | ⟨k, k2, e2⟩ | ⟨k, k2, e2⟩
  · exact ⟨_, e, e2, Nat.zero_le _⟩
  · exact absurd k h
  · exact absurd k h
  · exact absurd h k
  · exact ⟨_, e, e2, Nat.zero_le _⟩
  · exact absurd k2 h2
  · exact absurd h k
  · exact absurd h2 k2
  · exact ⟨_, e, e2, Nat.le_trans us_len hg.1⟩
theorem may_ok (s : TRegulate) (p t : Int) (hg : Gr s) : ∃ y, F17 s p t = some y /\ F28 s p t = some y := by
  rcases F17_ok s p t hg with ⟨h, e⟩ | ⟨h, h2, e⟩ | ⟨h, h2, e⟩ <;> rcases F28_ok s p t hg with ⟨k, e2⟩ | ⟨k, k2, e2⟩ | ⟨k, k2, e2⟩
  · exact ⟨_, e, e2⟩
  · exact absurd k h
  · exact absurd k h
  · exact absurd h k
  · exact ⟨_, e, e2⟩
  · exact absurd k2 h2
  · exact absurd h k
  · exact absurd h2 k2
  · obtain ⟨c, hc, ec⟩ := h.2.1
    obtain ⟨b1, d1, i1⟩ := e c hc ec
    obtain ⟨b2, d2, i2⟩ := e2 c hc ec
    have : b1 = b2 := by rw [Bool.eq_iff_iff, i1, i2]
    subst this
    exact ⟨_, d1, d2⟩
theorem chk_ok (s : TRegulate) (hg : Gr s) : ∃ a b, F33 s = some a /\ F34 s = some b /\ bB (bEq a 0) b = true := by
  obtain ⟨b, e, i⟩ := F34_ok s hg
  rcases F33_ok s hg with ⟨h, e2⟩ | ⟨h, e2⟩
  · exact ⟨_, _, e2, e, by rw [i.2 h]; rfl⟩
  · refine ⟨_, _, e2, e, ?_⟩
    cases b with
    | true => exact absurd (i.1 rfl) h
    | false => rfl
theorem setL_gen {α R : Type} [Inhabited α] {step : Int × List α -> Option (Lp (Int × List α) (List α ⊕ R))} (g : α -> α) (l : List α) (hl : l.length <= 10000) (hs : ∀ s, step s = bif (bLt s.1 (s.2.length : Nat)) then (need (inb s.1 s.2.length) <| some (.next (wr .i64 (s.1 + 1), s.2.set s.1.toNat (g (gd s.2 s.1.toNat))))) else (some (.done (.inl s.2)))) : ∃ L, loopD step (0, l) = some (.inl L) := by
  obtain ⟨r, l1, L, rfl⟩ := loop_inv (step := step) (fun s => ∃ x : Nat, s.1 = (x : Int) /\ x <= l.length /\ s.2.length = l.length) (fun r => ∃ L, r = .inl L) (fun s => (l.length - s.1).toNat)
    (fun s hS => by
      obtain ⟨i, L⟩ := s
      obtain ⟨x, h1, h2, h3⟩ := hS
      simp only at h1 h3
      subst h1
      rw [hs]
      simp only
      by_cases hx : x < l.length
      · right
        rw [bif_t (by simp [bLt_eq]; omega), need_true (inb_nat (by omega)), wr_add1 hx (by omega)]
        exact ⟨_, rfl, ⟨x + 1, rfl, by omega, by simp [h3]⟩, by simp only; omega⟩
      · left
        rw [bif_f (by simp [bLt_eq]; omega)]
        exact ⟨_, rfl, L, rfl⟩) (0, l) ⟨0, rfl, by omega, rfl⟩
  exact ⟨L, l1⟩
theorem law6 (s : TRegulate) (n f t : Int) : F6 s n f t = some true := by
  unfold F6
  rcases F16_ok s with ⟨hg0, e⟩ | ⟨hg, e⟩
  · have hg := Gr_of hg0
    obtain ⟨x, x1, x2, x3⟩ := new_ok s.Table n s.Lead f hg.1
    obtain ⟨y, y1, y2, y3⟩ := use_ok s f hg
    obtain ⟨z, z1, z2⟩ := may_ok s n t hg
    obtain ⟨w, w1, w2, w3⟩ := lis_ok s n f t hg0
    obtain ⟨a, b, a1, b1, ab⟩ := chk_ok s hg
    have rx := F31_refl x.1 x3
    have rw' := F31_refl w.1 w3
    have rs := F31_refl s hg
    have ry := F32_refl y.1 y3
    obtain ⟨L, l1⟩ := setL_gen (step := fun e => F6_L1 e.1 e.2) (fun q : TRegulateChannel => ⟨q.Number, -1, q.Radar⟩) w.1.Table (by have := w3.1; omega) (fun s => rfl)
    have l2 := set_gen (step := fun e => F6_L2 e.1 e.2) (fun q : Int => -1) w.1.Clear (by have := w3.2.2; omega) (fun s => rfl)
    have l3 := set_gen (step := fun e => F6_L3 e.1 e.2) (fun q : TRegulateChannel => ⟨q.Number, -1, q.Radar⟩) x.1.Table (by have := x3.1; omega) (fun s => rfl)
    simp only [eta_TRegulate]
    rw [e, Option.bind_some, bif_f (by rfl), F24_ok s hg, Option.bind_some]
    rw [x1, Option.bind_some, x2, Option.bind_some, y1, Option.bind_some, y2, Option.bind_some, z1, Option.bind_some, z2, Option.bind_some, w1, Option.bind_some, w2, Option.bind_some, rx, Option.bind_some, ry, rw', a1, b1, rs]
    rw [need_true (by simp only [Option.isSome_some, Bool.cond_self]), need_true (by simp only [Option.isSome_some, Bool.cond_self]), need_true (by simp only [Option.isSome_some, Bool.cond_self]), need_true (by simp only [Option.isSome_some, Bool.cond_self]), lp_inl l1, lp_inl l2, lp_inl l3, need_true (by simp only [Option.isSome_some, Bool.cond_self])]
    simp only [gt_some, ab]
    simp [bEq_eq, bB_eq]
  · rw [e]; rfl
end Go.Proofs.Ytjhkehdbjnhplaa
