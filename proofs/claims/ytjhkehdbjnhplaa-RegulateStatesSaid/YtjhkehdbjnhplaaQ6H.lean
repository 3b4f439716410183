/-
  Regulate: equal states; the reference's results; the law of states.
-/
import Derived.Test.YtjhkehdbjnhplaaQ6G
namespace Go.Proofs.Ytjhkehdbjnhplaa
open Go.Am
set_option linter.unusedVariables false
set_option linter.unusedSimpArgs false
theorem F24_ok (s : TRegulate) (hg : Gr s) : F24 s = some s := by
  obtain ⟨g1, g2, g3⟩ := hg
  unfold F24
  rw [need_true (capb_iff.2 (by omega)), need_true (capb_iff.2 (by omega)), need_true (capb_iff.2 (by omega))]
  simp only [List.nil_append]
/-- Equal states are the same. -/
theorem F31_refl (a : TRegulate) (hg : Gr a) : F31 a a = some true := by
  obtain ⟨g1, g2, g3⟩ := hg
  have l1 := run_gen (step := fun i => F31_L1 a a i) a.Table.length (fun i => (i : Int)) () (fun i hi => by
      show F31_L1 a a i = _
      unfold F31_L1
      rw [bif_t (c := bLt _ _) (by simp [bLt_eq]; omega), need_true (inb_nat hi), need_true (inb_nat hi), Int.toNat_natCast, wr_add1 hi (by omega), bif_f (by simp [bEq_eq, bB_eq])])
    (by show F31_L1 a a _ = _; unfold F31_L1; rw [bif_f (by simp [bLt_eq])])
  have l2 := run_gen (step := fun i => F31_L2 a a i) a.Blocked.length (fun i => (i : Int)) () (fun i hi => by
      show F31_L2 a a i = _
      unfold F31_L2
      rw [bif_t (c := bLt _ _) (by simp [bLt_eq]; omega), need_true (inb_nat hi), need_true (inb_nat hi), Int.toNat_natCast, wr_add1 hi (by omega), bif_f (by simp [bEq_eq, bB_eq])])
    (by show F31_L2 a a _ = _; unfold F31_L2; rw [bif_f (by simp [bLt_eq])])
  have l3 := run_gen (step := fun i => F31_L3 a a i) a.Clear.length (fun i => (i : Int)) () (fun i hi => by
      show F31_L3 a a i = _
      unfold F31_L3
      rw [bif_t (c := bLt _ _) (by simp [bLt_eq]; omega), need_true (inb_nat hi), need_true (inb_nat hi), Int.toNat_natCast, wr_add1 hi (by omega), bif_f (by simp [bEq_eq, bB_eq])])
    (by show F31_L3 a a _ = _; unfold F31_L3; rw [bif_f (by simp [bLt_eq])])
  have l1' : loopD (fun i => F31_L1 a a i) 0 = some (.inl ()) := l1
  have l2' : loopD (fun i => F31_L2 a a i) 0 = some (.inl ()) := l2
  have l3' : loopD (fun i => F31_L3 a a i) 0 = some (.inl ()) := l3
  unfold F31
  rw [bif_f (by simp [bEq_eq]), lp_inl l1', lp_inl l2', lp_inl l3']
  simp [bEq_eq, bB_eq]
theorem F32_refl (a : List Int) (hl : a.length <= 1000) : F32 a a = some true := by
  have l1 := run_gen (step := fun i => F32_L1 a a i) a.length (fun i => (i : Int)) () (fun i hi => by
      show F32_L1 a a i = _
      unfold F32_L1
      rw [bif_t (c := bLt _ _) (by simp [bLt_eq]; omega), need_true (inb_nat hi), need_true (inb_nat hi), Int.toNat_natCast, wr_add1 hi (by omega), bif_f (by simp [bEq_eq])])
    (by show F32_L1 a a _ = _; unfold F32_L1; rw [bif_f (by simp [bLt_eq])])
  have l1' : loopD (fun i => F32_L1 a a i) 0 = some (.inl ()) := l1
  unfold F32
  rw [bif_f (by simp [bEq_eq]), lp_inl l1']
/-- start. -/
theorem F64_ok (s : TRegulate) (t p : Int) (hg : Gr s) : (¬ Vs s /\ F64 s t p = some 8) ∨ (Vs s /\ ¬ (Mo t /\ 0 <= p) /\ F64 s t p = some 2) ∨ (Vs s /\ Mo t /\ 0 <= p /\ F64 s t p = some 0) := by
  obtain ⟨b, e, i⟩ := F34_ok s hg
  obtain ⟨m, e2, i2⟩ := F63_ok t
  unfold F64
  rw [e, e2, Option.bind_some, Option.bind_some]
  cases b with
  | false => exact .inl ⟨fun h => (by have := i.2 h; cases this), rfl⟩
  | true =>
    refine .inr ?_
    cases m with
    | false => exact .inl ⟨i.1 rfl, fun h => (by have := i2.2 h.1; cases this), rfl⟩
    | true =>
      by_cases hp : 0 <= p
      · exact .inr ⟨i.1 rfl, i2.1 rfl, hp, by rw [bif_f (by rfl), bif_f (by simp [bLt_eq]; omega)]⟩
      · exact .inl ⟨i.1 rfl, fun h => hp h.2, by rw [bif_f (by rfl), bif_t (by simp [bLt_eq]; omega)]⟩
theorem F27_ok (s : TRegulate) (t : Int) (hg : Gr s) : (¬ Vs s /\ F27 s t = some ([], 8)) ∨ (Vs s /\ ¬ Mo t /\ F27 s t = some ([], 2)) ∨ (Vs s /\ Mo t /\ F27 s t = some (usL s.Table s.Channel s.Blocked s.Clear t, 0)) := by
  unfold F27
  rcases F64_ok s t 0 hg with ⟨h, e⟩ | ⟨h, h2, e⟩ | ⟨h, h2, _, e⟩
  · rw [e]; exact .inl ⟨h, rfl⟩
  · rw [e]; exact .inr (.inl ⟨h, fun q => h2 ⟨q, by decide⟩, rfl⟩)
  · rw [e, Option.bind_some, bif_f (c := !bEq (0 : Int) 0) (by decide), F65_ok s t hg h.2.2.2.2.2.2.2.1]
    exact .inr (.inr ⟨h, h2, rfl⟩)
theorem F28_ok (s : TRegulate) (p t : Int) (hg : Gr s) : (¬ Vs s /\ F28 s p t = some (false, 8)) ∨ (Vs s /\ ¬ Mo t /\ F28 s p t = some (false, 2)) ∨ (Vs s /\ Mo t /\ ∀ c ∈ s.Table, c.Number = s.Channel -> ∃ b, F28 s p t = some (b, 0) /\ (b = true ↔ Ma s c p t)) := by
  unfold F28
  rcases F64_ok s t 0 hg with ⟨h, e⟩ | ⟨h, h2, e⟩ | ⟨h, h2, _, e⟩
  · rw [e]; exact .inl ⟨h, rfl⟩
  · rw [e]; exact .inr (.inl ⟨h, fun q => h2 ⟨q, by decide⟩, rfl⟩)
  · rw [e]
    refine .inr (.inr ⟨h, h2, fun c hc ec => ?_⟩)
    have f18 : F18 s.Table s.Channel = some (c, true) := by rw [← ec]; exact F18_at (by have := hg.1; omega) h.1.2.2 hc
    obtain ⟨b, b1, b2⟩ := F66_ok s c t hg h.2.2.2.2.2.2.2.1
    have hw : wr .i64 (t - s.Heard) = t - s.Heard := wr_in (by have := h.2.2.1; unfold Mo at h2 this; omega)
    rw [Option.bind_some, bif_f (c := !bEq (0 : Int) 0) (by decide), f18, Option.bind_some, b1, hw]
    simp only [Option.isSome_some, Bool.cond_self, need_true, gt_some]
    refine ⟨_, rfl, ?_⟩
    unfold Ma
    rw [← b2]
    simp only [Bool.and_eq_true, Bool.or_eq_true, Bool.not_eq_true', bLe_eq, decide_eq_true_eq]
    constructor
    · rintro ⟨⟨⟨h1, h2⟩, h3⟩, h4⟩; exact ⟨h1, h3, h4, h2⟩
    · rintro ⟨h1, h3, h4, h2⟩; exact ⟨⟨⟨h1, h2⟩, h3⟩, h4⟩
/-- New. -/
theorem new_ok (l : List TRegulateChannel) (n : Int) (lead : Bool) (t : Int) (hl : l.length <= 1000) : ∃ x, F25 l n lead t = some x /\ F26 l n lead t = some x /\ Gr x.1 := by
  obtain ⟨b1, e1, i1⟩ := F59_ok l hl
  obtain ⟨b2, e2, i2⟩ := F62_ok l hl
  obtain ⟨m1, e3, i3⟩ := F60_ok t
  obtain ⟨m2, e4, i4⟩ := F63_ok t
  have hb : b1 = b2 := by rw [Bool.eq_iff_iff, i1, i2]
  have hm : m1 = !m2 := by
    cases m1 <;> cases m2 <;> simp at i3 i4 ⊢
    · exact i4 i3
    · exact i3 i4
  have hz : Gr ⟨[], 0, false, 0, false, false, 0, 0, [], []⟩ := ⟨by decide, by decide, by decide⟩
  unfold F25 F26 F58
  rw [need_true (capb_iff.2 (by omega)), Option.bind_some, e1, e2, e3, e4, Option.bind_some, Option.bind_some, Option.bind_some, Option.bind_some, hb, hm]
  cases b2 with
  | false => exact ⟨_, rfl, rfl, hz⟩
  | true =>
    cases m2 with
    | false => exact ⟨_, rfl, rfl, hz⟩
    | true =>
      have hv := i2.1 rfl
      obtain ⟨k, k1, k2⟩ := F61_ok l n (by omega) hv.2.2
      rw [k1]
      simp only [Bool.not_true, cond_false, Option.bind_some, Bool.not_false]
      rcases F18_ok l n (by omega) with ⟨h, e⟩ | ⟨c, h1, h2, e⟩
      · rw [e]
        have : k = false := by
          cases k with
          | false => rfl
          | true => obtain ⟨q, hq, e⟩ := k2.1 rfl; exact absurd e (h q hq)
        rw [this]
        exact ⟨_, rfl, rfl, hz⟩
      · rw [e, k2.2 ⟨c, h1, h2⟩]
        simp only [Option.bind_some, Bool.not_true, cond_false]
        rw [need_true (capb_iff.2 (by omega)), List.nil_append]
        cases lead with
        | false => exact ⟨_, rfl, rfl, hl, Nat.zero_le _, Nat.zero_le _⟩
        | true => exact ⟨_, rfl, rfl, hl, Nat.zero_le _, Nat.zero_le _⟩
/-- block, removing. -/
theorem F72_ok (l : List TRegulateBlock) (n : Int) (hl : l.length <= 1000) : F72 l n (-1) = some (l.filter (fun q => !bEq q.Channel n)) := by
  have l1 := run_gen (step := fun s => F72_L1 l n (-1) s.1 s.2.1 s.2.2) l.length (fun i => ((l.take i).filter (fun q => !bEq q.Channel n), true, (i : Int))) (l.filter (fun q => !bEq q.Channel n), true) (fun i hi => by
      show F72_L1 l n (-1) _ true i = _
      unfold F72_L1
      have hle : ((l.take i).filter (fun q => !bEq q.Channel n)).length <= l.length := Nat.le_trans (List.length_filter_le ..) (by rw [List.length_take]; omega)
      rw [bif_t (c := bLt _ _) (by simp [bLt_eq]; omega), inb_nat hi, Int.toNat_natCast, wr_add1 hi (by omega), take_fil _ l hi]
      simp only [Bool.cond_self, need_true, Bool.not_true, Bool.false_and, cond_false]
      generalize ((l.take i).filter (fun q => !bEq q.Channel n)) = z at hle
      have hq : capb 16 (z.length + 1) = true := capb_iff.2 (by omega)
      rw [hq]
      cases (!bEq (gd l i).Channel n) <;> rfl)
    (by
      show F72_L1 l n (-1) _ _ _ = _
      unfold F72_L1
      rw [bif_f (by simp [bLt_eq]), List.take_length])
  have l2 : loopD (fun s => F72_L1 l n (-1) s.1 s.2.1 s.2.2) ([], (bLt (-1) 0), 0) = some (.inl (l.filter (fun q => !bEq q.Channel n), true)) := l1
  unfold F72
  rw [lp_inl l2]
  rfl
/-- slices.BinarySearch. -/
theorem F70_ok (l : List Int) (n : Int) (hl : l.length <= 10000) (hp : Ri l) :
    ∃ A B, l = A ++ B /\ (∀ q ∈ A, q < n) /\ (((∀ q ∈ B, n < q) /\ F70 l n = some ((A.length : Int), false)) ∨ ∃ b B', B = b :: B' /\ b = n /\ (∀ q ∈ B', n < q) /\ F70 l n = some ((A.length : Int), true)) := by
  have hlt : ∀ x y, bLt (cmpI x y) 0 = bLt x y := by
    intro x y
    unfold cmpI
    by_cases h : x < y
    · simp [bLt_eq, h]
    · by_cases h2 : y < x <;> simp [bLt_eq, h, h2]
  have heq : ∀ x y, bEq (cmpI x y) 0 = bEq x y := by
    intro x y
    unfold cmpI
    by_cases h : x < y
    · simp [bEq_eq, h]; omega
    · by_cases h2 : y < x
      · simp [bEq_eq, h, h2]; omega
      · simp [bEq_eq, h, h2]; omega
  have h99 : ∀ x, F99 x n = some (bLt x n) := by
    intro x
    unfold F99 F117
    have h1 : (!bEq x x) = false := by simp [bEq_eq]
    rw [Option.bind_some, h1]
    simp [need, Option.isSome]
  refine bsf_gen (fun q : Int => q) n l hl hp (fun q => some (cmpI q n)) (fun q => rfl) (step := fun s => F70_L1 l n s.1 s.2) (fun s => ?_) _ ?_
  · show F70_L1 l n s.1 s.2 = _
    unfold F70_L1
    simp only [h99, Option.bind_some, hlt]
  · unfold F70
    congr 1
    funext w
    have h1 : ∀ x : Int, F100 x = some false := fun x => by unfold F100; simp [bEq_eq]
    simp only [h1, heq, Option.isSome_some, Bool.cond_self, need_true, gt_some, Bool.false_and, Bool.or_false, Bool.and_false, cond_false]
    cases hw : bLt w (l.length : Nat) with
    | false => simp [need]
    | true =>
      simp only [cond_true, Bool.true_and]
      cases inb w l.length <;> simp [need]
end Go.Proofs.Ytjhkehdbjnhplaa
