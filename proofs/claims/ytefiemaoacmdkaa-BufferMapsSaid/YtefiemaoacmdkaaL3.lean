/-
  BufferMaps: the plain law.
-/
import Derived.Test.YtefiemaoacmdkaaBW
namespace Go.Proofs.Ytefiemaoacmdkaa
open Go.Am
set_option linter.unusedVariables false
set_option linter.unusedSimpArgs false
/-- Two loops that go alike. -/
theorem loop_two {S B : Type} {f g : S → Option (Lp S B)} (Inv : S → Prop) (Post : B → Prop) (m : S → Nat)
    (hs : ∀ s, Inv s → f s = g s ∧ ((∃ b, f s = some (.done b) ∧ Post b) ∨ ∃ s', f s = some (.next s') ∧ Inv s' ∧ m s' < m s)) : ∀ s, Inv s → ∃ b, loopD f s = some b ∧ loopD g s = some b ∧ Post b := by
  have : ∀ (k : Nat) (s : S), m s < k → Inv s → ∃ b, loopD f s = some b ∧ loopD g s = some b ∧ Post b := by
    intro k
    induction k with
    | zero => intro s hk; omega
    | succ k ih =>
      intro s hk hI
      obtain ⟨e, h⟩ := hs s hI
      rcases h with ⟨b, h1, h2⟩ | ⟨s', h1, h2, h3⟩
      · exact ⟨b, loopD_done h1, loopD_done (e ▸ h1), h2⟩
      · obtain ⟨b, g1, g2, g3⟩ := ih s' (by omega) h2
        exact ⟨b, (loopD_next h1).trans g1, (loopD_next (e ▸ h1)).trans g2, g3⟩
  intro s hI
  exact this (m s + 1) s (by omega) hI
theorem F17_same (t : TTraffic) (hl : t.Aids.length ≤ 1000) : F17 t t = some true := by
  unfold F17
  rw [bif_f (by simp [bEq, bB_eq])]
  obtain ⟨b, l1, l2⟩ := loop_for (step := fun s => F17_L1 t t s) t.Aids.length (fun _ => True) (fun b => b = .inl ()) trivial
    (fun i hi _ => by
      unfold F17_L1
      rw [bif_t (by simp [bLt_eq]; omega), need_true (inb_nat hi), need_true (inb_nat hi), bif_f (by simp [bEq]), wr_add1 hi (by omega)]
      exact .inr ⟨rfl, trivial⟩)
    (fun _ => by
      unfold F17_L1
      rw [bif_f (by simp [bLt_eq])]
      exact ⟨_, rfl, rfl⟩)
  subst l2
  rw [lp_inl l1]
theorem Ng_nil (x y : Int) : Ng (TBuffer.mk x y [] []) := ⟨by simp, by simp, fun i hi => by simp at hi⟩

theorem new_ok (x y : Int) : ∃ r e, F12 x y = some (r, e) ∧ F13 x y = some (r, e) ∧ r.List = [] ∧ r.Group = [] := by
  unfold F12 F13
  obtain ⟨v, v1, v2⟩ := F19_ok (TBuffer.mk x y [] []) (Ng_nil x y) ⟨fun i hi => by simp at hi, fun i hi => by simp at hi⟩
  rw [v1]
  rcases F18_ok (TBuffer.mk x y [] []) (Ng_nil x y) with ⟨h, e⟩ | ⟨h, e⟩
  · rw [e]
    obtain rfl := v2.2 h
    exact ⟨_, _, rfl, rfl, rfl, rfl⟩
  · rw [e]
    have : v = false := by cases v with | true => exact absurd (v2.1 rfl) h | false => rfl
    subst this
    exact ⟨_, _, rfl, rfl, rfl, rfl⟩
theorem same_new (r : TBuffer) (h1 : r.List = []) (h2 : r.Group = []) : F16 r r = some true := by
  obtain ⟨a, b, c, d⟩ := r
  simp only at h1 h2
  subst h1 h2
  have q : F45 [] [] = some true := by
    unfold F45
    exact (bif_f (by simp [bEq])).trans (lp_inl (loopD_done (b := Sum.inl ()) rfl))
  unfold F16
  simp only [q, Option.isSome_some, gt_some, Bool.cond_self, need_true]
  exact (bif_f (by simp [bEq])).trans (lp_inl (loopD_done (b := Sum.inl ()) rfl))
theorem map_ok (b : TBuffer) (hg : Ng b) (hc : Cb b.Group ∧ ∀ i : Nat, i < b.List.length → Cb (gd b.List i).Held) : ∃ r : TTraffic × Int, F14 b = some r ∧ F15 b = some r ∧ r.1.Aids.length ≤ 1000 := by
  unfold F14 F15
  obtain ⟨v, v1, v2⟩ := F19_ok b hg hc
  rw [v1]
  rcases F18_ok b hg with ⟨h, e⟩ | ⟨h, e⟩
  · rw [e]
    obtain rfl := v2.2 h
    obtain ⟨g1, g2, g3⟩ := hg
    obtain ⟨r, r1, r2, r3⟩ := loop_two (f := fun s : Int × List Int => F14_L1 b s.1 s.2) (g := fun s : Int × List Int => F15_L1 b s.1 s.2) (fun s => ∃ i : Nat, s.1 = i ∧ i ≤ b.List.length ∧ s.2.length ≤ i)
      (fun r => ∃ w : List Int, r = .inl w ∧ w.length ≤ 1000) (fun s => (b.List.length - s.1).toNat)
      (fun s hI => by
        obtain ⟨x, w⟩ := s
        obtain ⟨i, h1, h2, h3⟩ := hI
        simp only at h1 h3
        subst h1
        simp only
        unfold F14_L1 F15_L1
        by_cases hi : i < b.List.length
        · have e0 : bLt (i : Int) (b.List.length : Nat) = true := by simp [bLt_eq]; omega
          have e1 : capb 8 (w.length + 1) = true := capb_iff.2 (by omega)
          rw [e0, inb_nat hi, wr_add1 hi (by omega), e1]
          simp only [need_true, cond_true]
          refine ⟨trivial, .inr ?_⟩
          cases bLt 0 ((gd b.List ((i : Int)).toNat).Held.length : Nat) with
          | true => exact ⟨_, rfl, ⟨i + 1, rfl, by omega, by simp; omega⟩, by simp only; omega⟩
          | false => exact ⟨_, rfl, ⟨i + 1, rfl, by omega, by simp only; omega⟩, by simp only; omega⟩
        · have e0 : bLt (i : Int) (b.List.length : Nat) = false := by simp [bLt_eq]; omega
          rw [e0]
          simp only [cond_false]
          exact ⟨trivial, .inl ⟨_, rfl, w, rfl, by omega⟩⟩) (0, []) ⟨0, rfl, by omega, by simp⟩
    obtain ⟨w, rfl, r3⟩ := r3
    simp only [Option.bind_some, bEq_eq, decide_true, Bool.not_true, cond_false]
    exact ⟨_, (lp_inl r1), (lp_inl r2), r3⟩
  · rw [e]
    have : v = false := by cases v with | true => exact absurd (v2.1 rfl) h | false => rfl
    subst this
    exact ⟨_, rfl, rfl, by simp⟩
theorem law3 (x y : Int) (b : TBuffer) (hc : Cb b.Group ∧ ∀ i : Nat, i < b.List.length → Cb (gd b.List i).Held) : F3 x y b = some true := by
  unfold F3
  obtain ⟨g, g1, g2⟩ := F11_ok b (TFrame.mk (THeader.mk 0 0 false false false false false false false 0 (A6u8.mk 0 0 0 0 0 0) (A6u8.mk 0 0 0 0 0 0) (A6u8.mk 0 0 0 0 0 0) (A6u8.mk 0 0 0 0 0 0) 0 0 0 0 false false) [])
  rw [g1, Option.bind_some]
  cases g with
  | true => rfl
  | false =>
    have hg := g2 rfl
    obtain ⟨r, e, n1, n2, n3, n4⟩ := new_ok x y
    obtain ⟨t, t1, t2, t3⟩ := map_ok b hg hc
    rw [cond_false, n1, n2, t1, t2]
    simp only [Option.bind_some]
    rw [same_new r n3 n4, F17_same t.1 t3]
    obtain ⟨v, v1, v2⟩ := F19_ok b hg hc
    rw [v1]
    rcases F18_ok b hg with ⟨h, e2⟩ | ⟨h, e2⟩
    · rw [e2]
      obtain rfl := v2.2 h
      simp [need, gt, bEq, bB]
    · rw [e2]
      have : v = false := by cases v with | true => exact absurd (v2.1 rfl) h | false => rfl
      subst this
      simp [need, gt, bEq, bB]
end Go.Proofs.Ytefiemaoacmdkaa
