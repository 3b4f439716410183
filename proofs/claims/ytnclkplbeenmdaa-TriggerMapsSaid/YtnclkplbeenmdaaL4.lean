/-
  TriggerMaps: the plain law.
-/
import Derived.Test.YtnclkplbeenmdaaBW
namespace Go.Proofs.Ytnclkplbeenmdaa
open Go.Am
set_option linter.unusedVariables false
set_option linter.unusedSimpArgs false
/-- Two loops that go alike. -/
theorem loop_two {S B : Type} {f g : S → Option (Lp S B)} (Inv : S → Prop) (Post : B → Prop) (m : S → Nat)
    (hs : ∀ s, Inv s → f s = g s ∧ ((∃ b, f s = some (.done b) ∧ Post b) ∨ ∃ s', f s = some (.next s') ∧ Inv s' ∧ m s' < m s)) : ∀ s, Inv s → ∃ b, loopD f s = some b ∧ loopD g s = some b ∧ Post b := by
  have : ∀ (k : Nat) (s : S), m s < k → Inv s → ∃ b, loopD f s = some b ∧ loopD g s = some b ∧ Post b := by
    intro k
    induction k with
    | zero => intro s hk; omega
    | succ k ih =>
      intro s hk hI
      obtain ⟨e, h⟩ := hs s hI
      rcases h with ⟨b, h1, h2⟩ | ⟨s', h1, h2, h3⟩
      · exact ⟨b, loopD_done h1, loopD_done (e ▸ h1), h2⟩
      · obtain ⟨b, g1, g2, g3⟩ := ih s' (by omega) h2
        exact ⟨b, (loopD_next h1).trans g1, (loopD_next (e ▸ h1)).trans g2, g3⟩
  intro s hI
  exact this (m s + 1) s (by omega) hI
theorem F27_same (t : TTraffic) (hl : t.Aids.length ≤ 1000) : F27 t t = some true := by
  unfold F27
  rw [bif_f (by simp [bEq, bB_eq])]
  obtain ⟨b, l1, l2⟩ := loop_for (step := fun s => F27_L1 t t s) t.Aids.length (fun _ => True) (fun b => b = .inl ()) trivial
    (fun i hi _ => by
      unfold F27_L1
      rw [bif_t (by simp [bLt_eq]; omega), need_true (inb_nat hi), need_true (inb_nat hi), bif_f (by simp [bEq]), wr_add1 hi (by omega)]
      exact .inr ⟨rfl, trivial⟩)
    (fun _ => by
      unfold F27_L1
      rw [bif_f (by simp [bLt_eq])]
      exact ⟨_, rfl, rfl⟩)
  subst l2
  rw [lp_inl l1]
theorem Ng_nil (x y : Int) : Ng (TBuffer.mk x y [] []) := ⟨by simp, by simp, fun i hi => by simp at hi⟩

/-- The bit of a category. -/
def bitB (d c : Int) : Bool := !bEq (andI .u8 (shrI .u8 d c) 1) 0
theorem bits : ((List.range 16).all fun a => (List.range 4).all fun b => F36 (a : Int) (b : Int) == some (bitB (a : Int) (b : Int))) = true := by kernel_rfl
theorem F36_ok (d c : Int) (hd : 0 ≤ d ∧ d ≤ 15) (hc : 0 ≤ c ∧ c ≤ 3) : F36 d c = some (bitB d c) := by
  obtain ⟨a, rfl⟩ := Int.eq_ofNat_of_zero_le hd.1
  obtain ⟨b, rfl⟩ := Int.eq_ofNat_of_zero_le hc.1
  have h1 := List.all_eq_true.1 bits a (List.mem_range.2 (by omega))
  have h2 := List.all_eq_true.1 h1 b (List.mem_range.2 (by omega))
  exact eq_of_beq h2
/-- Categories of stations' queues. -/
def C3 (l : List TStored) : Prop := ∀ i : Nat, i < l.length → 0 ≤ (gd l i).Cat ∧ (gd l i).Cat ≤ 3
theorem F35_ok (l : List TStored) (d : Int) (hn : l.length ≤ 1000) (hd : 0 ≤ d ∧ d ≤ 15) (hc : C3 l) : ∃ k : Int, F35 l d = some k ∧ 0 ≤ k ∧ k ≤ l.length ∧ (k = l.length ↔ ∀ j : Nat, j < l.length → bitB d (gd l j).Cat = true) := by
  unfold F35
  obtain ⟨r, l1, l2⟩ := loop_inv (step := fun s : Int × Int => F35_L1 l d s.1 s.2) (fun s => ∃ i : Nat, s.2 = i ∧ i ≤ l.length ∧ 0 ≤ s.1 ∧ s.1 ≤ i ∧ (s.1 = i ↔ ∀ j : Nat, j < i → bitB d (gd l j).Cat = true))
    (fun r => ∃ k : Int, r = .inl k ∧ 0 ≤ k ∧ k ≤ l.length ∧ (k = l.length ↔ ∀ j : Nat, j < l.length → bitB d (gd l j).Cat = true)) (fun s => (l.length - s.2).toNat)
    (fun s hI => by
      obtain ⟨k, x⟩ := s
      obtain ⟨i, h1, h2, h3, h4, h5⟩ := hI
      simp only at h1 h3 h4 h5
      subst h1
      unfold F35_L1
      simp only
      by_cases hi : i < l.length
      · rw [bif_t (by simp [bLt_eq]; omega), need_true (inb_nat hi), Int.toNat_natCast, F36_ok d _ hd (hc i hi), Option.bind_some, wr_add1 hi (by omega)]
        cases hb : bitB d (gd l i).Cat with
        | true =>
          rw [cond_true, wr_in (by omega)]
          refine .inr ⟨_, rfl, ⟨i + 1, rfl, by omega, by simp only; omega, by simp only; omega, ?_⟩, by simp only; omega⟩
          simp only
          constructor
          · intro h j hj
            rcases Nat.lt_or_eq_of_le (Nat.le_of_lt_succ hj) with h' | rfl
            · exact h5.1 (by omega) j h'
            · exact hb
          · intro h
            have := h5.2 fun j hj => h j (by omega)
            omega
        | false =>
          rw [cond_false]
          refine .inr ⟨_, rfl, ⟨i + 1, rfl, by omega, h3, by simp only; omega, ?_⟩, by simp only; omega⟩
          simp only
          constructor
          · intro h; omega
          · intro h
            have := h i (by omega)
            rw [hb] at this
            cases this
      · obtain rfl : i = l.length := by omega
        rw [bif_f (by simp [bLt_eq])]
        exact .inl ⟨_, rfl, k, rfl, h3, h4, h5⟩) (0, 0) ⟨0, rfl, by omega, by simp, by simp, by simp⟩
  obtain ⟨k, rfl, l2⟩ := l2
  exact ⟨k, lp_inl l1, l2⟩
theorem F49_ok (l : List TStored) (p : TTriggerPlan) (hn : l.length ≤ 1000) (hc : C3 l) : ∃ b, F49_0 l p = some b ∧ (b = true ↔ ∃ j : Nat, j < l.length ∧ (p.Deliver = 15 ∨ bitB p.Deliver (gd l j).Cat = false)) := by
  unfold F49_0 F68_0
  obtain ⟨r, l1, l2⟩ := loop_for (step := fun s => F68_0_L1 l p s) l.length (fun n => ¬ ∃ j : Nat, j < n ∧ (p.Deliver = 15 ∨ bitB p.Deliver (gd l j).Cat = false)) (fun r => match r with | .inl _ => ¬ ∃ j : Nat, j < l.length ∧ (p.Deliver = 15 ∨ bitB p.Deliver (gd l j).Cat = false) | .inr k => 0 ≤ k ∧ ∃ j : Nat, j < l.length ∧ (p.Deliver = 15 ∨ bitB p.Deliver (gd l j).Cat = false)) (fun ⟨i, hi, _⟩ => by omega)
    (fun i hi hI => by
      unfold F68_0_L1 F48_0
      rw [bif_t (by simp [bLt_eq]; omega), need_true (inb_nat hi), Int.toNat_natCast]
      simp only
      have c0 : bLe 0 (gd l i).Cat = true := by have := hc i hi; simp [bLe_eq]; omega
      rw [c0, need_true (by simp), Option.bind_some, wr_add1 hi (by omega)]
      cases hb : (bEq p.Deliver 15 || bEq (andI .u8 (shrI .u8 p.Deliver (gd l i).Cat) 1) 0) with
      | true =>
        refine .inl ⟨_, rfl, by omega, i, hi, ?_⟩
        rcases Eq.mp (Bool.or_eq_true _ _) hb with h | h
        · left; simpa [bEq_eq] using h
        · right; unfold bitB; rw [h]; rfl
      | false =>
        rw [cond_false]
        refine .inr ⟨rfl, ?_⟩
        rintro ⟨j, hj, h⟩
        rcases Nat.lt_or_eq_of_le (Nat.le_of_lt_succ hj) with h' | rfl
        · exact hI ⟨j, h', h⟩
        · obtain ⟨b1, b2⟩ := Bool.or_eq_false_iff.1 hb
          rcases h with h | h
          · rw [h] at b1; cases b1
          · unfold bitB at h; rw [b2] at h; cases h)
    (fun hI => by
      unfold F68_0_L1
      rw [bif_f (by simp [bLt_eq])]
      exact ⟨_, rfl, hI⟩)
  cases r with
  | inl u => rw [lp_inl l1]; exact ⟨_, rfl, fun h => (by simp [bLe_eq] at h), fun h => absurd h l2⟩
  | inr k => rw [lp_inr l1]; exact ⟨_, rfl, fun _ => l2.2, fun _ => by simp [bLe_eq]; exact l2.1⟩
theorem plan_ok (p : TTriggerPlan) (h1 : 0 ≤ p.Start) (h2 : 0 ≤ p.Deliver) : (p.Deliver ≤ 15 ∧ F20 p = some 0 ∧ F21 p = some true) ∨ (F20 p = some 8 ∧ F21 p = some false) := by
  unfold F20 F21
  by_cases h : (p.Start ≤ 15 ∧ p.Deliver ≤ 15) ∧ 0 ≤ p.Most ∧ p.Most ≤ 16
  · obtain ⟨⟨a, b⟩, c, d⟩ := h
    refine .inl ⟨b, ?_, ?_⟩
    · rw [bif_f (by simp [bLt_eq]; omega)]
    · have : (((bLt p.Start 16 && bLt p.Deliver 16) && bLe 0 p.Most) && bLe p.Most 16) = true := by simp [bLt_eq, bLe_eq]; omega
      rw [this]
  · refine .inr ⟨?_, ?_⟩
    · rw [bif_t (by simp [bLt_eq]; omega)]
    · have : (((bLt p.Start 16 && bLt p.Deliver 16) && bLe 0 p.Most) && bLe p.Most 16) = false := by
        cases hc : (((bLt p.Start 16 && bLt p.Deliver 16) && bLe 0 p.Most) && bLe p.Most 16) with
        | false => rfl
        | true => simp [bLt_eq, bLe_eq] at hc; omega
      rw [this]
theorem map_ok (b : TBuffer) (ps : List TTriggerPlan) (hg : Ng b) (hc : Cb b.Group ∧ ∀ i : Nat, i < b.List.length → Cb (gd b.List i).Held) (hp : ∀ i : Nat, i < ps.length → 0 ≤ (gd ps i).Start ∧ 0 ≤ (gd ps i).Deliver) : ∃ r : TTraffic × Int, F25 b ps = some r ∧ F26 b ps = some r ∧ r.1.Aids.length ≤ 1000 := by
  unfold F25 F26
  obtain ⟨v, v1, v2⟩ := F50_ok b hg hc
  rw [v1]
  rcases F34_ok b hg with ⟨h, e⟩ | ⟨h, e⟩
  · rw [e]
    obtain rfl := v2.2 h
    obtain ⟨g1, g2, g3⟩ := hg
    simp only [Option.bind_some, bEq_eq, decide_true, Bool.not_true, cond_false]
    by_cases hl : ps.length = b.List.length
    · have el : (!decide ((ps.length : Int) = (b.List.length : Nat))) = false := by simp; omega
      rw [el, cond_false]
      obtain ⟨r, r1, r2, r3⟩ := loop_two (f := fun s : Int × List Int => F25_L1 b ps s.1 s.2) (g := fun s : Int × List Int => F26_L1 b ps s.1 s.2) (fun s => ∃ i : Nat, s.1 = i ∧ i ≤ ps.length ∧ s.2.length ≤ i)
        (fun r => match r with | .inl w => w.length ≤ 1000 | .inr x => x.1.Aids.length ≤ 1000) (fun s => (ps.length - s.1).toNat)
        (fun s hI => by
          obtain ⟨x, w⟩ := s
          obtain ⟨i, h1, h2, h3⟩ := hI
          simp only at h1 h3
          subst h1
          simp only
          unfold F25_L1 F26_L1
          by_cases hi : i < ps.length
          · have hib : i < b.List.length := by omega
            have e0 : bLt (i : Int) (ps.length : Nat) = true := by simp [bLt_eq]; omega
            have e1 : capb 8 (w.length + 1) = true := capb_iff.2 (by omega)
            rw [e0, inb_nat hi, inb_nat hib, wr_add1 hi (by omega), e1, Int.toNat_natCast]
            simp only [need_true, cond_true]
            rcases plan_ok (gd ps i) (hp i hi).1 (hp i hi).2 with ⟨hd, p1, p2⟩ | ⟨p1, p2⟩
            · rw [p1, p2]
              have c3 : C3 (gd b.List i).Held := fun j hj => ⟨(hc.2 i hib j hj).1, ((h.1.2 i hib).2.2.1.2 j hj).1⟩
              have hn := g3 i hib
              obtain ⟨k, k1, k2, k3, k4⟩ := F35_ok (gd b.List i).Held (gd ps i).Deliver (by omega) ⟨(hp i hi).2, hd⟩ c3
              obtain ⟨a, a1, a2⟩ := F49_ok (gd b.List i).Held (gd ps i) (by omega) c3
              rw [k1, a1]
              simp only [Option.bind_some, bEq_eq, decide_true, Bool.not_true, cond_false, Bool.cond_self, need_true]
              rw [wr_in (by omega)]
              have same : (bLt 0 (((gd b.List i).Held.length : Int) - k) || (decide ((gd ps i).Deliver = 15) && bLt 0 ((gd b.List i).Held.length : Nat))) = a := by
                rw [Bool.eq_iff_iff, a2]
                simp only [Bool.or_eq_true, Bool.and_eq_true, bLt_eq, decide_eq_true_eq]
                constructor
                · rintro (h | ⟨h, h'⟩)
                  · have : ¬ ∀ j : Nat, j < (gd b.List i).Held.length → bitB (gd ps i).Deliver (gd (gd b.List i).Held j).Cat = true := fun hh => by have := k4.2 hh; omega
                    obtain ⟨j, hj⟩ := Classical.not_forall.1 this
                    obtain ⟨hj, hj'⟩ := Classical.not_imp.1 hj
                    exact ⟨j, hj, .inr (by simpa using hj')⟩
                  · exact ⟨0, by omega, .inl h⟩
                · rintro ⟨j, hj, h | h⟩
                  · exact .inr ⟨h, by omega⟩
                  · left
                    have : k ≠ (gd b.List i).Held.length := fun e => by have := k4.1 e j hj; rw [h] at this; cases this
                    omega
              rw [same]
              refine ⟨rfl, .inr ?_⟩
              cases a with
              | true => exact ⟨_, rfl, ⟨i + 1, rfl, by omega, by simp; omega⟩, by simp only; omega⟩
              | false => exact ⟨_, rfl, ⟨i + 1, rfl, by omega, by simp only; omega⟩, by simp only; omega⟩
            · rw [p1, p2]
              simp only [Option.bind_some, Bool.not_false, cond_true]
              exact ⟨rfl, .inl ⟨_, rfl, by simp⟩⟩
          · have e0 : bLt (i : Int) (ps.length : Nat) = false := by simp [bLt_eq]; omega
            rw [e0]
            simp only [cond_false]
            exact ⟨trivial, .inl ⟨_, rfl, by simp only; omega⟩⟩) (0, []) ⟨0, rfl, by omega, by simp⟩
      cases r with
      | inl w => exact ⟨_, (lp_inl r1), (lp_inl r2), r3⟩
      | inr x => exact ⟨_, (lp_inr r1), (lp_inr r2), r3⟩
    · have el : (!decide ((ps.length : Int) = (b.List.length : Nat))) = true := by simp; omega
      rw [el]
      exact ⟨_, rfl, rfl, by simp⟩
  · rw [e]
    have : v = false := by cases v with | true => exact absurd (v2.1 rfl) h | false => rfl
    subst this
    exact ⟨_, rfl, rfl, by simp⟩
theorem law4 (b : TBuffer) (ps : List TTriggerPlan) (hc : Cb b.Group ∧ ∀ i : Nat, i < b.List.length → Cb (gd b.List i).Held) (hp : ∀ i : Nat, i < ps.length → 0 ≤ (gd ps i).Start ∧ 0 ≤ (gd ps i).Deliver) : F4 b ps = some true := by
  unfold F4
  obtain ⟨g, g1, g2⟩ := F24_ok b (TFrame.mk (THeader.mk 0 0 false false false false false false false 0 (A6u8.mk 0 0 0 0 0 0) (A6u8.mk 0 0 0 0 0 0) (A6u8.mk 0 0 0 0 0 0) (A6u8.mk 0 0 0 0 0 0) 0 0 0 0 false false) [])
  rw [g1, Option.bind_some]
  cases g with
  | true => rfl
  | false =>
    have hg := g2 rfl
    rw [Bool.false_or]
    cases hl : bLt 50 (ps.length : Nat) with
    | true => rfl
    | false =>
      obtain ⟨t, t1, t2, t3⟩ := map_ok b ps hg hc hp
      rw [cond_false, t1, t2]
      simp only [Option.bind_some]
      rw [F27_same t.1 t3]
      simp [bEq]
end Go.Proofs.Ytnclkplbeenmdaa
