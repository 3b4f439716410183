/-
  Regulate: free channels; May; the law of powers.
-/
import Derived.Test.YtjhkehdbjnhplaaQ4B
namespace Go.Proofs.Ytjhkehdbjnhplaa
open Go.Am
set_option linter.unusedVariables false
set_option linter.unusedSimpArgs false
theorem alive_ok : F15 = some true := by kernel_rfl
/-- A channel is free. -/
def Fr (bl : List TRegulateBlock) (cl : List Int) (c : TRegulateChannel) (t : Int) : Prop := (∀ b ∈ bl, b.Channel = c.Number → b.Until ≤ t) ∧ (c.Radar = true → c.Number ∈ cl)
theorem F52_ok (tl : List TRegulateChannel) (bl : List TRegulateBlock) (cl : List Int) (c : TRegulateChannel) (t : Int) (ht : tl.length ≤ 1000) (hb : bl.length ≤ 1000) (hl : cl.length ≤ 1000) (rt : Rc tl) (rb : Rb bl) (hc : c ∈ tl) :
    ∃ b, F52_0 tl bl cl c.Number t = some b ∧ (b = true ↔ Fr bl cl c t) := by
  have rest : (∀ b ∈ bl, b.Channel = c.Number → b.Until ≤ t) → ∃ b, (F51_0 tl c.Number).bind (fun r4 => need (bif (!(!r4.Radar)) then ((F77 cl c.Number).isSome) else true) <| some ((!r4.Radar) || (gt (F77 cl c.Number)))) = some b ∧ (b = true ↔ Fr bl cl c t) := by
    intro h
    obtain ⟨k, k1, k2⟩ := F77_ok cl c.Number (by omega)
    rw [F51_ok tl c (by omega) rt hc, Option.bind_some, k1]
    simp only [Option.isSome_some, Bool.cond_self, need_true, gt_some]
    refine ⟨_, rfl, ?_⟩
    unfold Fr
    rw [← k2]
    cases c.Radar <;> simp <;> first | exact h | exact fun _ => h
  obtain ⟨A, B, rfl, hA, h | ⟨b, B', rfl, h1, h2, h3⟩⟩ := F67_ok bl c.Number (by omega) rb
  · unfold F52_0
    rw [h.2, Option.bind_some]
    simp only [cond_false, need_true, Bool.false_and]
    refine rest fun q hq e => ?_
    rcases List.mem_append.1 hq with hq | hq
    · have := hA q hq; omega
    · have := h.1 q hq; omega
  · unfold F52_0
    have hi : A.length < (A ++ b :: B').length := by simp
    rw [h3, Option.bind_some]
    simp only [cond_true, Bool.true_and, Int.toNat_natCast]
    rw [need_true (inb_nat hi), gd_app2 (Nat.le_refl _), Nat.sub_self]
    by_cases hu : t < b.Until
    · rw [bif_t (by simp [bLt_eq, gd]; exact hu)]
      exact ⟨false, rfl, ⟨fun h => absurd h (by decide), fun h => by have := h.1 b (by simp) h1; omega⟩⟩
    · rw [bif_f (by simp [bLt_eq, gd]; omega)]
      refine rest fun q hq e => ?_
      rw [key_inj (k := fun q : TRegulateBlock => q.Channel) rb (a := q) (b := b) hq (by simp) (e.trans h1.symm)]
      omega
/-- May. -/
def Ma (s : TRegulate) (c : TRegulateChannel) (p t : Int) : Prop := s.Stopped = false ∧ p ≤ c.Max ∧ (s.Lead = true ∨ t - s.Heard ≤ 500000) ∧ Fr s.Blocked s.Clear c t
theorem F17_ok (s : TRegulate) (p t : Int) (hg : Gr s) : (¬ Vs s ∧ F17 s p t = some (false, 8)) ∨ (Vs s ∧ ¬ Mo t ∧ F17 s p t = some (false, 2)) ∨ (Vs s ∧ Mo t ∧ ∀ c ∈ s.Table, c.Number = s.Channel → ∃ b, F17 s p t = some (b, 0) ∧ (b = true ↔ Ma s c p t)) := by
  unfold F17
  rcases F50_ok s t 0 hg with ⟨h, e⟩ | ⟨h, h2, e⟩ | ⟨h, h2, _, e⟩
  · rw [e]; exact .inl ⟨h, rfl⟩
  · rw [e]; exact .inr (.inl ⟨h, fun q => h2 ⟨q, by decide⟩, rfl⟩)
  · rw [e]
    refine .inr (.inr ⟨h, h2, fun c hc ec => ?_⟩)
    obtain ⟨⟨t1, t2, t3⟩, v2, v3, v4, v5, v6, v7, v8, v9, v10, v11⟩ := h
    obtain ⟨g1, g2, g3⟩ := hg
    obtain ⟨b, b1, b2⟩ := F52_ok s.Table s.Blocked s.Clear c t g1 g2 g3 t3 v8 hc
    rw [ec] at b1
    have hc51 := F51_ok s.Table c (by omega) t3 hc
    rw [ec] at hc51
    have hw : wr .i64 (t - s.Heard) = t - s.Heard := wr_in (by unfold Mo at h2 v3; omega)
    simp only [Option.bind_some, Option.isSome_some, gt_some, cond_true]
    rw [bif_f (c := !bEq (0 : Int) 0) (by decide), hc51, b1, hw]
    simp only [Option.isSome_some, Bool.cond_self, need_true, gt_some, Option.bind_some]
    unfold Ma
    by_cases hh : s.Stopped = false ∧ p ≤ c.Max ∧ (s.Lead = true ∨ t - s.Heard ≤ 500000)
    · rw [bif_f (by
        simp only [Bool.or_eq_false_iff, bLt_eq, decide_eq_false_iff_not, Bool.and_eq_false_iff, Bool.not_eq_false']
        refine ⟨⟨hh.1, by omega⟩, ?_⟩
        rcases hh.2.2 with q | q
        · exact .inl q
        · exact .inr (by omega))]
      exact ⟨b, rfl, b2.trans ⟨fun q => ⟨hh.1, hh.2.1, hh.2.2, q⟩, fun q => q.2.2.2⟩⟩
    · refine ⟨false, ?_, ⟨fun q => absurd q (by decide), fun q => absurd ⟨q.1, q.2.1, q.2.2.1⟩ hh⟩⟩
      rw [bif_t]
      cases hS : s.Stopped with
      | true => rfl
      | false =>
        by_cases hp : p ≤ c.Max
        · cases hL : s.Lead with
          | true => exact absurd ⟨hS, hp, .inl hL⟩ hh
          | false =>
            by_cases hq : t - s.Heard ≤ 500000
            · exact absurd ⟨hS, hp, .inr hq⟩ hh
            · simp [bLt_eq]; omega
        · simp [bLt_eq]; omega
theorem law4 (s : TRegulate) (p less t : Int) : F4 s p less t = some true := by
  unfold F4
  rw [alive_ok, Option.bind_some]
  rcases F16_ok s with ⟨hg, e⟩ | ⟨hg, e⟩
  · rw [e, Option.bind_some, bif_f (by rfl)]
    replace hg := Gr_of hg
    rcases F17_ok s p t hg with ⟨h, e1⟩ | ⟨h, h2, e1⟩ | ⟨h, h2, k1⟩
    · rcases F17_ok s less t hg with ⟨_, e2⟩ | ⟨h3, _⟩ | ⟨h3, _⟩
      · rw [e1, e2]; rfl
      · exact absurd h3 h
      · exact absurd h3 h
    · rcases F17_ok s less t hg with ⟨h3, _⟩ | ⟨_, _, e2⟩ | ⟨_, h3, _⟩
      · exact absurd h h3
      · rw [e1, e2]; rfl
      · exact absurd h3 h2
    · rcases F17_ok s less t hg with ⟨h3, _⟩ | ⟨_, h3, _⟩ | ⟨_, _, k2⟩
      · exact absurd h h3
      · exact absurd h2 h3
      · obtain ⟨c, hc, ec⟩ := h.2.1
        obtain ⟨b1, e1, d1⟩ := k1 c hc ec
        obtain ⟨b2, e2, d2⟩ := k2 c hc ec
        rw [e1, e2, Option.bind_some, Option.bind_some]
        cases b1 with
        | false => rfl
        | true =>
          obtain ⟨m1, m2, m3, m4, m5⟩ := d1.1 rfl
          obtain ⟨g1, g2, g3⟩ := hg
          have f18 := F18_at (by omega) h.1.2.2 hc
          rw [ec] at f18
          obtain ⟨k, n1, n2⟩ := F20_ok s.Clear s.Channel (by omega)
          have hb : b2 = true ∨ p < less := by
            by_cases hl : less ≤ p
            · exact .inl (d2.2 ⟨m1, by omega, m3, m4, m5⟩)
            · exact .inr (by omega)
          have hk : (!c.Radar || k) = true := by
            cases hr : c.Radar with
            | false => rfl
            | true => rw [n2.2 (by rw [← ec]; exact m5 hr)]; rfl
          have hl : (b2 || bLt p less) = true := by rcases hb with q | q <;> simp [q, bLt_eq]
          have hm : bLe p c.Max = true := by simp [bLe_eq, m2]
          rw [bif_f (by rfl), f18, n1]
          rcases F19_ok s.Blocked s.Channel (by omega) with ⟨_, e3⟩ | ⟨b, q1, q2, e3⟩
          · rw [e3]
            simp only [Option.bind_some, Option.isSome_some, Bool.cond_self, need_true, gt_some, m1, hm, hk, hl]
            rfl
          · rw [e3]
            have : bLt t b.Until = false := by have := m4 b q1 (q2.trans ec.symm); simp [bLt_eq]; omega
            simp only [Option.bind_some, Option.isSome_some, Bool.cond_self, need_true, gt_some, m1, hm, hk, hl, this]
            rfl
  · rw [e]; rfl
end Go.Proofs.Ytjhkehdbjnhplaa
