/-
  Regulate: the reference's functions.
-/
import Derived.Test.YtjhkehdbjnhplaaQ7E
namespace Go.Proofs.Ytjhkehdbjnhplaa
open Go.Am
set_option linter.unusedVariables false
set_option linter.unusedSimpArgs false
theorem F66_ok (s : TRegulate) (c : TRegulateChannel) (t : Int) (hg : Gr s) (rb : Rb s.Blocked) : ∃ b, F66 s c t = some b /\ (b = true ↔ Fr s.Blocked s.Clear c t) := by
  obtain ⟨g1, g2, g3⟩ := hg
  obtain ⟨k, k1, k2⟩ := F20_ok s.Clear c.Number (by omega)
  unfold F66
  rcases F19_ok s.Blocked c.Number (by omega) with ⟨h, e⟩ | ⟨b, h1, h2, e⟩
  · rw [e, k1]
    simp only [Option.bind_some, Option.isSome_some, Bool.cond_self, need_true, gt_some, Bool.false_and, Bool.not_false, Bool.true_and]
    refine ⟨_, rfl, ?_⟩
    unfold Fr
    rw [← k2]
    have : ∀ b ∈ s.Blocked, b.Channel = c.Number -> b.Until <= t := fun b hb e => absurd e (h b hb)
    cases c.Radar <;> simp <;> first | exact this | exact fun _ => this
  · rw [e, k1]
    simp only [Option.bind_some, Option.isSome_some, Bool.cond_self, need_true, gt_some, Bool.true_and]
    refine ⟨_, rfl, ?_⟩
    unfold Fr
    rw [← k2]
    have : (∀ b ∈ s.Blocked, b.Channel = c.Number -> b.Until <= t) ↔ b.Until <= t := ⟨fun h => h b h1 h2, fun h q hq e => by rw [key_inj (k := fun q : TRegulateBlock => q.Channel) rb hq h1 (e.trans h2.symm)]; exact h⟩
    rw [this]
    cases c.Radar <;> simp [bLt_eq]
theorem F65_ok (s : TRegulate) (t : Int) (hg : Gr s) (rb : Rb s.Blocked) : F65 s t = some (usL s.Table s.Channel s.Blocked s.Clear t) := by
  unfold F65
  have := run_gen (step := fun e => F65_L1 s t e.1 e.2) s.Table.length (fun i => (((s.Table.take i).filter (usP s.Channel s.Blocked s.Clear t)).map (fun c => c.Number), (i : Int))) (usL s.Table s.Channel s.Blocked s.Clear t) (fun i hi => by
      show F65_L1 s t _ i = _
      unfold F65_L1
      rw [bif_t (c := bLt _ _) (by simp [bLt_eq]; omega), need_true (inb_nat hi), Int.toNat_natCast, wr_add1 hi (by have := hg.1; omega), us_step _ s.Table hi]
      obtain ⟨b, b1, b2⟩ := F66_ok s (gd s.Table i) t hg rb
      rw [b1, inb_nat hi]
      simp only [Option.isSome_some, Bool.cond_self, need_true, gt_some]
      have hp : (!bEq (gd s.Table i).Number s.Channel && b) = usP s.Channel s.Blocked s.Clear t (gd s.Table i) := by
        unfold usP
        rw [Bool.eq_iff_iff]
        simp [bEq_eq, b2]
      rw [hp]
      cases usP s.Channel s.Blocked s.Clear t (gd s.Table i) with
      | true =>
        have hl := fm_len (usP s.Channel s.Blocked s.Clear t) s.Table i
        have hq : capb 8 ((((s.Table.take i).filter (usP s.Channel s.Blocked s.Clear t)).map (fun c => c.Number)).length + 1) = true := by
          have := hg.1
          generalize (((s.Table.take i).filter (usP s.Channel s.Blocked s.Clear t)).map (fun c => c.Number)).length = z at hl
          exact capb_iff.2 (by omega)
        rw [hq]; rfl
      | false => rfl)
    (by
      show F65_L1 s t _ _ = _
      unfold F65_L1
      rw [bif_f (by simp [bLt_eq]), List.take_length]; rfl)
  have key : ∀ x, x = ((((s.Table.take 0).filter (usP s.Channel s.Blocked s.Clear t)).map (fun c => c.Number)), ((0 : Nat) : Int)) -> loopD (fun e => F65_L1 s t e.1 e.2) x = some (.inl (usL s.Table s.Channel s.Blocked s.Clear t)) := fun x hx => by subst hx; exact this
  exact lp_inl (key _ (by simp))
end Go.Proofs.Ytjhkehdbjnhplaa
