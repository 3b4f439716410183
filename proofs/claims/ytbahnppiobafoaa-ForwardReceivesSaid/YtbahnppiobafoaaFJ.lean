/-
  Forward: the law of receiving.
-/
import Derived.Test.YtbahnppiobafoaaFI
namespace Go.Proofs.Ytbahnppiobafoaa
open Go.Am
set_option linter.unusedVariables false
set_option linter.unusedSimpArgs false
theorem law4 (s : TForward) (m o : TMeshFrame) (hs : Fw s) (hm : Fb m) (ho : Fb o) : F4 s m o = some true := by
  unfold F4 F10
  simp only [eta_A6u8, eta_TForward, eta_TMeshFrame, eta_TForwardMark, Option.bind_some, Option.isSome_some, Bool.cond_self, need_true, gt_some]
  by_cases hl : (s.Seen.length ≤ 140 ∧ s.Nexts.length ≤ 80) ∧ m.Data.length ≤ 2400 ∧ o.Data.length ≤ 2400
  · obtain ⟨⟨h1, h2⟩, h3, h4⟩ := hl
    rw [bif_f (by simp only [bLt_eq, Bool.or_eq_false_iff, decide_eq_false_iff_not]; omega), F19_ok s (by omega) (by omega), F11_ok m h3]
    obtain ⟨v, e1, e2, r1, r2, r3⟩ := rec_eq s m hs hm h1 h2 h3
    obtain ⟨c, c1, c2⟩ := same_eq m o hm.2.2.2.2.2.2 ho.2.2.2.2.2.2 h3
    simp only [Option.bind_some, eta_A6u8, eta_TForward, eta_TMeshFrame]
    rw [e1, e2]
    simp only [Option.bind_some, eta_A6u8, eta_TForward, eta_TMeshFrame]
    rw [F22_refl v.1 r1 r2, F17_refl v.2.2.1 r3, c1, c2, touch_ok v.1 v.2.2.1 r1 r2 r3, F22_refl s (by omega) (by omega), F17_refl m (by omega)]
    have s1 : ∀ z : Int, bEq z z = true := fun z => by simp [bEq_eq]
    have s2 : ∀ z : Bool, bB z z = true := fun z => by cases z <;> rfl
    rcases F23_ok m hm with ⟨w, f⟩ | ⟨w, f⟩ <;> rcases F24_ok m hm with ⟨w', f'⟩ | ⟨w', f'⟩
    · rw [f, f']; simp only [s1, s2, Option.bind_some, gt_some, Option.isSome_some, Bool.and_self, cond_true, need_true]
    · exact absurd w w'
    · exact absurd w' w
    · rw [f, f']; simp only [s1, s2, Option.bind_some, gt_some, Option.isSome_some, Bool.and_self, cond_true, need_true]
  · rw [bif_t (by simp only [bLt_eq, Bool.or_eq_true, decide_eq_true_eq]; omega)]
end Go.Proofs.Ytbahnppiobafoaa
