/-
  Forward: the reference's checks and bytes.
-/
import Derived.Test.YtbahnppiobafoaaFA
namespace Go.Proofs.Ytbahnppiobafoaa
open Go.Am
set_option linter.unusedVariables false
set_option linter.unusedSimpArgs false
theorem F45_ok {a : A6u8} (h : Ab a) : F45 a = some (grp a) := by
  unfold F45 grp
  rw [Int.tmod_eq_emod_of_nonneg h.1.1, bEq_eq]
theorem F24_ok (m : TMeshFrame) (h : Fb m) : (Vm m ∧ F24 m = some 0) ∨ (¬ Vm m ∧ F24 m = some 8) := by
  obtain ⟨h1, h2, h3, h4, h5, h6, h7⟩ := h
  unfold F24
  rw [F45_ok h1, F45_ok h2, F45_ok h3, F45_ok h4]
  simp only [Option.bind_some, Option.isSome_some, gt_some, Bool.cond_self, need_true]
  by_cases hv : Vm m
  · refine .inl ⟨hv, ?_⟩
    obtain ⟨v1, v2, v3, v4, v5, v6⟩ := hv
    rw [v1, v2, v3, bif_f (by cases grp m.Leave <;> rfl), bif_f (by
      simp only [bLe_eq, bLt_eq, Bool.or_eq_false_iff, decide_eq_false_iff_not]; omega)]
  · refine .inr ⟨hv, ?_⟩
    unfold Vm at hv
    by_cases hs : (0 ≤ m.Seq ∧ m.Seq < 65536) ∧ (1 ≤ m.Ttl ∧ m.Ttl ≤ 31) ∧ m.Data.length ≤ 2264
    · rw [bif_t]
      cases g1 : grp m.From <;> cases g2 : grp m.Enter <;> cases g3 : grp m.To <;> cases g4 : grp m.Leave <;> simp [g1, g2, g3, g4, hs] at hv ⊢
    · rw [bif_t (c := ((((bLt m.Seq 0) || (bLe 65536 m.Seq)) || (bLt m.Ttl 1)) || (bLt 31 m.Ttl)) || (bLt 2264 (m.Data.length : Nat))) (by
        simp only [bLe_eq, bLt_eq, Bool.or_eq_true, decide_eq_true_eq]; omega)]
      cases (((grp m.From || grp m.Enter) || (grp m.To && !grp m.Leave)) || (!grp m.To && grp m.Leave)) <;> rfl
/-- Equal frames. -/
theorem F17_refl (m : TMeshFrame) (hl : m.Data.length ≤ 10000) : F17 m m = some true := by
  obtain ⟨c, c1, c2⟩ := F16_ok m.Data m.Data hl
  unfold F17
  rw [c1, c2.2 rfl, need_true (by simp), gt_some]
  simp [bEq_eq]
end Go.Proofs.Ytbahnppiobafoaa
