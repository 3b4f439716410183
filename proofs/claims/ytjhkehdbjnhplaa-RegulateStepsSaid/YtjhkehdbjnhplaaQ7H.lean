/-
  Regulate: equal states; the reference's results; the law of states.
-/
import Derived.Test.YtjhkehdbjnhplaaQ7G
namespace Go.Proofs.Ytjhkehdbjnhplaa
open Go.Am
set_option linter.unusedVariables false
set_option linter.unusedSimpArgs false
theorem F24_ok (s : TRegulate) (hg : Gr s) : F24 s = some s := by
  obtain ⟨g1, g2, g3⟩ := hg
  unfold F24
  rw [need_true (capb_iff.2 (by omega)), need_true (capb_iff.2 (by omega)), need_true (capb_iff.2 (by omega))]
  simp only [List.nil_append]
theorem F31_refl (a : TRegulate) (hg : Gr a) : F31 a a = some true := by
  obtain ⟨g1, g2, g3⟩ := hg
  have l1 := run_gen (step := fun i => F31_L1 a a i) a.Table.length (fun i => (i : Int)) () (fun i hi => by
      show F31_L1 a a i = _
      unfold F31_L1
      rw [bif_t (c := bLt _ _) (by simp [bLt_eq]; omega), need_true (inb_nat hi), need_true (inb_nat hi), Int.toNat_natCast, wr_add1 hi (by omega), bif_f (by simp [bEq_eq, bB_eq])])
    (by show F31_L1 a a _ = _; unfold F31_L1; rw [bif_f (by simp [bLt_eq])])
  have l2 := run_gen (step := fun i => F31_L2 a a i) a.Blocked.length (fun i => (i : Int)) () (fun i hi => by
      show F31_L2 a a i = _
      unfold F31_L2
      rw [bif_t (c := bLt _ _) (by simp [bLt_eq]; omega), need_true (inb_nat hi), need_true (inb_nat hi), Int.toNat_natCast, wr_add1 hi (by omega), bif_f (by simp [bEq_eq, bB_eq])])
    (by show F31_L2 a a _ = _; unfold F31_L2; rw [bif_f (by simp [bLt_eq])])
  have l3 := run_gen (step := fun i => F31_L3 a a i) a.Clear.length (fun i => (i : Int)) () (fun i hi => by
      show F31_L3 a a i = _
      unfold F31_L3
      rw [bif_t (c := bLt _ _) (by simp [bLt_eq]; omega), need_true (inb_nat hi), need_true (inb_nat hi), Int.toNat_natCast, wr_add1 hi (by omega), bif_f (by simp [bEq_eq, bB_eq])])
    (by show F31_L3 a a _ = _; unfold F31_L3; rw [bif_f (by simp [bLt_eq])])
  have l1' : loopD (fun i => F31_L1 a a i) 0 = some (.inl ()) := l1
  have l2' : loopD (fun i => F31_L2 a a i) 0 = some (.inl ()) := l2
  have l3' : loopD (fun i => F31_L3 a a i) 0 = some (.inl ()) := l3
  unfold F31
  rw [bif_f (by simp [bEq_eq]), lp_inl l1', lp_inl l2', lp_inl l3']
  simp [bEq_eq, bB_eq]
theorem F64_ok (s : TRegulate) (t p : Int) (hg : Gr s) : (¬ Vs s /\ F64 s t p = some 8) ∨ (Vs s /\ ¬ (Mo t /\ 0 <= p) /\ F64 s t p = some 2) ∨ (Vs s /\ Mo t /\ 0 <= p /\ F64 s t p = some 0) := by
  obtain ⟨b, e, i⟩ := F34_ok s hg
  obtain ⟨m, e2, i2⟩ := F63_ok t
  unfold F64
  rw [e, e2, Option.bind_some, Option.bind_some]
  cases b with
  | false => exact .inl ⟨fun h => (by have := i.2 h; cases this), rfl⟩
  | true =>
    refine .inr ?_
    cases m with
    | false => exact .inl ⟨i.1 rfl, fun h => (by have := i2.2 h.1; cases this), rfl⟩
    | true =>
      by_cases hp : 0 <= p
      · exact .inr ⟨i.1 rfl, i2.1 rfl, hp, by rw [bif_f (by rfl), bif_f (by simp [bLt_eq]; omega)]⟩
      · exact .inl ⟨i.1 rfl, fun h => hp h.2, by rw [bif_f (by rfl), bif_t (by simp [bLt_eq]; omega)]⟩
end Go.Proofs.Ytjhkehdbjnhplaa
