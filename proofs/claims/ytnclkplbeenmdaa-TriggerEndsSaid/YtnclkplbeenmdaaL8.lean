/-
  TriggerEnds: a service period ends as it says.
-/
import Derived.Test.YtnclkplbeenmdaaCN
namespace Go.Proofs.Ytnclkplbeenmdaa
open Go.Am
set_option linter.unusedVariables false
set_option linter.unusedSimpArgs false
theorem alive_ok : F32 = some true := by kernel_rfl
theorem same0 : F31 zB zB = some true := by kernel_rfl
theorem gd_dr {α : Type} [Inhabited α] (l : List α) (i j : Nat) : gd (l.drop i) j = gd l (i + j) := by simp [gd, List.getD_eq_getElem?_getD]
theorem ends_ok (p : TTriggerPlan) (aid : Int) (L : List TFrame) (m : Bool) (ha : 1 <= aid /\ aid <= 255) (h1 : 1 <= L.length) (h2 : L.length <= 90) (hm : p.Most = 0 ∨ (L.length : Int) <= p.Most) (hk : Mk L m) :
    loopD (fun s => F8_L1 p aid true s.1 s.2.1 s.2.2) ((0 : Int), (0 : Int), TPeriod.mk aid L) = some (.inr true) := by
  obtain ⟨r, l1, l2⟩ := loop_inv (step := fun s : Int × Int × TPeriod => F8_L1 p aid true s.1 s.2.1 s.2.2) (fun s => ∃ i : Nat, s = ((i : Int), (i : Int), TPeriod.mk aid (L.drop i)) /\ i <= L.length) (fun r => r = .inr true) (fun s => (L.length + 1 - s.1).toNat)
    (fun s hI => by
      obtain ⟨i, rfl, hi⟩ := hI
      have hl : (L.drop i).length = L.length - i := List.length_drop
      have hv : Vp (TPeriod.mk aid (L.drop i)) := ⟨ha, fun j hj => by
        simp only at hj ⊢
        rw [gd_dr, (hk (i + j) (by omega)).1, hl]
        rw [decide_eq_decide]
        omega⟩
      obtain ⟨r, r1, r2⟩ := F13_ok (TPeriod.mk aid (L.drop i)) (by simp only; omega) (fun j hj => by simp only at hj ⊢; rw [gd_dr]; exact (hk _ (by omega)).2.2)
      unfold F8_L1
      simp only
      rw [bif_t (by simp only [bLt_eq, decide_eq_true_eq]; omega), r1, Option.bind_some]
      rcases r2 with ⟨h, _⟩ | ⟨_, h, rfl⟩ | ⟨_, h, rfl⟩
      · exact absurd hv h
      · simp only at h
        have hz : (L.drop i).length = 0 := by rw [h]; rfl
        rw [bif_t (by rfl)]
        refine .inl ⟨_, rfl, ?_⟩
        have e1 : bLt 0 (i : Int) = true := by simp only [bLt_eq, decide_eq_true_eq]; omega
        rw [h, e1]
        rfl
      · simp only at h
        have hz : (L.drop i).length ≠ 0 := fun q => h (List.length_eq_zero_iff.1 q)
        have hi2 : i < L.length := by omega
        rw [bif_f (by rfl)]
        simp only
        have e1 : bB (gd (L.drop i) 0).Head.Eosp (bEq (((L.drop i).drop 1).length : Nat) 0) = true := by
          rw [gd_dr, (hk (i + 0) (by omega)).1, bB_eq, bEq_eq, List.length_drop, hl]
          simp only [decide_eq_true_eq, decide_eq_decide]
          omega
        have e2 : (bLt 0 p.Most && bLt p.Most (wr .i64 ((i : Int) + 1))) = false := by
          rw [wr_add1 hi2 (by omega)]
          simp only [bLt_eq, Bool.and_eq_false_iff, decide_eq_false_iff_not]
          omega
        rw [e1, e2, bif_f (by simp [bEq_eq]), wr_add1 hi2 (by omega), List.drop_drop]
        exact .inr ⟨_, rfl, ⟨i + 1, rfl, by omega⟩, by simp only; omega⟩)
    ((0 : Int), (0 : Int), TPeriod.mk aid L) ⟨0, rfl, by omega⟩
  rw [l1, l2]
theorem law8 (b : TBuffer) (p : TTriggerPlan) (aid : Int) (x y : A6u8) (h0 : ∀ s ∈ b.List, C0 s.Held) : F8 b p aid x y = some true := by
  unfold F8
  rw [alive_ok, Option.bind_some]
  obtain ⟨g, g1, g2⟩ := great_ok b F0
  unfold F0 at g1
  rw [g1, Option.bind_some]
  cases g with
  | true => rfl
  | false =>
    obtain ⟨hg, hq, _⟩ := g2 rfl
    rw [bif_f (by rfl)]
    rcases begin_ok b p aid x y hg hq h0 with ⟨c, c0, c1⟩ | ⟨a, L, n, l, hv, hm, ha, a1, a2, a3, b1, b2, b3, b4, b5, b6, b7, b8, b9, e⟩
    · rw [c1, Option.bind_some, bif_t (by simp only [bEq_eq, Bool.not_eq_true', decide_eq_false_iff_not]; exact c0)]
      have s0 : F31 zB (TBuffer.mk 0 0 [] []) = some true := same0
      simp only [s0]
      rfl
    · rw [e, Option.bind_some, bif_f (by rfl)]
      have hh := hg.2.2 a a1
      have hL : 1 <= L.length /\ L.length <= 90 /\ (p.Most = 0 ∨ (L.length : Int) <= p.Most) := by
        rw [b8]; split <;> omega
      rw [lp_inr (ends_ok p aid L _ ha hL.1 hL.2.1 hL.2.2 b9)]
end Go.Proofs.Ytnclkplbeenmdaa
