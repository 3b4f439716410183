/-
  Service periods: what is next.
-/
import Derived.Test.YtnclkplbeenmdaaCG
namespace Go.Proofs.Ytnclkplbeenmdaa
open Go.Am
set_option linter.unusedVariables false
set_option linter.unusedSimpArgs false
theorem F44_ok (f : TFrame) (h : f.Body.length <= 2400) : F44 f = some f := by
  unfold F44
  rw [nd_cap (by omega) (by omega)]
  rfl
theorem F44_0_ok (f : TFrame) (h : f.Body.length <= 2400) : F44_0 f = some f := by
  unfold F44_0
  rw [nd_cap (by omega) (by omega)]
  rfl
def Vp (p : TPeriod) : Prop := (1 <= p.Aid /\ p.Aid <= 255) /\ ∀ i : Nat, i < p.Left.length -> (gd p.Left i).Head.Eosp = decide (i + 1 = p.Left.length)
theorem eos {b : Bool} {x y : Int} {n : Nat} {i : Nat} (h : (x = y) = (i + 1 = n)) : (!bB b (bEq x y)) = !decide (b = decide (i + 1 = n)) := by
  rw [bB_eq, bEq_eq]
  simp only [h]
theorem F22_ok (p : TPeriod) (hl : p.Left.length <= 100) : (Vp p /\ F22 p = some 0) ∨ (¬ Vp p /\ F22 p = some 8) := by
  unfold F22
  by_cases ha : 1 <= p.Aid /\ p.Aid <= 255
  · rw [bif_f (by simp [bLt_eq]; omega)]
    rcases chk_gen (step := fun s => F22_L1 p s) (R := Int) p.Left.length (fun i => (gd p.Left i).Head.Eosp = decide (i + 1 = p.Left.length)) 8 () (fun i hi => by
        show (_ /\ F22_L1 p i = _) ∨ (_ /\ F22_L1 p i = _)
        unfold F22_L1
        rw [bif_t (by simp [bLt_eq]; omega), need_true (inb_nat hi), Int.toNat_natCast, wr_add1 hi (by omega), eos (n := p.Left.length) (i := i) (by simp only [Int.natCast_inj])]
        by_cases h : (gd p.Left i).Head.Eosp = decide (i + 1 = p.Left.length)
        · exact .inl ⟨h, by rw [bif_f (by simp [h])]⟩
        · exact .inr ⟨h, by rw [bif_t (by simp [h])]⟩)
      (by show F22_L1 p _ = _; unfold F22_L1; rw [bif_f (by simp [bLt_eq])]) with ⟨h1, h2⟩ | ⟨h1, h2⟩
    · rw [lp_inl h2]; exact .inl ⟨⟨ha, h1⟩, rfl⟩
    · rw [lp_inr h2]; exact .inr ⟨fun h => h1 h.2, rfl⟩
  · rw [bif_t (by simp [bLt_eq]; omega)]
    exact .inr ⟨fun h => ha h.1, rfl⟩
def F0 : TFrame := TFrame.mk (THeader.mk 0 0 false false false false false false false 0 (A6u8.mk 0 0 0 0 0 0) (A6u8.mk 0 0 0 0 0 0) (A6u8.mk 0 0 0 0 0 0) (A6u8.mk 0 0 0 0 0 0) 0 0 0 0 false false) []
def Nx (p : TPeriod) (r : TFrame × TPeriod × Int) : Prop := (¬ Vp p /\ r = (F0, TPeriod.mk 0 [], 8)) ∨ (Vp p /\ p.Left = [] /\ r = (F0, TPeriod.mk 0 [], 6)) ∨ (Vp p /\ p.Left ≠ [] /\ r = (gd p.Left 0, TPeriod.mk p.Aid (p.Left.drop 1), 0))
theorem F13_ok (p : TPeriod) (hl : p.Left.length <= 100) (hb : ∀ i : Nat, i < p.Left.length -> Fq (gd p.Left i)) : ∃ r, F13 p = some r /\ Nx p r := by
  unfold F13
  rcases F22_ok p hl with ⟨h1, h2⟩ | ⟨h1, h2⟩
  · rw [h2, Option.bind_some, bif_f (by rfl)]
    cases hn : p.Left with
    | nil => rw [bif_t (by rfl)]; exact ⟨_, rfl, .inr (.inl ⟨h1, hn, rfl⟩)⟩
    | cons a l =>
      rw [← hn]
      have hpos : 0 < p.Left.length := by rw [hn]; simp
      rw [bif_f (by simp [bEq_eq, hn]; omega), need_true (slb_iff.2 (by omega))]
      have gdd : ∀ i, gd (p.Left.drop 1) i = gd p.Left (i + 1) := fun i => by simp [gd, List.getD_eq_getElem?_getD, Nat.add_comm]
      have l1 := run_gen (step := fun s => F13_L1 p s.1 s.2) (R := TFrame × TPeriod × Int) (p.Left.length - 1) (fun i => ((i : Int), (p.Left.drop 1).take i)) (p.Left.drop 1) (fun i hi => by
          show F13_L1 p i ((p.Left.drop 1).take i) = _
          unfold F13_L1
          rw [bif_t (by simp [bLt_eq]; omega), need_true (inb_nat hi), Int.toNat_natCast]
          have hf := F44_0_ok (gd (p.Left.drop 1) i) (by rw [gdd]; exact hb _ (by omega))
          have hlt : ((p.Left.drop 1).take i).length = i := by simp; omega
          rw [show F44_0 _ = _ from hf, Option.bind_some, nd_cap (by omega) (by omega), wr_add1 hi (by omega), ← take_snoc (by simp; omega)])
        (by show F13_L1 p _ _ = _; unfold F13_L1; rw [bif_f (by simp [bLt_eq]), List.take_of_length_le (by simp)])
      replace l1 : loopD (fun s => F13_L1 p s.1 s.2) ((0 : Int), ([] : List TFrame)) = some (.inl (p.Left.drop 1)) := by simpa using l1
      rw [lp_inl l1, need_true (inb_0 hpos)]
      rw [show F44 _ = _ from F44_ok (gd p.Left 0) (hb 0 hpos), Option.bind_some]
      exact ⟨_, rfl, .inr (.inr ⟨h1, fun h => (by rw [hn] at h; cases h), rfl⟩)⟩
  · rw [h2, Option.bind_some, bif_t (by rfl)]
    exact ⟨_, rfl, .inl ⟨h1, rfl⟩⟩
end Go.Proofs.Ytnclkplbeenmdaa
