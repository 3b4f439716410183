/-
  Forward: frames told by bytes; the law of bytes.
-/
import Derived.Test.YtbahnppiobafoaaFA
namespace Go.Proofs.Ytbahnppiobafoaa
open Go.Am
set_option linter.unusedVariables false
set_option linter.unusedSimpArgs false
theorem or_sq {a b : Int} (ha : 0 ≤ a ∧ a ≤ 255) (hb : 0 ≤ b ∧ b ≤ 255) : orI .i64 (wr .i64 a) (shlI .i64 (wr .i64 b) 8) = a + 256 * b := by
  obtain ⟨m, rfl⟩ := Int.eq_ofNat_of_zero_le ha.1
  obtain ⟨n, rfl⟩ := Int.eq_ofNat_of_zero_le hb.1
  rw [wr_in (by omega), wr_in (by omega)]
  have hs : shlI .i64 (n : Int) 8 = ((256 * n : Nat) : Int) := by
    unfold shlI
    rw [show ((8 : Int)) = ((8 : Nat) : Int) from rfl, Int.toNat_natCast, Nat.min_eq_left (by decide), show ((n : Int) * 2 ^ 8) = ((256 * n : Nat) : Int) from by omega]
    exact wr_in (x := ((256 * n : Nat) : Int)) (by omega)
  rw [hs]
  unfold orI
  rw [BitVec.toNat_or, ofInt_nat .i64 m (by show m < 2 ^ 64; omega), ofInt_nat .i64 (256 * n) (by show 256 * n < 2 ^ 64; omega)]
  have h2 : m ||| 256 * n = m + 256 * n := by
    have := Nat.two_pow_add_eq_or_of_lt (i := 8) (b := m) (by omega) n
    rw [Nat.or_comm, show 256 * n = 2 ^ 8 * n from rfl, ← this]; omega
  rw [h2]
  have := wr_in (x := ((m + 256 * n : Nat) : Int)) (by omega)
  unfold wr at this
  rw [this]; omega
def at6 (l : List Int) (k : Nat) : A6u8 := ⟨gd l k, gd l (k + 1), gd l (k + 2), gd l (k + 3), gd l (k + 4), gd l (k + 5)⟩
def sqn (l : List Int) : Int := gd l 2 + 256 * gd l 3
def dec0 (l : List Int) : TMeshFrame := ⟨at6 l 4, at6 l 10, at6 l 16, at6 l 22, at6 l 16, at6 l 22, sqn l, gd l 1, l.drop 28⟩
def dec1 (l : List Int) : TMeshFrame := ⟨at6 l 4, at6 l 10, at6 l 16, at6 l 22, at6 l 28, at6 l 34, sqn l, gd l 1, l.drop 40⟩
theorem drop_gd {l : List Int} {k : Nat} (h : k < l.length) : l.drop k = gd l k :: l.drop (k + 1) := by rw [List.drop_eq_getElem_cons h, gd_at h]
theorem list28 (l : List Int) (h : 28 ≤ l.length) : l = gd l 0 :: gd l 1 :: gd l 2 :: gd l 3 :: (ad (at6 l 4) ++ (ad (at6 l 10) ++ (ad (at6 l 16) ++ (ad (at6 l 22) ++ l.drop 28)))) := by
  have h0 : l.drop 0 = gd l 0 :: gd l 1 :: gd l 2 :: gd l 3 :: (ad (at6 l 4) ++ (ad (at6 l 10) ++ (ad (at6 l 16) ++ (ad (at6 l 22) ++ l.drop 28)))) := by
    rw [drop_gd (k := 0) (by omega), drop_gd (k := 0 + 1) (by omega), drop_gd (k := 0 + 1 + 1) (by omega), drop_gd (k := 0 + 1 + 1 + 1) (by omega)]
    simp only [Nat.reduceAdd]
    rw [drop_gd (k := 4) (by omega), drop_gd (k := 4 + 1) (by omega), drop_gd (k := 4 + 1 + 1) (by omega), drop_gd (k := 4 + 1 + 1 + 1) (by omega), drop_gd (k := 4 + 1 + 1 + 1 + 1) (by omega), drop_gd (k := 4 + 1 + 1 + 1 + 1 + 1) (by omega)]
    simp only [Nat.reduceAdd]
    rw [drop_gd (k := 10) (by omega), drop_gd (k := 10 + 1) (by omega), drop_gd (k := 10 + 1 + 1) (by omega), drop_gd (k := 10 + 1 + 1 + 1) (by omega), drop_gd (k := 10 + 1 + 1 + 1 + 1) (by omega), drop_gd (k := 10 + 1 + 1 + 1 + 1 + 1) (by omega)]
    simp only [Nat.reduceAdd]
    rw [drop_gd (k := 16) (by omega), drop_gd (k := 16 + 1) (by omega), drop_gd (k := 16 + 1 + 1) (by omega), drop_gd (k := 16 + 1 + 1 + 1) (by omega), drop_gd (k := 16 + 1 + 1 + 1 + 1) (by omega), drop_gd (k := 16 + 1 + 1 + 1 + 1 + 1) (by omega)]
    simp only [Nat.reduceAdd]
    rw [drop_gd (k := 22) (by omega), drop_gd (k := 22 + 1) (by omega), drop_gd (k := 22 + 1 + 1) (by omega), drop_gd (k := 22 + 1 + 1 + 1) (by omega), drop_gd (k := 22 + 1 + 1 + 1 + 1) (by omega), drop_gd (k := 22 + 1 + 1 + 1 + 1 + 1) (by omega)]
    rfl
  exact h0
theorem list40 (l : List Int) (h : 40 ≤ l.length) : l.drop 28 = ad (at6 l 28) ++ (ad (at6 l 34) ++ l.drop 40) := by
  rw [drop_gd (k := 28) (by omega), drop_gd (k := 28 + 1) (by omega), drop_gd (k := 28 + 1 + 1) (by omega), drop_gd (k := 28 + 1 + 1 + 1) (by omega), drop_gd (k := 28 + 1 + 1 + 1 + 1) (by omega), drop_gd (k := 28 + 1 + 1 + 1 + 1 + 1) (by omega)]
  simp only [Nat.reduceAdd]
  rw [drop_gd (k := 34) (by omega), drop_gd (k := 34 + 1) (by omega), drop_gd (k := 34 + 1 + 1) (by omega), drop_gd (k := 34 + 1 + 1 + 1) (by omega), drop_gd (k := 34 + 1 + 1 + 1 + 1) (by omega), drop_gd (k := 34 + 1 + 1 + 1 + 1 + 1) (by omega)]
  rfl
theorem By_gd {l : List Int} (h : By l) {k : Nat} (hk : k < l.length) : 0 ≤ gd l k ∧ gd l k ≤ 255 := h _ (gd_mem hk)
theorem Ab_at {l : List Int} (h : By l) {k : Nat} (hk : k + 5 < l.length) : Ab (at6 l k) := ⟨By_gd h (by omega), By_gd h (by omega), By_gd h (by omega), By_gd h (by omega), By_gd h (by omega), By_gd h (by omega)⟩
theorem Fb0 {l : List Int} (h : By l) (hl : 28 ≤ l.length) : Fb (dec0 l) := ⟨Ab_at h (by omega), Ab_at h (by omega), Ab_at h (by omega), Ab_at h (by omega), Ab_at h (by omega), Ab_at h (by omega), fun q hq => h q (List.mem_of_mem_drop hq)⟩
theorem Fb1 {l : List Int} (h : By l) (hl : 40 ≤ l.length) : Fb (dec1 l) := ⟨Ab_at h (by omega), Ab_at h (by omega), Ab_at h (by omega), Ab_at h (by omega), Ab_at h (by omega), Ab_at h (by omega), fun q hq => h q (List.mem_of_mem_drop hq)⟩
theorem six0 (l : List Int) : six (dec0 l) = false := by
  unfold six dec0
  rw [ae_iff.2 rfl, ae_iff.2 rfl]; rfl
theorem enc0 {l : List Int} (h : By l) (hl : 28 ≤ l.length) (h0 : gd l 0 = 0) : enc (dec0 l) = l := by
  have b2 := By_gd h (k := 2) (by omega)
  have b3 := By_gd h (k := 3) (by omega)
  unfold enc
  rw [six0, cond_false]
  conv => rhs; rw [list28 l hl, h0]
  show 0 :: gd l 1 :: sqn l % 256 :: sqn l / 256 :: _ = _
  rw [show sqn l % 256 = gd l 2 from by unfold sqn; omega, show sqn l / 256 = gd l 3 from by unfold sqn; omega]
  rfl
theorem enc1 {l : List Int} (h : By l) (hl : 40 ≤ l.length) (h0 : gd l 0 = 1) (hs : six (dec1 l) = true) : enc (dec1 l) = l := by
  have b2 := By_gd h (k := 2) (by omega)
  have b3 := By_gd h (k := 3) (by omega)
  unfold enc
  rw [hs, cond_true]
  conv => rhs; rw [list28 l (by omega), h0, list40 l hl]
  show 1 :: gd l 1 :: sqn l % 256 :: sqn l / 256 :: _ = _
  rw [show sqn l % 256 = gd l 2 from by unfold sqn; omega, show sqn l / 256 = gd l 3 from by unfold sqn; omega]
  rfl
theorem enc1_no {l : List Int} (h0 : gd l 0 = 1) (hs : six (dec1 l) = false) : enc (dec1 l) ≠ l := by
  intro e
  unfold enc at e
  rw [hs, cond_false] at e
  rw [← e] at h0
  cases h0
def Z : TMeshFrame := ⟨⟨0, 0, 0, 0, 0, 0⟩, ⟨0, 0, 0, 0, 0, 0⟩, ⟨0, 0, 0, 0, 0, 0⟩, ⟨0, 0, 0, 0, 0, 0⟩, ⟨0, 0, 0, 0, 0, 0⟩, ⟨0, 0, 0, 0, 0, 0⟩, 0, 0, []⟩
theorem F37_ok (l : List Int) (k : Nat) (h : l.length ≤ 2400) : F37 (deR g_u8 (l.length - k) (enR c_u8 (l.drop k))) = some (l.drop k) := by
  rw [← List.length_drop, de_u8]
  have hl : (l.drop k).length = l.length - k := List.length_drop ..
  unfold F37
  simp (disch := omega) only [nd_cap]
/-- What Decode answers. -/
inductive Dc (l : List Int) : TMeshFrame × Int → Prop
  | short (h : l.length < 28 ∨ (gd l 0 = 1 ∧ l.length < 40)) : Dc l (Z, 10)
  | bad (h : 28 ≤ l.length) (h1 : gd l 0 = 1 → 40 ≤ l.length) (h2 : 1 < gd l 0 ∨ (gd l 0 = 0 ∧ ¬ Vm (dec0 l)) ∨ (gd l 0 = 1 ∧ (six (dec1 l) = false ∨ ¬ Vm (dec1 l)))) : Dc l (Z, 12)
  | zero (h : 28 ≤ l.length) (h0 : gd l 0 = 0) (hv : Vm (dec0 l)) : Dc l (dec0 l, 0)
  | one (h : 40 ≤ l.length) (h0 : gd l 0 = 1) (hs : six (dec1 l) = true) (hv : Vm (dec1 l)) : Dc l (dec1 l, 0)
theorem F14_ok (l : List Int) (h : By l) (hl : l.length ≤ 2400) : ∃ r, F14 l = some r ∧ Dc l r := by
  unfold F14
  by_cases h0l : l.length = 0
  · rw [show bLt 0 (l.length : Int) = false from by simp [bLt_eq, h0l]]
    simp only [cond_false, need_true, Bool.false_and]
    rw [bif_t (c := bLt (l.length : Int) 28) (by simp [bLt_eq]; omega)]
    exact ⟨_, rfl, .short (.inl (by omega))⟩
  · rw [show bLt 0 (l.length : Int) = true from by simp [bLt_eq]; omega]
    simp only [cond_true, Bool.true_and]
    rw [nd_inb (by omega) (by omega)]
    have b0 := By_gd h (k := 0) (by omega)
    by_cases h1 : gd l 0 = 1
    · rw [bif_t (c := bEq (gd l 0) 1) (by simp [bEq_eq, h1])]
      by_cases h40 : l.length < 40
      · rw [bif_t (c := bLt _ _) (by simp [bLt_eq]; omega)]
        exact ⟨_, rfl, .short (.inr ⟨h1, h40⟩)⟩
      · rw [bif_f (c := bLt (l.length : Int) 40) (by simp [bLt_eq]; omega)]
        have b1 := By_gd h (k := 1) (by omega)
        have b2 := By_gd h (k := 2) (by omega)
        have b3 := By_gd h (k := 3) (by omega)
        simp (disch := omega) only [nd_inb, nd_slb, nd_cap, nd_dec]
        rw [F37_ok l 40 hl, Option.bind_some, or_sq b2 b3, wr_in (x := gd l 1) (by omega)]
        simp only [gd_drop, Nat.reduceAdd]
        have hd : (⟨⟨gd l 4, gd l 5, gd l 6, gd l 7, gd l 8, gd l 9⟩, ⟨gd l 10, gd l 11, gd l 12, gd l 13, gd l 14, gd l 15⟩, ⟨gd l 16, gd l 17, gd l 18, gd l 19, gd l 20, gd l 21⟩, ⟨gd l 22, gd l 23, gd l 24, gd l 25, gd l 26, gd l 27⟩, ⟨gd l 28, gd l 29, gd l 30, gd l 31, gd l 32, gd l 33⟩, ⟨gd l 34, gd l 35, gd l 36, gd l 37, gd l 38, gd l 39⟩, gd l 2 + 256 * gd l 3, gd l 1, l.drop 40⟩ : TMeshFrame) = dec1 l := rfl
        have hA : (bEq (gd l 28) (gd l 16) && (bEq (gd l 29) (gd l 17) && (bEq (gd l 30) (gd l 18) && (bEq (gd l 31) (gd l 19) && (bEq (gd l 32) (gd l 20) && (bEq (gd l 33) (gd l 21))))))) = ae (dec1 l).Source (dec1 l).Enter := rfl
        have hB : (bEq (gd l 34) (gd l 22) && (bEq (gd l 35) (gd l 23) && (bEq (gd l 36) (gd l 24) && (bEq (gd l 37) (gd l 25) && (bEq (gd l 38) (gd l 26) && (bEq (gd l 39) (gd l 27))))))) = ae (dec1 l).Target (dec1 l).Leave := rfl
        simp only [hd, hA, hB]
        have hs6 : six (dec1 l) = (!(ae (dec1 l).Source (dec1 l).Enter && ae (dec1 l).Target (dec1 l).Leave)) := by
          unfold six; cases ae (dec1 l).Source (dec1 l).Enter <;> cases ae (dec1 l).Target (dec1 l).Leave <;> rfl
        rw [show bLt 1 (gd l 0) = false from by simp [bLt_eq]; omega]
        rcases F23_ok (dec1 l) (Fb1 h (by omega)) with ⟨hv, e⟩ | ⟨hv, e⟩
        · rw [e]
          simp only [Option.isSome_some, Bool.cond_self, need_true, gt_some]
          cases hs : (ae (dec1 l).Source (dec1 l).Enter && ae (dec1 l).Target (dec1 l).Leave) with
          | true => exact ⟨_, rfl, .bad (by omega) (fun _ => by omega) (.inr (.inr ⟨h1, .inl (by rw [hs6, hs]; rfl)⟩))⟩
          | false => exact ⟨_, rfl, .one (by omega) h1 (by rw [hs6, hs]; rfl) hv⟩
        · rw [e]
          simp only [Option.isSome_some, Bool.cond_self, need_true, gt_some]
          refine ⟨(Z, 12), bif_t ?_, .bad (by omega) (fun _ => by omega) (.inr (.inr ⟨h1, .inr hv⟩))⟩
          cases (ae (dec1 l).Source (dec1 l).Enter && ae (dec1 l).Target (dec1 l).Leave) <;> rfl
    · rw [bif_f (c := bEq (gd l 0) 1) (by simp [bEq_eq, h1])]
      by_cases h28 : l.length < 28
      · rw [bif_t (c := bLt _ _) (by simp [bLt_eq]; omega)]
        exact ⟨_, rfl, .short (.inl h28)⟩
      · rw [bif_f (c := bLt (l.length : Int) 28) (by simp [bLt_eq]; omega)]
        have b1 := By_gd h (k := 1) (by omega)
        have b2 := By_gd h (k := 2) (by omega)
        have b3 := By_gd h (k := 3) (by omega)
        simp (disch := omega) only [nd_inb, nd_slb, nd_cap, nd_dec]
        rw [F37_ok l 28 hl, Option.bind_some, or_sq b2 b3, wr_in (x := gd l 1) (by omega)]
        simp only [gd_drop, Nat.reduceAdd]
        have hd : (⟨⟨gd l 4, gd l 5, gd l 6, gd l 7, gd l 8, gd l 9⟩, ⟨gd l 10, gd l 11, gd l 12, gd l 13, gd l 14, gd l 15⟩, ⟨gd l 16, gd l 17, gd l 18, gd l 19, gd l 20, gd l 21⟩, ⟨gd l 22, gd l 23, gd l 24, gd l 25, gd l 26, gd l 27⟩, ⟨gd l 16, gd l 17, gd l 18, gd l 19, gd l 20, gd l 21⟩, ⟨gd l 22, gd l 23, gd l 24, gd l 25, gd l 26, gd l 27⟩, gd l 2 + 256 * gd l 3, gd l 1, l.drop 28⟩ : TMeshFrame) = dec0 l := rfl
        simp only [hd]
        rcases F23_ok (dec0 l) (Fb0 h (by omega)) with ⟨hv, e⟩ | ⟨hv, e⟩
        · rw [e]
          simp only [Option.isSome_some, Bool.cond_self, need_true, gt_some]
          by_cases hb : 1 < gd l 0
          · rw [show bLt 1 (gd l 0) = true from by simp [bLt_eq, hb]]
            exact ⟨_, rfl, .bad (by omega) (fun q => absurd q h1) (.inl hb)⟩
          · rw [show bLt 1 (gd l 0) = false from by simp [bLt_eq]; omega]
            exact ⟨_, rfl, .zero (by omega) (by omega) hv⟩
        · rw [e]
          simp only [Option.isSome_some, Bool.cond_self, need_true, gt_some]
          refine ⟨(Z, 12), bif_t ?_, .bad (by omega) (fun q => absurd q h1) ?_⟩
          · cases bLt 1 (gd l 0) <;> rfl
          · by_cases hb : 1 < gd l 0
            · exact .inl hb
            · exact .inr (.inl ⟨by omega, hv⟩)
theorem Dc_uniq {l : List Int} {r s : TMeshFrame × Int} (hr : Dc l r) (hs : Dc l s) : r = s := by
  cases hr <;> cases hs <;> first | rfl | omega | (exfalso; rename_i a b c d e f; first | omega | skip) | skip
  all_goals (exfalso; simp_all <;> omega)
end Go.Proofs.Ytbahnppiobafoaa
