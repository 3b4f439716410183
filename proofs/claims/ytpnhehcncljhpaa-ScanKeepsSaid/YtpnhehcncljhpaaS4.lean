/-
  Learning: what Learn gives (tables of at most 63 candidates).
-/
import Derived.Test.YtpnhehcncljhpaaS2
namespace Go.Proofs.Ytpnhehcncljhpaa
open Go.Am
set_option linter.unusedVariables false
set_option linter.unusedSimpArgs false
/-- The bytes of elements are bytes. -/
def By (l : List TElement) : Prop := ∀ x ∈ l, ∀ q ∈ x.Data, 0 ≤ q ∧ q ≤ 255
theorem F32_ok (l : List TElement) (id : Int) (hl : l.length ≤ 1000) (hb : By l) : ∃ d b, F32 l id = some (d, b) ∧ ∀ q ∈ d, 0 ≤ q ∧ q ≤ 255 := by
  have key : ∃ k : Int, F51_0 l id = some k ∧ (k = -1 ∨ (0 ≤ k ∧ k < l.length)) := by
    unfold F51_0
    obtain ⟨b, l1, l2⟩ := loop_for (step := fun s => F51_0_L1 l id s) l.length (fun _ => True) (fun b => match b with | .inl _ => True | .inr k => 0 ≤ k ∧ k < l.length) trivial
      (fun i hi _ => by
        unfold F51_0_L1 F52_0
        rw [bif_t (by simp [bLt_eq]; omega), need_true (inb_nat hi), Option.bind_some]
        cases hb : bEq ((gd l ((i : Int)).toNat).Id) id with
        | true => exact .inl ⟨_, rfl, by simp only; omega⟩
        | false => rw [cond_false, wr_add1 hi (by omega)]; exact .inr ⟨rfl, trivial⟩)
      (fun _ => by
        unfold F51_0_L1
        rw [bif_f (by simp [bLt_eq])]
        exact ⟨_, rfl, trivial⟩)
    cases b with
    | inl u => exact ⟨_, lp_inl l1, .inl rfl⟩
    | inr k => exact ⟨_, lp_inr l1, .inr l2⟩
  obtain ⟨k, e, h⟩ := key
  unfold F32
  rw [e, Option.bind_some]
  rcases h with rfl | ⟨h1, h2⟩
  · rw [bif_t (by simp [bLt_eq])]
    exact ⟨_, _, rfl, by simp⟩
  · obtain ⟨n, rfl⟩ := Int.eq_ofNat_of_zero_le h1
    have hn : n < l.length := by omega
    rw [bif_f (by simp [bLt_eq]), need_true (inb_nat hn), Int.toNat_natCast]
    exact ⟨_, _, rfl, hb _ (gd_mem hn)⟩
theorem bytesC_size (n : Nat) (c : Nat → Nat → AV) : (bytesC n c).size = n := by simp [bytesC, ByteArray.size]
theorem read_ok (c : TCandidate) (b : TBeacon) (hl : b.Elems.length ≤ 1000) (hb : By b.Elems) (hi : 0 ≤ b.Interval ∧ b.Interval ≤ 65535) (hc : Vc c) : ∃ r : Bool × TCandidate, F35_0 c b = some r ∧
    (r.1 = true → r.2.Addr = c.Addr ∧ r.2.Channel = c.Channel ∧ r.2.Level = c.Level ∧ r.2.Heard = c.Heard ∧ r.2.Interval = b.Interval ∧ Vc r.2) := by
  obtain ⟨d0, b0, e0, h0⟩ := F32_ok b.Elems 0 hl hb
  obtain ⟨d1, b1, e1, h1⟩ := F32_ok b.Elems 11 hl hb
  obtain ⟨d2, b2, e2, h2⟩ := F32_ok b.Elems 48 hl hb
  unfold F35_0
  rw [e0, e1, e2]
  simp only [Option.bind_some]
  cases hh : (((bEq b.Interval 0) || (bLt 32 (d0.length : Nat))) || (b1 && (!bEq (d1.length : Nat) 1))) with
  | true => exact ⟨_, rfl, fun h => by cases h⟩
  | false =>
    simp only [Bool.or_eq_false_iff, bEq_eq, bLt_eq, decide_eq_false_iff_not] at hh
    obtain ⟨⟨i1, i2⟩, i3⟩ := hh
    have hu : u8b d0.length (enR c_u8 d0) = true := by rw [u8b_enR (f := c_u8) (fun _ => rfl), u8A_iff]; exact h0
    unfold Vc at hc
    rw [cond_false, need_true hu, wr_in (x := b.Interval) (by omega)]
    cases b1 with
    | true =>
      have hd : d1.length = 1 := by simp at i3; omega
      have hg := h1 (gd d1 0) (gd_mem (by omega))
      rw [cond_true, need_true (inb_iff.2 (by omega)), wr_in (x := gd d1 0) (by omega)]
      refine ⟨_, rfl, fun _ => ⟨rfl, rfl, rfl, rfl, rfl, hc.1, hc.2.1, hg, hc.2.2.2.1, ⟨by simp only; omega, by simp only; omega⟩, ?_⟩⟩
      simp only [bytesC_size]; omega
    | false =>
      rw [cond_false]
      refine ⟨_, rfl, fun _ => ⟨rfl, rfl, rfl, rfl, rfl, hc.1, hc.2.1, hc.2.2.1, hc.2.2.2.1, ⟨by simp only; omega, by simp only; omega⟩, ?_⟩⟩
      simp only [bytesC_size]; omega
theorem half {a b : Nat} (h : a + b ≤ 100000) : wr .i64 (shrI .u64 (wr .u64 (wr .i64 ((a : Int) + b))) 1) = (((a + b) / 2 : Nat) : Int) := by
  rw [wr_in (x := (a : Int) + b) (by omega), show ((a : Int) + b) = ((a + b : Nat) : Int) from by omega]
  rw [show wr .u64 ((a + b : Nat) : Int) = ((a + b : Nat) : Int) from wrap_nat .u64 rfl (a + b) (by show a + b < 2 ^ 64; omega)]
  rw [show shrI .u64 ((a + b : Nat) : Int) 1 = (((a + b) / 2 ^ 1 : Nat) : Int) from shrI_nat .u64 (a + b) 1 (by decide), Nat.pow_one, wr_in (by omega)]
/-- The place of an address. -/
theorem search_ok (t : TCandidates) (a : A6u8) (hv : Vt t) (hb : Abs t) (ha : Ab a) : ∃ i : Nat, F37_0 (t.List.length : Nat) t.List a = some (i : Int) ∧ i ≤ t.List.length ∧
    (∀ j : Nat, j < i → nA (gd t.List j).Addr < nA a) ∧ (∀ j : Nat, i ≤ j → j < t.List.length → nA a ≤ nA (gd t.List j).Addr) := by
  have hl := hv.1
  unfold F37_0
  obtain ⟨r, l1, l2⟩ := loop_inv (step := fun s : Int × Int => F37_0_L1 t.List a s.1 s.2) (fun s => ∃ x y : Nat, s = ((x : Int), (y : Int)) ∧ x ≤ y ∧ y ≤ t.List.length ∧ (∀ j : Nat, j < x → nA (gd t.List j).Addr < nA a) ∧ (∀ j : Nat, y ≤ j → j < t.List.length → nA a ≤ nA (gd t.List j).Addr))
    (fun r => ∃ x : Nat, r = .inl (x : Int) ∧ x ≤ t.List.length ∧ (∀ j : Nat, j < x → nA (gd t.List j).Addr < nA a) ∧ (∀ j : Nat, x ≤ j → j < t.List.length → nA a ≤ nA (gd t.List j).Addr)) (fun s => (s.2 - s.1).toNat)
    (fun s hS => by
      obtain ⟨x, y, rfl, h1, h2, h3, h4⟩ := hS
      unfold F37_0_L1 F38_0
      simp only
      by_cases hxy : x < y
      · right
        have hm : (x + y) / 2 < t.List.length := by omega
        obtain ⟨k, k1, k2, k3⟩ := F39_ok (gd t.List ((x + y) / 2)).Addr a (hb _ hm) ha
        rw [bif_t (by simp [bLt_eq]; omega), half (by omega), need_true (inb_nat hm), Int.toNat_natCast, k1]
        simp only [Option.bind_some]
        by_cases hk : k < 0
        · have e : bLe 0 k = false := by simp [bLe_eq]; omega
          rw [e, Bool.not_false, cond_true, wr_in (by omega)]
          refine ⟨_, rfl, ⟨(x + y) / 2 + 1, y, by simp, by omega, h2, fun j hj => ?_, h4⟩, by simp only; omega⟩
          have q := k2 hk
          rcases Nat.lt_or_eq_of_le (Nat.le_of_lt_succ hj) with h5 | rfl
          · have := Vt_lt hv _ hm j h5; omega
          · exact q
        · have e : bLe 0 k = true := by simp [bLe_eq]; omega
          rw [e, Bool.not_true, cond_false]
          refine ⟨_, rfl, ⟨x, (x + y) / 2, rfl, by omega, by omega, h3, fun j hj hj2 => ?_⟩, by simp only; omega⟩
          have q : nA a ≤ nA (gd t.List ((x + y) / 2)).Addr := by
            rcases Int.lt_or_le (nA (gd t.List ((x + y) / 2)).Addr) (nA a) with h | h
            · exact absurd (k3 h) hk
            · exact h
          rcases Nat.lt_or_eq_of_le hj with h5 | rfl
          · have := Vt_lt hv _ hj2 _ h5; omega
          · exact q
      · left
        obtain rfl : x = y := by omega
        rw [bif_f (by simp [bLt_eq])]
        exact ⟨_, rfl, x, rfl, h2, h3, h4⟩) (0, (t.List.length : Nat)) ⟨0, t.List.length, rfl, by omega, by omega, fun j hj => by omega, fun j hj hj2 => by omega⟩
  obtain ⟨x, rfl, h⟩ := l2
  exact ⟨x, lp_inl l1, h⟩
end Go.Proofs.Ytpnhehcncljhpaa
