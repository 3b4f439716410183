/-
  TriggerUntil: until nothing is left to deliver.
-/
import Derived.Test.YtnclkplbeenmdaaCG
namespace Go.Proofs.Ytnclkplbeenmdaa
open Go.Am
set_option linter.unusedVariables false
set_option linter.unusedSimpArgs false
theorem find_ok (b : TBuffer) (aid : Int) (hn : b.List.length ≤ 1000) : (∃ a : Nat, a < b.List.length ∧ (gd b.List a).Aid = aid ∧ (∀ j : Nat, j < a → (gd b.List j).Aid ≠ aid) ∧ F33 b aid = some (a : Int)) ∨ (∀ a : Nat, a < b.List.length → (gd b.List a).Aid ≠ aid) ∧ F33 b aid = some (-1) := by
  unfold F33
  obtain ⟨r, l1, l2⟩ := loop_for (step := fun s => F33_L1 b aid s) b.List.length (fun n => ∀ j : Nat, j < n → (gd b.List j).Aid ≠ aid)
    (fun r => match r with | .inl _ => ∀ j : Nat, j < b.List.length → (gd b.List j).Aid ≠ aid | .inr x => ∃ k : Nat, x = (k : Int) ∧ k < b.List.length ∧ (gd b.List k).Aid = aid ∧ ∀ j : Nat, j < k → (gd b.List j).Aid ≠ aid) (fun i hi => by omega)
    (fun i hi hI => by
      unfold F33_L1
      rw [bif_t (by simp [bLt_eq]; omega), need_true (inb_nat hi), Int.toNat_natCast]
      by_cases hc : (gd b.List i).Aid = aid
      · rw [bif_t (by simp [bEq_eq, hc])]
        exact .inl ⟨_, rfl, i, rfl, hi, hc, hI⟩
      · rw [bif_f (by simp [bEq_eq, hc]), wr_add1 hi (by omega)]
        refine .inr ⟨rfl, fun j hj => ?_⟩
        rcases Nat.lt_or_eq_of_le (Nat.le_of_lt_succ hj) with h | rfl
        · exact hI j h
        · exact hc)
    (fun hI => by
      unfold F33_L1
      rw [bif_f (by simp [bLt_eq])]
      exact ⟨_, rfl, hI⟩)
  cases r with
  | inl u => exact .inr ⟨l2, lp_inl l1⟩
  | inr x => obtain ⟨k, rfl, k1, k2, k3⟩ := l2; exact .inl ⟨k, k1, k2, k3, lp_inr l1⟩
theorem alive_ok : F32 = some true := by kernel_rfl
/-! ### Counting -/
theorem bit_ex (d c : Int) (hc : 0 ≤ c ∧ c ≤ 255) : ∃ v, F36 d c = some v := by
  unfold F36
  obtain ⟨n, rfl⟩ := Int.eq_ofNat_of_zero_le hc.1
  obtain ⟨r, l1, v, rfl⟩ := loop_inv (step := fun s : Int × Int => F36_L1 (n : Int) s.1 s.2) (fun s => ∃ i : Nat, s.2 = (i : Int) ∧ i ≤ n) (fun r => ∃ v : Int, r = .inl v) (fun s => (n - s.2).toNat)
    (fun s hI => by
      obtain ⟨v, x⟩ := s
      obtain ⟨i, h1, h2⟩ := hI
      simp only at h1
      subst h1
      unfold F36_L1
      simp only
      by_cases hi : i < n
      · rw [bif_t (by simp only [bLt_eq, decide_eq_true_eq]; omega), show wr .u8 ((i : Int) + 1) = ((i + 1 : Nat) : Int) from wr_u8 (by omega)]
        exact .inr ⟨_, rfl, ⟨i + 1, rfl, by omega⟩, by simp only; omega⟩
      · rw [bif_f (by simp only [bLt_eq, decide_eq_false_iff_not]; omega)]
        exact .inl ⟨_, rfl, v, rfl⟩)
    (d, (0 : Int)) ⟨0, rfl, by omega⟩
  exact ⟨_, lp_inl l1⟩
def bitA (d c : Int) : Bool := bEq (andI .u8 (shrI .u8 d c) 1) 1
theorem bits : ((List.range 16).all fun a => (List.range 4).all fun b => F36 (a : Int) (b : Int) == some (bitA (a : Int) (b : Int))) = true := by kernel_rfl
theorem bit_ok (d c : Int) (hd : 0 ≤ d ∧ d ≤ 15) (hc : 0 ≤ c ∧ c ≤ 3) : F36 d c = some (bitA d c) := by
  obtain ⟨a, rfl⟩ := Int.eq_ofNat_of_zero_le hd.1
  obtain ⟨b, rfl⟩ := Int.eq_ofNat_of_zero_le hc.1
  have h1 := List.all_eq_true.1 bits a (List.mem_range.2 (by omega))
  have h2 := List.all_eq_true.1 h1 b (List.mem_range.2 (by omega))
  exact eq_of_beq h2
theorem cnt_snoc (d : Int) (l : List TStored) (q : TStored) : cnt d (l ++ [q]) = cnt d l + (if Tl d q = true then 1 else 0) := by
  unfold cnt
  rw [List.filter_append, List.length_append]
  simp only [List.filter_cons, List.filter_nil]
  split <;> rfl
theorem count_ok (d : Int) (l : List TStored) (hn : l.length ≤ 1000) (hc : ∀ q ∈ l, 0 ≤ q.Cat ∧ q.Cat ≤ 255) : ∃ k, F35 l d = some k ∧ ((0 ≤ d ∧ d ≤ 15) → (∀ i : Nat, i < l.length → (gd l i).Cat ≤ 3) → k = (cnt d l : Int)) := by
  unfold F35
  obtain ⟨r, l1, l2⟩ := loop_inv (step := fun s : Int × Int => F35_L1 l d s.1 s.2) (fun s => ∃ i : Nat, s.2 = (i : Int) ∧ i ≤ l.length ∧ ((0 ≤ d ∧ d ≤ 15) → (∀ i : Nat, i < l.length → (gd l i).Cat ≤ 3) → s.1 = (cnt d (l.take i) : Int)))
    (fun r => ∃ k : Int, r = .inl k ∧ ((0 ≤ d ∧ d ≤ 15) → (∀ i : Nat, i < l.length → (gd l i).Cat ≤ 3) → k = (cnt d l : Int))) (fun s => (l.length - s.2).toNat)
    (fun s hI => by
      obtain ⟨k, x⟩ := s
      obtain ⟨i, h1, h2, h3⟩ := hI
      simp only at h1 h3
      subst h1
      unfold F35_L1
      simp only
      by_cases hi : i < l.length
      · have hq := hc _ (gd_mem hi)
        obtain ⟨v, v1⟩ := bit_ex d (gd l i).Cat hq
        rw [bif_t (by simp only [bLt_eq, decide_eq_true_eq]; omega), need_true (inb_nat hi), Int.toNat_natCast, v1, Option.bind_some, wr_add1 hi (by omega)]
        have hle : cnt d (l.take i) ≤ i := Nat.le_trans (cnt_le _ _) (by simp; omega)
        have hv : (0 ≤ d ∧ d ≤ 15) → (∀ i : Nat, i < l.length → (gd l i).Cat ≤ 3) → v = Tl d (gd l i) := fun a1 a2 => by
          rw [bit_ok d _ a1 ⟨hq.1, a2 i hi⟩] at v1
          exact (Option.some.inj v1).symm
        cases v with
        | true =>
          rw [cond_true]
          refine .inr ⟨_, rfl, ⟨i + 1, rfl, by omega, fun a1 a2 => ?_⟩, by simp only; omega⟩
          simp only
          rw [h3 a1 a2, take_snoc hi, cnt_snoc, ← hv a1 a2, if_pos rfl, wr_in (by omega)]
          rfl
        | false =>
          rw [cond_false]
          refine .inr ⟨_, rfl, ⟨i + 1, rfl, by omega, fun a1 a2 => ?_⟩, by simp only; omega⟩
          simp only
          rw [h3 a1 a2, take_snoc hi, cnt_snoc, ← hv a1 a2]
          rfl
      · obtain rfl : i = l.length := by omega
        rw [bif_f (by simp only [bLt_eq, decide_eq_false_iff_not]; omega)]
        exact .inl ⟨_, rfl, k, rfl, fun a1 a2 => by rw [h3 a1 a2, List.take_length]⟩)
    ((0 : Int), (0 : Int)) ⟨0, rfl, by omega, fun _ _ => rfl⟩
  obtain ⟨k, rfl, l2⟩ := l2
  exact ⟨k, lp_inl l1, l2⟩
/-! ### Again and again -/
theorem st_self {b : TBuffer} {a : Nat} (h : (gd b.List a).Asleep = true) : stB b a true (gd b.List a).Held = b := by
  unfold stB
  rw [← h, set_gd]
theorem st_st {b : TBuffer} {a : Nat} {h l : List TStored} (ha : a < b.List.length) : stB (stB b a true h) a true l = stB b a true l := by
  have e := st_at (b := b) (s := true) (h := h) ha
  unfold stB at e ⊢
  simp only at e ⊢
  rw [e, List.set_set]
theorem more_ok (r : TPeriod × TBuffer × Int) (m : Bool) (h1 : 1 ≤ r.1.Left.length) (h2 : r.1.Left.length ≤ 90) (hk : Mk r.1.Left m) : loopD (fun s => F7_L2 r s) (0 : Int) = some (.inl ()) := by
  have l1 := run_gen (step := fun s => F7_L2 r s) (R := Bool) (r.1.Left.length - 1) (fun i => (i : Int)) () (fun i hi => by
      show F7_L2 r i = _
      unfold F7_L2
      rw [wr_in (x := (r.1.Left.length : Int) - 1) (by omega), bif_t (by simp only [bLt_eq, decide_eq_true_eq]; omega), need_true (inb_nat (by omega)), Int.toNat_natCast, bif_f (by rw [(hk i (by omega)).2.1, decide_eq_true (show i + 1 < r.1.Left.length by omega)]; rfl), wr_add1 hi (by omega)])
    (by show F7_L2 r _ = _; unfold F7_L2; rw [wr_in (x := (r.1.Left.length : Int) - 1) (by omega), bif_f (by simp only [bLt_eq, decide_eq_false_iff_not]; omega)])
  simpa using l1
theorem until_ok (b : TBuffer) (p : TTriggerPlan) (aid : Int) (x y : A6u8) (a : Nat) (K : Int) (hg : Ng b) (hq : Bq b) (h0 : ∀ s ∈ b.List, C0 s.Held) (hb : Gd b p aid) (ha : a < b.List.length) (hs : (gd b.List a).Asleep = true) (hA : (gd b.List a).Aid = aid) (hK : K = (cnt p.Deliver (gd b.List a).Held : Int)) :
    loopD (fun s => F7_L1 b p aid x y true (a : Int) K s.1 s.2.1 s.2.2) ((0 : Int), (0 : Int), b) = some (.inr true) := by
  have hh := hg.2.2 a ha
  have hv := hb.1
  have hcl := cnt_le p.Deliver (gd b.List a).Held
  obtain ⟨r, l1, l2⟩ := loop_inv (step := fun s : Int × Int × TBuffer => F7_L1 b p aid x y true (a : Int) K s.1 s.2.1 s.2.2)
    (fun s => ∃ (t i : Nat) (h : List TStored), s.1 = (t : Int) ∧ s.2.1 = (i : Int) ∧ s.2.2 = stB b a true h ∧ t + h.length = (gd b.List a).Held.length ∧ t + cnt p.Deliver h = cnt p.Deliver (gd b.List a).Held ∧ i ≤ t ∧ (0 < cnt p.Deliver h ∨ t = 0) ∧ Qu h b.Limit 3 ∧ Sq h ∧ C0 h)
    (fun r => r = .inr true) (fun s => (1000 - s.2.1).toNat)
    (fun s hI => by
      obtain ⟨v1, v2, bn⟩ := s
      obtain ⟨t, i, h, e1, e2, e3, b1, b2, b3, b4, b5, b6, b7⟩ := hI
      simp only at e1 e2 e3
      subst e1 e2 e3
      have hgn := st_ng (s := true) (h := h) ha hg (by omega)
      have hqn := st_bq (s := true) (h := h) ha hq b6
      have hvn := st_vb ha hv hs b5
      have hcn : ∀ s ∈ (stB b a true h).List, C0 s.Held := fun s hm => by
        obtain ⟨j, hj, rfl⟩ := mem_gd hm
        by_cases e : j = a
        · subst e; rw [st_at ha]; exact b7
        · rw [st_ne e]; rw [st_len] at hj; exact h0 _ (gd_mem hj)
      have hgd : Gd (stB b a true h) p aid := ⟨hvn, hb.2.1, hb.2.2.1, a, by rw [st_len]; exact ha, by rw [st_aid ha]; exact hA, by rw [st_at ha]⟩
      unfold F7_L1
      rw [bif_t (by simp only [bLe_eq, decide_eq_true_eq]; omega)]
      rcases begin_ok (stB b a true h) p aid x y hgn hqn hcn with ⟨c, _, c0, _⟩ | ⟨a', L, n, l, _, hm, ha', a1, a2, a3, d1, d2, d3, d4, d5, d6, d7, d8, d9, e⟩
      · exact absurd hgd c0
      · rw [st_len] at a1
        rw [st_aid ha] at a2
        obtain rfl := aid_inj hv a1 ha (by rw [a2, hA])
        rw [st_at ha] at d1 d2
        simp only at d1 d2
        rw [e, Option.bind_some, bif_f (by rfl)]
        simp only
        have hL : 1 ≤ L.length ∧ L.length ≤ 90 := by rw [d8]; split <;> omega
        rw [bif_f (by simp only [bEq_eq, decide_eq_false_iff_not]; omega), lp_inl (more_ok (TPeriod.mk aid L, stB (stB b a' true h) a' true l, 0) _ hL.1 hL.2 d9), st_st ha]
        have hlast := (d9 (L.length - 1) (by omega)).2.1
        rw [decide_eq_false (show ¬ L.length - 1 + 1 < L.length by omega), Bool.false_or] at hlast
        have hlen : bLe ((stB b a' true l).List.length : Nat) (a' : Int) = false := by
          rw [st_len]; simp only [bLe_eq, decide_eq_false_iff_not]; omega
        have hheld : (gd (stB b a' true l).List ((a' : Int)).toNat).Held = l := by rw [Int.toNat_natCast, st_at ha]
        have ia : inb (a' : Int) (stB b a' true l).List.length = true := inb_nat (by rw [st_len]; exact ha)
        have hw : wr .i64 ((L.length - 1 : Nat) : Int) = ((L.length - 1 : Nat) : Int) := wr_in (by omega)
        simp only [show (L.length : Int) - 1 = ((L.length - 1 : Nat) : Int) by omega, hw, Int.toNat_natCast, hlast, hlen, cond_false, inb_nat (show L.length - 1 < L.length by omega), need_true, ia]
        by_cases hz : 0 < K
        · rw [bif_t (by simp only [bLt_eq, decide_eq_true_eq]; exact hz)]
          have hn : 1 ≤ n := by
            rcases Nat.eq_zero_or_pos n with h | h
            · have := d7 h; omega
            · exact h
          have eL : L.length = n := by rw [d8, if_neg (by omega)]
          have ew : wr .i64 ((t : Int) + (L.length : Nat)) = ((t + n : Nat) : Int) := by rw [wr_in (by omega)]; omega
          rw [ew]
          by_cases hc : 0 < cnt p.Deliver l
          · rw [decide_eq_true hc, bif_f (by rfl), wr_in (x := (i : Int) + 1) (by omega)]
            exact .inr ⟨_, rfl, ⟨t + n, i + 1, l, rfl, rfl, rfl, by omega, by omega, by omega, .inl hc, d3, d4, d5⟩, by simp only; omega⟩
          · rw [decide_eq_false hc, bif_t (by rfl), need_true (by cases bEq ((t + n : Nat) : Int) K <;> rfl)]
            refine .inl ⟨_, rfl, ?_⟩
            rw [wr_in (by omega), st_at ha]
            simp only [bEq_eq, Bool.true_and]
            rw [decide_eq_true (show ((t + n : Nat) : Int) = K by omega), decide_eq_true (show ((l.length : Nat) : Int) = ((gd b.List a').Held.length : Int) - K by omega)]
            rfl
        · rw [bif_f (by simp only [bLt_eq, decide_eq_false_iff_not]; exact hz)]
          have hc : ¬ 0 < cnt p.Deliver l := by omega
          rw [decide_eq_false hc, bif_t (by rfl), need_true (by cases bEq (t : Int) K <;> rfl)]
          refine .inl ⟨_, rfl, ?_⟩
          rw [wr_in (by omega), st_at ha]
          simp only [bEq_eq, Bool.true_and]
          rw [decide_eq_true (show (t : Int) = K by omega), decide_eq_true (show ((l.length : Nat) : Int) = ((gd b.List a').Held.length : Int) - K by omega)]
          rfl)
    ((0 : Int), (0 : Int), b) ⟨0, 0, (gd b.List a).Held, rfl, rfl, (st_self hs).symm, by omega, by omega, by omega, .inr rfl, (hv.1.2 a ha).2.2.1, hq.2 _ (gd_mem ha), h0 _ (gd_mem ha)⟩
  rw [l1, l2]
theorem law7 (b : TBuffer) (p : TTriggerPlan) (aid : Int) (x y : A6u8) (h0 : ∀ s ∈ b.List, ∀ q ∈ s.Held, 0 ≤ q.Cat ∧ q.Cat ≤ 255) (hp : 0 ≤ p.Deliver) : F7 b p aid x y = some true := by
  unfold F7
  rw [alive_ok, Option.bind_some]
  obtain ⟨g, g1, g2⟩ := great_ok b (TFrame.mk (THeader.mk 0 0 false false false false false false false 0 (A6u8.mk 0 0 0 0 0 0) (A6u8.mk 0 0 0 0 0 0) (A6u8.mk 0 0 0 0 0 0) (A6u8.mk 0 0 0 0 0 0) 0 0 0 0 false false) [])
  rw [g1, Option.bind_some]
  cases g with
  | true => rfl
  | false =>
    obtain ⟨hg, hq, _⟩ := g2 rfl
    have hl := hg.1
    rw [bif_f (by rfl)]
    rcases find_ok b aid (by omega) with ⟨a, b1, b2, _, b3⟩ | ⟨b1, b3⟩
    · rw [b3, Option.bind_some, bif_f (by simp only [bLt_eq, decide_eq_false_iff_not]; omega), need_true (inb_nat b1)]
      obtain ⟨K, k1, k2⟩ := count_ok p.Deliver (gd b.List a).Held (by have := hg.2.2 a b1; omega) (h0 _ (gd_mem b1))
      rw [Int.toNat_natCast, k1, Option.bind_some, need_true (inb_nat b1)]
      have hC : ∀ s ∈ b.List, C0 s.Held := fun s hs q hq => (h0 s hs q hq).1
      rcases begin_ok b p aid x y hg hq hC with ⟨c, c0, _, c1⟩ | ⟨a', L, n, l, hG, hm, ha', a1, a2, a3, _⟩
      · have l1 : loopD (fun s => F7_L1 b p aid x y true (a : Int) K s.1 s.2.1 s.2.2) ((0 : Int), (0 : Int), b) = some (.inr true) := by
          refine loopD_done ?_
          unfold F7_L1
          simp only
          rw [bif_t (by rfl), c1, Option.bind_some, bif_t (by simp only [bEq_eq, Bool.not_eq_true', decide_eq_false_iff_not]; exact c0)]
          rfl
        rw [lp_inr l1]
      · obtain rfl := aid_inj hG.1 a1 b1 (by rw [a2, b2])
        rw [lp_inr (until_ok b p aid x y a' K hg hq hC hG a1 a3 a2 (k2 ⟨hp, hG.2.1.1.1.2⟩ fun i hi => ((hG.1.1.2 a' a1).2.2.1.2 i hi).1))]
    · rw [b3, Option.bind_some, bif_t (by rfl)]
end Go.Proofs.Ytnclkplbeenmdaa
