/-
  WakeAnswers: the plain law.
-/
import Derived.Test.YtpgcekjnpieibaaV1
namespace Go.Proofs.Ytpgcekjnpieibaa
open Go.Am
set_option linter.unusedVariables false
set_option linter.unusedSimpArgs false
theorem wr0 {x : Int} (h : -9223372036854775808 ≤ x ∧ x ≤ 9223372036854776063) (e : wr .i64 x = 0) : x = 0 := by
  by_cases h1 : x ≤ 9223372036854775807
  · rwa [wr_in (by omega)] at e
  · exfalso
    obtain ⟨y, rfl⟩ : ∃ y, x = 18446744073709551616 + y := ⟨x - 18446744073709551616, by omega⟩
    have : wr .i64 (18446744073709551616 + y) = wr .i64 y := by
      unfold wr IntKind.wrap
      simp [IntKind.signed, IntKind.bits, Int.bmod]
    rw [this, wr_in (by omega)] at e
    omega
theorem half {a b : Nat} (h : a + b ≤ 100000) : wr .i64 (shrI .u64 (wr .u64 (wr .i64 ((a : Int) + b))) 1) = (((a + b) / 2 : Nat) : Int) := by
  rw [wr_in (x := (a : Int) + b) (by omega), show ((a : Int) + b) = ((a + b : Nat) : Int) from by omega]
  rw [show wr .u64 ((a + b : Nat) : Int) = ((a + b : Nat) : Int) from wrap_nat .u64 rfl (a + b) (by show a + b < 2 ^ 64; omega)]
  rw [show shrI .u64 ((a + b : Nat) : Int) 1 = (((a + b) / 2 ^ 1 : Nat) : Int) from shrI_nat .u64 (a + b) 1 (by decide), Nat.pow_one, wr_in (by omega)]
/-- The identifiers grow. -/
def Inc (l : List TWakeRule) : Prop := ∀ i : Nat, i < l.length → (0 ≤ (gd l i).Id ∧ (gd l i).Id ≤ 255) ∧ (0 < i → (gd l (i - 1)).Id < (gd l i).Id)
theorem Inc_lt {l : List TWakeRule} (h : Inc l) : ∀ j : Nat, j < l.length → ∀ i : Nat, i < j → (gd l i).Id < (gd l j).Id := by
  intro j
  induction j with
  | zero => intro _ i hi; omega
  | succ j ih =>
    intro hj i hi
    have h1 := (h (j + 1) hj).2 (by omega)
    have e : j + 1 - 1 = j := rfl
    rw [e] at h1
    rcases Nat.lt_or_eq_of_le (Nat.le_of_lt_succ hi) with h2 | rfl
    · have := ih (by omega) i h2; omega
    · exact h1
theorem find_ok (l : List TWakeRule) (id : Int) (hl : l.length ≤ 1000) (hI : Inc l) (hid : -9223372036854775808 ≤ id ∧ id ≤ 9223372036854775807) :
    ∃ (i : Nat) (b : Bool), F48_0 l id = some ((i : Int), b) ∧ i ≤ l.length ∧ (b = true → i < l.length ∧ (gd l i).Id = id) ∧
      (0 ≤ id ∧ id ≤ 255 → (∀ j : Nat, j < i → (gd l j).Id < id) ∧ (∀ j : Nat, i ≤ j → j < l.length → id ≤ (gd l j).Id) ∧ (b = false → ∀ j : Nat, j < l.length → (gd l j).Id ≠ id)) := by
  unfold F48_0
  obtain ⟨r, l1, l2⟩ := loop_inv (step := fun s : Int × Int => F48_0_L1 l id s.1 s.2) (fun s => ∃ a b : Nat, s = ((a : Int), (b : Int)) ∧ a ≤ b ∧ b ≤ l.length ∧ (0 ≤ id ∧ id ≤ 255 → (∀ j : Nat, j < a → (gd l j).Id < id) ∧ (∀ j : Nat, b ≤ j → j < l.length → id ≤ (gd l j).Id)))
    (fun r => ∃ a : Nat, r = .inl (a : Int) ∧ a ≤ l.length ∧ (0 ≤ id ∧ id ≤ 255 → (∀ j : Nat, j < a → (gd l j).Id < id) ∧ (∀ j : Nat, a ≤ j → j < l.length → id ≤ (gd l j).Id))) (fun s => (s.2 - s.1).toNat)
    (fun s hS => by
      obtain ⟨a, b, rfl, h1, h2, h3⟩ := hS
      unfold F48_0_L1 F49
      simp only
      by_cases hab : a < b
      · right
        have hm : (a + b) / 2 < l.length := by omega
        rw [bif_t (by simp [bLt_eq]; omega), half (by omega), need_true (inb_nat hm), Int.toNat_natCast, Option.bind_some]
        cases hc : bLt (wr .i64 ((gd l ((a + b) / 2)).Id - id)) 0 with
        | true =>
          rw [cond_true, wr_in (by omega)]
          refine ⟨_, rfl, ⟨(a + b) / 2 + 1, b, by simp, by omega, h2, fun hd => ⟨fun j hj => ?_, (h3 hd).2⟩⟩, by simp only; omega⟩
          have h4 := (hI _ hm).1
          rw [wr_in (by omega)] at hc
          simp [bLt_eq] at hc
          rcases Nat.lt_or_eq_of_le (Nat.le_of_lt_succ hj) with h5 | rfl
          · have := Inc_lt hI _ hm j h5; omega
          · omega
        | false =>
          rw [cond_false]
          refine ⟨_, rfl, ⟨a, (a + b) / 2, rfl, by omega, by omega, fun hd => ⟨(h3 hd).1, fun j hj hj2 => ?_⟩⟩, by simp only; omega⟩
          have h4 := (hI _ hm).1
          rw [wr_in (by omega)] at hc
          simp [bLt_eq] at hc
          rcases Nat.lt_or_eq_of_le hj with h5 | rfl
          · have := Inc_lt hI _ hj2 _ h5; omega
          · omega
      · left
        obtain rfl : a = b := by omega
        rw [bif_f (by simp [bLt_eq])]
        exact ⟨_, rfl, a, rfl, h2, h3⟩) (0, (l.length : Nat)) ⟨0, l.length, rfl, by omega, by omega, fun _ => ⟨fun j hj => by omega, fun j hj hj2 => by omega⟩⟩
  obtain ⟨a, rfl, ha, h3⟩ := l2
  rw [lp_inl l1]
  unfold F49
  simp only [Option.isSome_some, gt_some, Bool.cond_self, need_true, Int.toNat_natCast]
  by_cases hlt : a < l.length
  · have e1 : bLt (a : Int) (l.length : Nat) = true := by simp [bLt_eq]; omega
    rw [e1, inb_nat hlt]
    have h4 := (hI _ hlt).1
    refine ⟨a, _, rfl, ha, fun hb => ⟨hlt, ?_⟩, fun hd => ⟨(h3 hd).1, (h3 hd).2, fun hb j hj he => ?_⟩⟩
    · simp only [Bool.true_and, bEq_eq, decide_eq_true_eq] at hb
      have := wr0 (by omega) hb
      omega
    · simp only [Bool.true_and, bEq_eq, decide_eq_false_iff_not] at hb
      rw [wr_in (by omega)] at hb
      rcases Nat.lt_trichotomy j a with h5 | rfl | h5
      · have := (h3 hd).1 j h5; omega
      · omega
      · have := Inc_lt hI j hj a h5
        have := (h3 hd).2 a (by omega) hlt
        omega
  · have e1 : bLt (a : Int) (l.length : Nat) = false := by simp [bLt_eq]; omega
    rw [e1]
    refine ⟨a, _, rfl, ha, fun hb => by simp at hb, fun hd => ⟨(h3 hd).1, (h3 hd).2, fun hb j hj he => ?_⟩⟩
    have := (h3 hd).1 j (by omega)
    omega
theorem Inc_pw {l : List TWakeRule} (h : Inc l) : l.Pairwise fun a b => a.Id < b.Id := by
  rw [List.pairwise_iff_getElem]
  intro i j hi hj hij
  have := Inc_lt h j hj i hij
  simpa [gd, List.getD_eq_getElem?_getD, hi, hj] using this
theorem gd_get {l : List TWakeRule} {j : Nat} (h : j < l.length) : l[j] = gd l j := by simp [gd, List.getD_eq_getElem?_getD, h]
theorem add9 (t : TWakeTable) (r : TWakeRule) (hv : VT t) (hw : Vd r) : ∃ y : TWakeTable × Int, F24 t r = some y ∧ ((y.2 = 0 ∧ VT y.1 ∧ y.1.List.length = t.List.length + 1) ∨ y.2 = 20 ∨ y.2 = 22) := by
  unfold F24
  rcases F32_ok t with ⟨_, e⟩ | ⟨h, e⟩
  · rw [e]
    simp only [Option.bind_some, bEq_eq, decide_true, Bool.not_true, cond_false]
    have hI : Inc t.List := fun i hi => ⟨⟨(hv.2 i hi).1.1, (hv.2 i hi).1.2.1⟩, (hv.2 i hi).2⟩
    have hlen := hv.1
    have hid := hw.1
    have hid2 := hw.2.1
    obtain ⟨i, f, f1, f2, f3, f4⟩ := find_ok t.List r.Id (by omega) hI (by omega)
    have eF : F39 t r.Id = some ((i : Int), f) := by unfold F39; rw [f1]; rfl
    rw [eF]
    simp only [Option.bind_some]
    rcases F17_ok r with ⟨_, e2⟩ | ⟨h, e2⟩
    · rw [e2]
      simp only [Option.bind_some, decide_true, Bool.not_true, cond_false]
      have f4 := f4 ⟨hid, hid2⟩
      cases f with
      | true => exact ⟨_, rfl, .inr (.inl rfl)⟩
      | false =>
        simp only [cond_false]
        by_cases h32 : t.List.length = 32
        · rw [bif_t (by simp; omega)]
          exact ⟨_, rfl, .inr (.inr rfl)⟩
        · rw [bif_f (by simp; omega)]
          have ec : F41 t.List = some t.List := by unfold F41; rw [need_true (capb_iff.2 (by omega))]
          rw [ec]
          simp only [Option.bind_some]
          rw [need_true (insb_iff.2 (by omega))]
          have hne := f4.2.2 rfl
          have eM : insL t.List (i : Int) [r] = t.List.take i ++ (r :: t.List.drop i) := by unfold insL; rw [Int.toNat_natCast, List.append_assoc, List.singleton_append]
          have tk : ∀ x ∈ t.List.take i, x.Id < r.Id := fun x hx => by
            obtain ⟨j, hj, rfl⟩ := List.getElem_of_mem hx
            rw [List.length_take] at hj
            rw [List.getElem_take, gd_get (by omega)]
            exact f4.1 j (by omega)
          have dk : ∀ x ∈ t.List.drop i, r.Id < x.Id := fun x hx => by
            obtain ⟨j, hj, rfl⟩ := List.getElem_of_mem hx
            rw [List.length_drop] at hj
            rw [List.getElem_drop, gd_get (by omega)]
            have q1 := f4.2.1 (i + j) (by omega) (by omega)
            have q2 := hne (i + j) (by omega)
            omega
          have pw0 := Inc_pw hI
          rw [← List.take_append_drop i t.List] at pw0
          obtain ⟨pa, pb, pc⟩ := List.pairwise_append.1 pw0
          have pw : (insL t.List (i : Int) [r]).Pairwise fun a b => a.Id < b.Id := by
            rw [eM]
            refine List.pairwise_append.2 ⟨pa, List.pairwise_cons.2 ⟨dk, pb⟩, fun x hx y hy => ?_⟩
            rcases List.mem_cons.1 hy with rfl | hy
            · exact tk x hx
            · exact pc x hx y hy
          have lenM : (insL t.List (i : Int) [r]).length = t.List.length + 1 := by rw [eM]; simp; omega
          have vM : ∀ x ∈ insL t.List (i : Int) [r], Vd x := fun x hx => by
            rw [eM] at hx
            have inl : ∀ x ∈ t.List, Vd x := fun x hx => by
              obtain ⟨j, hj, rfl⟩ := List.getElem_of_mem hx
              rw [gd_get hj]; exact (hv.2 j hj).1
            rcases List.mem_append.1 hx with hx | hx
            · exact inl x (List.mem_of_mem_take hx)
            · rcases List.mem_cons.1 hx with rfl | hx
              · exact hw
              · exact inl x (List.mem_of_mem_drop hx)
          generalize insL t.List (i : Int) [r] = M at pw lenM vM
          refine ⟨_, rfl, .inl ⟨rfl, ⟨?_, fun j hj => ⟨vM _ (gd_mem hj), fun h0 => ?_⟩⟩, lenM⟩⟩
          · show M.length ≤ 32; omega
          · have := List.pairwise_iff_getElem.1 pw (j - 1) j (by have : j < M.length := hj; omega) hj (by omega)
            rwa [gd_get, gd_get] at this
    · exact absurd hw h
  · exact absurd hv h
theorem alive_ok : F16 = some true := by kernel_rfl
theorem law9 (t : TWakeTable) (r : TWakeRule) : F9 t r = some true := by
  unfold F9
  rw [alive_ok, Option.bind_some]
  by_cases hl : t.List.length ≤ 40
  · rw [bif_f (by simp [bLt_eq]; omega)]
    unfold F22
    rcases F32_ok t with ⟨hv, e⟩ | ⟨hv, e⟩
    · rw [e, Option.bind_some, bif_f (by simp [bEq])]
      rcases F17_ok r with ⟨hr, e2⟩ | ⟨hr, e2⟩
      · rw [e2, Option.bind_some, bif_f (by simp [bEq])]
        obtain ⟨x, x1, x2⟩ := F22_L t r (fun i hi => (hv.2 i hi).1) (by omega) hr
        rw [x1]
        cases x with
        | inl u => rfl
        | inr z =>
          obtain ⟨y, e3⟩ := z
          obtain ⟨k, hk, hg, _, rfl, rfl⟩ := x2
          have mb := mv_bd r hr k (by omega)
          have hr' := hr
          unfold Vd at hr'
          have m64 : (k : Int) * r.Length ≤ 64 * r.Length := Int.mul_le_mul_of_nonneg_right (by omega) (by omega)
          rw [lp_inr rfl, Option.bind_some]
          simp only
          rw [bif_f (by simp [bEq]), bif_f (by simp [bLt_eq]; omega)]
          have en : wr .i64 ((Mv r k).Start - r.Start) = (k : Int) * r.Length := by
            show wr .i64 (r.Start + k * r.Length - r.Start) = _
            rw [wr_in (by omega)]; omega
          rw [en, wr_in (x := 64 * r.Length) (by omega)]
          have c1 : bEq r.Length 0 = false := by simp [bEq]; omega
          have c2 : bLt ((k : Int) * r.Length) 0 = false := by simp [bLt_eq]; omega
          have c3 : bLt (64 * r.Length) ((k : Int) * r.Length) = false := by simp [bLt_eq]; omega
          have c4 : bEq (((k : Int) * r.Length).tmod r.Length) 0 = true := by rw [Int.mul_tmod_left]; rfl
          have c5 : (bEq (Mv r k).Id r.Id && (bEq r.Start r.Start && (bEq (Mv r k).Every r.Every && (bEq (Mv r k).Length r.Length && (bEq (Mv r k).Group r.Group))))) = true := by simp [bEq, Mv]
          simp only [c1, c2, c3, c4, c5, Bool.not_true, Bool.not_false, Bool.or_false, Bool.cond_self, need_true, cond_false]
          obtain ⟨b, l1, l2⟩ := loop_for (step := fun s => F9_L1 t (Mv r k, 0) s) t.List.length (fun _ => True) (fun b => b = .inl ()) trivial
            (fun i hi _ => by
              unfold F9_L1
              rw [bif_t (by simp [bLt_eq]; omega), need_true (inb_nat hi), Int.toNat_natCast]
              rcases F18_ok (gd t.List i) (Mv r k) with ⟨h, _⟩ | ⟨_, b, b1, b2⟩
              · exact absurd ⟨(hv.2 i hi).1, hg.1⟩ h
              · rw [b1, Option.bind_some]
                have no : ¬ Cf (gd t.List i) (Mv r k) := fun h => hg.2 ⟨i, hi, h⟩
                have : ((!bEq (0 : Int) 0) || ((b && (!bEq (gd t.List i).Id (Mv r k).Id)) && ((bEq (gd t.List i).Group 0) || (!bEq (gd t.List i).Group (Mv r k).Group)))) = false := by
                  cases b with
                  | false => rfl
                  | true =>
                    have hm := b2.1 rfl
                    unfold Cf at no
                    have : ¬ ((gd t.List i).Id ≠ (Mv r k).Id ∧ ((gd t.List i).Group = 0 ∨ (gd t.List i).Group ≠ (Mv r k).Group)) := fun h => no ⟨h, hm⟩
                    simp [bEq]
                    omega
                simp only [this, cond_false]
                rw [wr_add1 hi (by omega)]
                exact .inr ⟨rfl, trivial⟩)
            (fun _ => by
              unfold F9_L1
              rw [bif_f (by simp [bLt_eq])]
              exact ⟨_, rfl, rfl⟩)
          subst l2
          rw [lp_inl l1]
          obtain ⟨y, y1, y2⟩ := add9 t (Mv r k) hv hg.1
          simp only [y1, Option.bind_some, Bool.true_and]
          rcases F32_ok y.1 with ⟨h, e4⟩ | ⟨h, e4⟩
          · rw [e4]
            simp only [Option.isSome_some, Bool.cond_self, need_true, gt_some]
            rcases y2 with ⟨q1, q2, q3⟩ | q | q
            · rw [q1, q3, wr_in (by omega)]; simp [bEq]
            · rw [q]; simp [bEq]
            · rw [q]; simp [bEq]
          · rw [e4]
            simp only [Option.isSome_some, Bool.cond_self, need_true, gt_some]
            rcases y2 with ⟨q1, q2, q3⟩ | q | q
            · exact absurd q2 h
            · rw [q]; simp [bEq]
            · rw [q]; simp [bEq]
      · rw [e2, Option.bind_some, bif_t (by simp [bEq])]; rfl
    · rw [e, Option.bind_some, bif_t (by simp [bEq])]; rfl
  · rw [bif_t (by simp [bLt_eq]; omega)]
end Go.Proofs.Ytpgcekjnpieibaa
