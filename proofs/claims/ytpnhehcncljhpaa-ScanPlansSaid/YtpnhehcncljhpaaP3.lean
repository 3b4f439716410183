/-
  ScanPlans: what the functions answer.
-/
import Derived.Test.YtpnhehcncljhpaaY3
namespace Go.Proofs.Ytpnhehcncljhpaa
open Go.Am
set_option linter.unusedVariables false
set_option linter.unusedSimpArgs false
theorem F13_same (l : List TVisit) (hl : l.length < 4611686018427387904) : F13 l l = some true := by
  unfold F13
  rw [bif_f (by simp [bEq])]
  obtain ⟨b, l1, l2⟩ := loop_for (step := fun s => F13_L1 l l s) l.length (fun _ => True) (fun b => b = .inl ()) trivial
    (fun i hi _ => by
      unfold F13_L1
      rw [bif_t (by simp [bLt_eq]; omega), need_true (inb_nat hi), need_true (inb_nat hi), bif_f (by simp [bEq, bB_eq]), wr_add1 hi hl]
      exact .inr ⟨rfl, trivial⟩)
    (fun _ => by
      unfold F13_L1
      rw [bif_f (by simp [bLt_eq])]
      exact ⟨_, rfl, rfl⟩)
  subst l2
  rw [lp_inl l1]
/-- The channels are in range. -/
def Ch (c : List Int) : Prop := ∀ i : Nat, i < c.length → 1 ≤ gd c i ∧ gd c i ≤ 64
theorem F30_ok (c : List Int) (hc : c.length ≤ 1000) : (Ch c ∧ F30_0 c = some false) ∨ (¬ Ch c ∧ F30_0 c = some true) := by
  obtain ⟨b, l1, l2⟩ := loop_for (step := fun s => F50_0_L1 c s) c.length (fun n => ∀ i : Nat, i < n → 1 ≤ gd c i ∧ gd c i ≤ 64) (fun b => match b with | .inl _ => Ch c | .inr k => 0 ≤ k ∧ ¬ Ch c) (fun i hi => by omega)
    (fun i hi hI => by
      unfold F50_0_L1 F28 F29
      rw [bif_t (by simp [bLt_eq]; omega), need_true (inb_nat hi), Int.toNat_natCast]
      simp only [Option.bind_some]
      by_cases h : 1 ≤ gd c i ∧ gd c i ≤ 64
      · rw [bif_f (by simp [bLe_eq, h.1, h.2]), wr_add1 hi (by omega)]
        refine .inr ⟨rfl, fun j hj => ?_⟩
        rcases Nat.lt_or_eq_of_le (Nat.le_of_lt_succ hj) with hj | rfl
        · exact hI j hj
        · exact h
      · rw [bif_t (by simp [bLe_eq]; omega)]
        exact .inl ⟨_, rfl, by omega, fun hh => h (hh i hi)⟩)
    (fun hI => by
      unfold F50_0_L1
      rw [bif_f (by simp [bLt_eq])]
      exact ⟨_, rfl, hI⟩)
  unfold F30_0 F50_0
  cases b with
  | inl u => left; rw [lp_inl l1]; exact ⟨l2, by simp [bLe_eq]⟩
  | inr k => right; rw [lp_inr l1]; exact ⟨l2.2, by simp [bLe_eq, l2.1]⟩
theorem F11_L1_ok (c : List Int) (hc : c.length ≤ 1000) : (Ch c ∧ loopD (fun s => F11_L1 c s) 0 = some (.inl ())) ∨ (¬ Ch c ∧ loopD (fun s => F11_L1 c s) 0 = some (.inr ([], 2))) := by
  obtain ⟨b, l1, l2⟩ := loop_for (step := fun s => F11_L1 c s) c.length (fun n => ∀ i : Nat, i < n → 1 ≤ gd c i ∧ gd c i ≤ 64) (fun b => match b with | .inl _ => Ch c | .inr k => k = ([], 2) ∧ ¬ Ch c) (fun i hi => by omega)
    (fun i hi hI => by
      unfold F11_L1 F31
      rw [bif_t (by simp [bLt_eq]; omega), need_true (inb_nat hi), Int.toNat_natCast]
      simp only [Option.bind_some]
      by_cases h : 1 ≤ gd c i ∧ gd c i ≤ 64
      · rw [bif_f (by simp [bLe_eq, h.1, h.2]), wr_add1 hi (by omega)]
        refine .inr ⟨rfl, fun j hj => ?_⟩
        rcases Nat.lt_or_eq_of_le (Nat.le_of_lt_succ hj) with hj | rfl
        · exact hI j hj
        · exact h
      · rw [bif_t (by simp [bLe_eq]; omega)]
        exact .inl ⟨_, rfl, rfl, fun hh => h (hh i hi)⟩)
    (fun hI => by
      unfold F11_L1
      rw [bif_f (by simp [bLt_eq])]
      exact ⟨_, rfl, hI⟩)
  cases b with
  | inl u => exact .inl ⟨l2, l1⟩
  | inr k => obtain ⟨rfl, h⟩ := l2; exact .inr ⟨h, l1⟩
/-- The visits to the first n channels. -/
def Vs (c : List Int) (s d : Int) (a : Bool) (n : Nat) : List TVisit := (List.range n).map fun j => TVisit.mk (gd c j) (s + j * d) (s + (j + 1) * d) a
theorem Vs_succ (c : List Int) (s d : Int) (a : Bool) (n : Nat) : Vs c s d a (n + 1) = Vs c s d a n ++ [TVisit.mk (gd c n) (s + n * d) (s + (n + 1) * d) a] := by
  simp [Vs, List.range_succ]
theorem Vs_len (c : List Int) (s d : Int) (a : Bool) (n : Nat) : (Vs c s d a n).length = n := by simp [Vs]
theorem mul_bd {d : Int} {n : Nat} (hd : 1 ≤ d ∧ d ≤ 1000000) (hn : n ≤ 65) : 0 ≤ (n : Int) * d ∧ (n : Int) * d ≤ 65000000 := by
  refine ⟨Int.mul_nonneg (by omega) (by omega), ?_⟩
  exact Int.le_trans (Int.mul_le_mul_of_nonneg_right (show (n : Int) ≤ 65 by omega) (by omega)) (by omega)
theorem F10_L1_ok (c : List Int) (s d : Int) (a : Bool) (hc : c.length ≤ 64) (hs : 0 ≤ s ∧ s ≤ 1099511627776) (hd : 1 ≤ d ∧ d ≤ 1000000) :
    loopD (fun t => F10_L1 c d a t.1 t.2.1 t.2.2) (s, [], 0) = some (.inl (Vs c s d a c.length)) := by
  obtain ⟨b, l1, l2⟩ := loop_forS (step := fun t : Int × List TVisit × Int => F10_L1 c d a t.1 t.2.1 t.2.2) c.length (fun n => (s + n * d, Vs c s d a n, (n : Int))) (fun _ => True) (fun b => b = .inl (Vs c s d a c.length)) trivial
    (fun i hi _ => by
      have m1 := mul_bd (n := i) hd (by omega)
      have e : s + (i : Int) * d + d = s + ((i : Int) + 1) * d := by rw [Int.add_mul]; omega
      unfold F10_L1
      simp only
      rw [bif_t (by simp [bLt_eq]; omega), need_true (inb_nat hi), need_true (capb_iff.2 (by rw [Vs_len]; omega)), Int.toNat_natCast, wr_in (x := s + (i : Int) * d + d) (by omega), e, ← Vs_succ, wr_add1 hi (by omega)]
      exact .inr ⟨rfl, trivial⟩)
    (fun _ => by
      unfold F10_L1
      simp only
      rw [bif_f (by simp [bLt_eq])]
      exact ⟨_, rfl, rfl⟩)
  subst l2
  rw [← l1]
  simp [Vs]
theorem F11_L2_ok (c : List Int) (s d : Int) (a : Bool) (hc : c.length ≤ 64) (hs : 0 ≤ s ∧ s ≤ 1099511627776) (hd : 1 ≤ d ∧ d ≤ 1000000) :
    loopD (fun t => F11_L2 c s d a t.1 t.2) ([], 0) = some (.inl (Vs c s d a c.length)) := by
  obtain ⟨b, l1, l2⟩ := loop_forS (step := fun t : List TVisit × Int => F11_L2 c s d a t.1 t.2) c.length (fun n => (Vs c s d a n, (n : Int))) (fun _ => True) (fun b => b = .inl (Vs c s d a c.length)) trivial
    (fun i hi _ => by
      have m1 := mul_bd (n := i) hd (by omega)
      have m2 := mul_bd (n := i + 1) hd (by omega)
      have e : ((i + 1 : Nat) : Int) = (i : Int) + 1 := by omega
      rw [e] at m2
      unfold F11_L2
      simp only
      rw [bif_t (by simp [bLt_eq]; omega), need_true (inb_nat hi), need_true (capb_iff.2 (by rw [Vs_len]; omega)), Int.toNat_natCast, wr_in (x := (i : Int) * d) (by omega), wr_in (x := s + (i : Int) * d) (by omega), wr_add1 hi (by omega), e, wr_in (x := ((i : Int) + 1) * d) (by omega), wr_in (x := s + ((i : Int) + 1) * d) (by omega), ← Vs_succ]
      exact .inr ⟨rfl, trivial⟩)
    (fun _ => by
      unfold F11_L2
      simp only
      rw [bif_f (by simp [bLt_eq])]
      exact ⟨_, rfl, rfl⟩)
  subst l2
  rw [← l1]
  simp [Vs]
theorem plan_ok (c : List Int) (s d : Int) (a : Bool) (hc : c.length ≤ 200) : ∃ r : List TVisit × Int, F10 c s d a = some r ∧ F11 c s d a = some r ∧ r.1.length ≤ 64 ∧
    ((r.2 = 0 ∧ Ch c ∧ c.length ≤ 64 ∧ (0 ≤ s ∧ s ≤ 1099511627776) ∧ (1 ≤ d ∧ d ≤ 1000000) ∧ r.1 = Vs c s d a c.length) ∨ (r.2 ≠ 0 ∧ r.1 = [])) := by
  unfold F10 F11
  rcases F30_ok c (by omega) with ⟨h, e⟩ | ⟨h, e⟩
  · rcases F11_L1_ok c (by omega) with ⟨_, e2⟩ | ⟨h2, _⟩
    · rw [e, Option.bind_some, need_true (by simp [F29]), need_true (by simp [F29]), lp_inl e2]
      unfold F29 F31
      simp only [Option.bind_some, gt_some, Bool.false_or]
      rw [need_true (by simp)]
      by_cases hs : 0 ≤ s ∧ s ≤ 1099511627776
      · have e3 : (bLe 0 s && bLe s 1099511627776) = true := by simp [bLe_eq, hs.1, hs.2]
        by_cases hd : 1 ≤ d ∧ d ≤ 1000000
        · have e4 : (bLe 1 d && bLe d 1000000) = true := by simp [bLe_eq, hd.1, hd.2]
          simp only [e3, e4, Bool.not_true, Bool.or_false, cond_false]
          by_cases h64 : c.length ≤ 64
          · have e5 : bLt 64 (c.length : Nat) = false := by simp [bLt_eq]; omega
            simp only [e5, cond_false]
            rw [lp_inl (F10_L1_ok c s d a h64 hs hd), lp_inl (F11_L2_ok c s d a h64 hs hd)]
            exact ⟨_, rfl, rfl, by simp [Vs_len]; exact h64, .inl ⟨rfl, h, h64, hs, hd, rfl⟩⟩
          · have e5 : bLt 64 (c.length : Nat) = true := by simp [bLt_eq]; omega
            simp only [e5, cond_true]
            exact ⟨_, rfl, rfl, by simp, .inr ⟨by simp, rfl⟩⟩
        · have e4 : (bLe 1 d && bLe d 1000000) = false := by simp [bLe_eq]; omega
          simp only [e3, e4, Bool.not_true, Bool.not_false, Bool.or_true, cond_true]
          exact ⟨_, rfl, rfl, by simp, .inr ⟨by simp, rfl⟩⟩
      · have e3 : (bLe 0 s && bLe s 1099511627776) = false := by simp [bLe_eq]; omega
        simp only [e3, Bool.not_false, Bool.true_or, cond_true]
        exact ⟨_, rfl, rfl, by simp, .inr ⟨by simp, rfl⟩⟩
    · exact absurd h h2
  · rcases F11_L1_ok c (by omega) with ⟨h2, _⟩ | ⟨_, e2⟩
    · exact absurd h2 h
    · rw [e, Option.bind_some, need_true (by simp), need_true (by simp), bif_t (by simp), lp_inr e2]
      exact ⟨_, rfl, rfl, by simp, .inr ⟨by simp, rfl⟩⟩
/-- The first element with an identifier. -/
theorem F33_ok (l : List TElement) (id : Int) (hl : l.length ≤ 1000) : ∃ k : Int, F33 l id = some k ∧ F51_0 l id = some k ∧ ((k = -1) ∨ (0 ≤ k ∧ k < l.length)) := by
  have e : (fun s => F51_0_L1 l id s) = fun s => F33_L1 l id s := by
    funext s
    unfold F51_0_L1 F33_L1 F52_0
    simp only [Option.bind_some]
  unfold F33 F51_0
  rw [e]
  obtain ⟨b, l1, l2⟩ := loop_for (step := fun s => F33_L1 l id s) l.length (fun _ => True) (fun b => match b with | .inl _ => True | .inr k => 0 ≤ k ∧ k < l.length) trivial
    (fun i hi _ => by
      unfold F33_L1
      rw [bif_t (by simp [bLt_eq]; omega), need_true (inb_nat hi)]
      cases hb : bEq ((gd l ((i : Int)).toNat).Id) id with
      | true => exact .inl ⟨_, rfl, by simp only; omega⟩
      | false => rw [cond_false, wr_add1 hi (by omega)]; exact .inr ⟨rfl, trivial⟩)
    (fun _ => by
      unfold F33_L1
      rw [bif_f (by simp [bLt_eq])]
      exact ⟨_, rfl, trivial⟩)
  cases b with
  | inl u => rw [lp_inl l1]; exact ⟨_, rfl, rfl, .inl rfl⟩
  | inr k => rw [lp_inr l1]; exact ⟨_, rfl, rfl, .inr l2⟩
/-- The bytes of elements are bytes. -/
def By (l : List TElement) : Prop := ∀ x ∈ l, ∀ q ∈ x.Data, 0 ≤ q ∧ q ≤ 255
theorem By_u8 {l : List TElement} (h : By l) {i : Nat} (hi : i < l.length) : u8b (gd l i).Data.length (enR c_u8 (gd l i).Data) = true := by
  rw [u8b_enR (f := c_u8) (fun _ => rfl), u8A_iff]
  exact h _ (gd_mem hi)
theorem answers_ok (l : List TElement) (s : ByteArray) (hl : l.length ≤ 1000) (hb : By l) : ∃ b, F14 l s = some b ∧ F15 l s = some b := by
  obtain ⟨k, e1, e2, e3⟩ := F33_ok l 0 hl
  unfold F14 F15 F32
  rw [e1, e2]
  simp only [Option.bind_some]
  rcases e3 with rfl | ⟨h1, h2⟩
  · rw [bif_t (by simp [bLt_eq])]
    simp only [Option.bind_some]
    rw [need_true (by simp [bEq]), need_true (by simp [bLt_eq]), need_true (by simp [bLt_eq]), need_true (by simp [bLt_eq])]
    exact ⟨_, rfl, by simp [bLt_eq, bEq]⟩
  · obtain ⟨n, rfl⟩ := Int.eq_ofNat_of_zero_le h1
    have hn : n < l.length := by omega
    rw [bif_f (by simp [bLt_eq]), need_true (inb_nat hn)]
    simp only [Option.bind_some, Int.toNat_natCast]
    have hu := By_u8 hb hn
    rw [need_true (by rw [hu]; simp), need_true (by rw [inb_nat hn]; simp), need_true (by rw [inb_nat hn]; simp), need_true (by rw [hu]; simp)]
    have hz : bLt (n : Int) 0 = false := by simp only [bLt_eq, decide_eq_false_iff_not]; omega
    exact ⟨_, rfl, by rw [hz, Bool.false_or]⟩
theorem F9_ok (l : List TElement) : ∃ b, F9 l = some b ∧ (b = false → l.length ≤ 100) := by
  unfold F9
  by_cases h : l.length ≤ 100
  · rw [bif_f (by simp [bLt_eq]; omega)]
    obtain ⟨b, l1, l2⟩ := loop_for (step := fun s => F9_L1 l s) l.length (fun _ => True) (fun _ => True) trivial
      (fun i hi _ => by
        unfold F9_L1
        rw [bif_t (by simp [bLt_eq]; omega), need_true (inb_nat hi)]
        cases hb : bLt 1000 (((gd l ((i : Int)).toNat).Data).length : Nat) with
        | true => exact .inl ⟨_, rfl, trivial⟩
        | false => rw [cond_false, wr_add1 hi (by omega)]; exact .inr ⟨rfl, trivial⟩)
      (fun _ => by
        unfold F9_L1
        rw [bif_f (by simp [bLt_eq])]
        exact ⟨_, rfl, trivial⟩)
    cases b with
    | inl u => rw [lp_inl l1]; exact ⟨_, rfl, fun _ => h⟩
    | inr r => rw [lp_inr l1]; exact ⟨_, rfl, fun _ => h⟩
  · rw [bif_t (by simp [bLt_eq]; omega)]
    exact ⟨_, rfl, fun hb => by cases hb⟩
theorem strL_bytesL (s : ByteArray) : strL (bytesL s) = s := by
  unfold strL bytesL
  apply ByteArray.ext
  apply Array.ext'
  simp only [List.map_map]
  apply List.ext_getElem?
  intro i
  rw [List.getElem?_map]
  rcases Nat.lt_or_ge i s.size with hi | hi
  · rw [List.getElem?_range hi]
    have hi' : i < s.data.size := hi
    simp only [Option.map_some, Function.comp, byteAt]
    rw [Array.getElem?_toList, Array.getElem?_eq_getElem hi']
    simp only [Array.getD, hi', dif_pos]
    simp
    try rw [dif_pos hi]
  · have hi' : s.data.size ≤ i := hi
    rw [List.getElem?_eq_none (by simpa using hi), Array.getElem?_toList, Array.getElem?_eq_none hi']; rfl
theorem bytesL_u8 (s : ByteArray) : u8A (bytesL s) = true := by
  rw [u8A_iff]
  intro q hq
  simp only [bytesL, List.mem_map] at hq
  obtain ⟨i, _, rfl⟩ := hq
  simp only [byteAt]
  have := (s.data.getD i 0).toNat_lt
  omega
theorem law3 (c : List Int) (s d : Int) (a : Bool) (l : List TElement) (nm : ByteArray) (hb : By l) : F3 c s d a l nm = some true := by
  unfold F3
  obtain ⟨g, g1, g2⟩ := F9_ok l
  rw [g1, need_true (by simp), gt_some]
  by_cases h : c.length ≤ 200 ∧ g = false ∧ nm.size ≤ 1000
  · obtain ⟨h1, rfl, h3⟩ := h
    rw [bif_f (by simp [bLt_eq]; omega)]
    obtain ⟨r, p1, p2, p3, _⟩ := plan_ok c s d a h1
    obtain ⟨b, a1, a2⟩ := answers_ok l nm (by have := g2 rfl; omega) hb
    rw [p1, p2, a1, a2]
    simp only [Option.bind_some, gt_some]
    unfold F12
    by_cases h32 : nm.size ≤ 32
    · have e : bLt 32 (nm.size : Nat) = false := by simp [bLt_eq]; omega
      rw [e]
      simp only [cond_false]
      rw [need_true (stb_iff.2 (by omega))]
      simp only [Option.bind_some]
      rw [F13_same r.1 (by omega)]
      have hu : u8b (bytesL nm).length (enR c_u8 (bytesL nm)) = true := by rw [u8b_enR (f := c_u8) (fun _ => rfl), bytesL_u8]
      have hs : bytesC (bytesL nm).length (enR c_u8 (bytesL nm)) = nm := by rw [bytesC_enR (f := c_u8) (fun _ => rfl), strL_bytesL]
      simp [need, gd, inb, bEq, bB_eq, hu, hs, sEq]
    · have e : bLt 32 (nm.size : Nat) = true := by simp [bLt_eq]; omega
      rw [e]
      simp only [cond_true, Option.bind_some]
      rw [F13_same r.1 (by omega)]
      simp [need, bEq, bB_eq]
  · rw [bif_t (by
      rcases Nat.lt_or_ge 200 c.length with h1 | h1
      · simp [bLt_eq]; omega
      · cases g with
        | true => simp
        | false =>
          have : 1000 < nm.size := by
            rcases Nat.lt_or_ge 1000 nm.size with h2 | h2
            · exact h2
            · exact absurd ⟨h1, rfl, h2⟩ h
          simp [bLt_eq]; omega)]
end Go.Proofs.Ytpnhehcncljhpaa
