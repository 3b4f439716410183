/-
  BufferAwake: who wakes gets what was held.
-/
import Derived.Test.YtefiemaoacmdkaaBA
namespace Go.Proofs.Ytefiemaoacmdkaa
open Go.Am
set_option linter.unusedVariables false
set_option linter.unusedSimpArgs false
theorem alive_ok4 : F20 = some true := by kernel_rfl
/-! ### The marks -/
theorem marks_ok (b : TBuffer) (a : Nat) (r1 r2 : List TFrame) (w : TBuffer × Int) (ha : a < b.List.length) (hn : r1.length <= 1000) (hn2 : r2.length <= 1000) (e : r1.length = (gd b.List a).Held.length) (h1 : Hd r1) (h2 : Hd r2) :
    loopD (fun s => F4_L1 b (r1 ++ r2, w) (a : Int) s) (0 : Int) = some (.inl ()) := by
  have l1 := run_gen (step := fun s => F4_L1 b (r1 ++ r2, w) (a : Int) s) (R := Bool) (r1 ++ r2).length (fun i => (i : Int)) () (fun i hi => by
      show F4_L1 b (r1 ++ r2, w) (a : Int) i = _
      unfold F4_L1
      simp only
      have hl : (r1 ++ r2).length = r1.length + r2.length := List.length_append
      rw [bif_t (by simp only [bLt_eq, decide_eq_true_eq]; omega), need_true (inb_nat hi), Int.toNat_natCast, Int.toNat_natCast, wr_add1 hi (by omega), wr_in (by omega), wr_in (by omega)]
      rw [bif_f]
      rw [app_gd, bB_eq, ← e]
      simp only [bEq_eq, hl]
      by_cases hr : i < r1.length
      · rw [if_pos hr, h1 i hr]
        simp only [← Bool.decide_or, decide_eq_decide, decide_eq_false_iff_not]
        omega
      · rw [if_neg hr, h2 _ (by omega)]
        simp only [← Bool.decide_or, decide_eq_decide, decide_eq_false_iff_not]
        omega)
    (by show F4_L1 b (r1 ++ r2, w) (a : Int) ((r1 ++ r2).length : Nat) = _; unfold F4_L1; rw [bif_f (by simp only [bLt_eq, decide_eq_false_iff_not]; omega)])
  simpa using l1
/-! ### Polling until nothing is left -/
theorem top_ok (r7 : Int) (a : Nat) (e : r7 = a) (b : TBuffer) (l : List TStored) (el : (gd b.List a).Held = l) (hn : l.length <= 1000) (last : Int) (h0 : 0 <= last) (hl : ∀ j : Nat, j < l.length -> (gd l j).Cat <= last) :
    ∃ m : Int, 0 <= m /\ m <= last /\ (∀ j : Nat, j < l.length -> (gd l j).Cat <= m) /\ loopD (fun s => F4_L3 r7 b s.1 s.2) ((0 : Int), (0 : Int)) = some (.inl m) := by
  obtain ⟨r, l1, l2⟩ := loop_inv (step := fun s : Int × Int => F4_L3 r7 b s.1 s.2) (fun s => ∃ i : Nat, s.2 = (i : Int) /\ i <= l.length /\ 0 <= s.1 /\ s.1 <= last /\ ∀ j : Nat, j < i -> (gd l j).Cat <= s.1)
    (fun r => ∃ m : Int, r = .inl m /\ 0 <= m /\ m <= last /\ ∀ j : Nat, j < l.length -> (gd l j).Cat <= m) (fun s => (l.length - s.2).toNat)
    (fun s hI => by
      obtain ⟨m, x⟩ := s
      obtain ⟨i, h1, h2, h3, h4, h5⟩ := hI
      simp only at h1 h3 h4 h5
      subst h1
      unfold F4_L3
      simp only [e, Int.toNat_natCast, el]
      by_cases hi : i < l.length
      · have := hl i hi
        rw [bif_t (by simp [bLt_eq]; omega), need_true (inb_nat hi), wr_add1 hi (by omega)]
        have hm : maxI m (gd l i).Cat = if m < (gd l i).Cat then (gd l i).Cat else m := by
          rfl
        refine .inr ⟨_, rfl, ⟨i + 1, rfl, by omega, ?_, ?_, fun j hj => ?_⟩, by simp only; omega⟩
        · simp only [hm]; split <;> omega
        · simp only [hm]; split <;> omega
        · rcases Nat.lt_or_eq_of_le (Nat.le_of_lt_succ hj) with h | rfl
          · have := h5 j h; simp only [hm]; split <;> omega
          · simp only [hm]; split <;> omega
      · obtain rfl : i = l.length := by omega
        rw [bif_f (by simp [bLt_eq])]
        exact .inl ⟨_, rfl, m, rfl, h3, h4, h5⟩)
    ((0 : Int), (0 : Int)) ⟨0, rfl, by omega, by simp, by simpa using h0, fun j hj => by omega⟩
  obtain ⟨m, rfl, m1, m2, m3⟩ := l2
  exact ⟨m, m1, m2, m3, l1⟩
theorem st_self {b : TBuffer} {a : Nat} (h : (gd b.List a).Asleep = true) : stB b a true (gd b.List a).Held = b := by
  unfold stB
  rw [← h, set_gd]
theorem st_pd {b : TBuffer} {a k : Nat} {h : List TStored} (ha : a < b.List.length) : (Pd (stB b a true h) a k).2.1 = stB b a true (delL h k ((k + 1 : Nat) : Int)) := by
  unfold Pd
  simp only [st_at ha]
  simp only [stB, List.set_set]
theorem polls_ok (b : TBuffer) (a : Nat) (ha : a < b.List.length) (hg : Ng b) (hq : Bq b) (hv : Vb b) :
    loopD (fun s => F4_L2 b (gd b.List a).Aid (a : Int) s.1 s.2.1 s.2.2) ((0 : Int), (3 : Int), b) = some (.inl ((gd b.List a).Held.length : Int)) := by
  have hh := hg.2.2 a ha
  have hp := hv.1.2 a ha
  rcases Bool.eq_false_or_eq_true (gd b.List a).Asleep with hs | hs
  · have I := loop_inv (step := fun s : Int × Int × TBuffer => F4_L2 b (gd b.List a).Aid (a : Int) s.1 s.2.1 s.2.2)
      (fun s => ∃ (n : Nat) (h : List TStored), s.1 = (n : Int) /\ s.2.2 = stB b a true h /\ h.length + n = (gd b.List a).Held.length /\ Qu h b.Limit 3 /\ Sq h /\ 0 <= s.2.1 /\ ∀ j : Nat, j < h.length -> (gd h j).Cat <= s.2.1)
      (fun r => r = .inl ((gd b.List a).Held.length : Int)) (fun s => ((gd b.List a).Held.length + 1 - s.1).toNat)
      (fun s hI => by
        obtain ⟨x, last, bn⟩ := s
        obtain ⟨n, h, h1, h2, h3, h4, h5, h6, h7⟩ := hI
        simp only at h1 h2 h6 h7
        subst h1 h2
        have hgn := st_ng (s := true) (h := h) ha hg (by omega)
        have hqn := st_bq (s := true) (h := h) ha hq h5
        have hvn := st_vb ha hv hs h4
        unfold F4_L2
        simp only [Int.toNat_natCast]
        rw [bif_t (by simp only [bLe_eq, decide_eq_true_eq]; omega)]
        rcases poll_ok (stB b a true h) (gd b.List a).Aid hgn hqn hvn with ⟨a', k, a1, a2, a3, a4, a5, a6⟩ | ⟨⟨c, c0, c1⟩, a0⟩
        · rw [st_aid ha] at a2
          rw [st_len] at a1
          obtain rfl := aid_inj hv a1 ha a2
          rw [st_at ha] at a4
          simp only at a4
          obtain ⟨m, m1, m2, m3, m4⟩ := top_ok (a' : Int) a' rfl (stB b a' true h) h (by rw [st_at ha]) (by omega) last h6 h7
          rw [a6, Option.bind_some, bif_f (by rfl), bif_f (by rw [st_len]; simp only [bLe_eq, decide_eq_false_iff_not]; omega), need_true (inb_nat (by rw [st_len]; exact a1)), lp_inl m4, bif_f (by simp only [bLt_eq, decide_eq_false_iff_not]; omega), wr_in (by omega), st_pd ha]
          have hl := del_len1 a4
          refine .inr ⟨_, rfl, ⟨n + 1, _, by simp, rfl, by rw [hl]; omega, del_qu a4 h4, fun q hq => h5 q (del_mem hq), m1, fun j hj => ?_⟩, by simp only; omega⟩
          rw [hl] at hj
          simp only
          rw [del_gd a4]
          split
          · exact m3 _ (by omega)
          · exact m3 _ (by omega)
        · have h0 := a0 a (by rw [st_len]; exact ha) (by rw [st_aid ha])
          rw [st_at ha] at h0
          simp only at h0
          rw [c1, Option.bind_some, bif_t (by simp only [bEq_eq, Bool.not_eq_true', decide_eq_false_iff_not]; exact c0)]
          exact .inl ⟨_, rfl, by rw [show n = (gd b.List a).Held.length by omega]⟩)
      ((0 : Int), (3 : Int), b) ⟨0, (gd b.List a).Held, rfl, (st_self hs).symm, by omega, hp.2.2.1, hq.2 _ (gd_mem ha), by simp, fun j hj => (hp.2.2.1.2 j hj).1⟩
    obtain ⟨r, l1, rfl⟩ := I
    exact l1
  · have h0 : (gd b.List a).Held.length = 0 := by
      rcases hp.2.2.2 with q | q
      · rw [q] at hs; cases hs
      · exact q
    refine loopD_done ?_
    unfold F4_L2
    simp only [Int.toNat_natCast]
    rw [h0, bif_t (by rfl)]
    rcases poll_ok b (gd b.List a).Aid hg hq hv with ⟨a', k, a1, a2, a3, a4, a5, a6⟩ | ⟨⟨c, c0, c1⟩, a0⟩
    · obtain rfl := aid_inj hv a1 ha a2
      rw [a3] at hs; cases hs
    · rw [c1, Option.bind_some, bif_t (by simp only [bEq_eq, Bool.not_eq_true', decide_eq_false_iff_not]; exact c0)]
      rfl
theorem wk_u8 {b : TBuffer} {a : Nat} {g : List TStored} (ha : a < b.List.length) (h : U8b b) (hg : g = [] ∨ g = b.Group) : U8b (wkB b a g) := by
  refine ⟨?_, fun q hm => ?_⟩
  · rcases hg with rfl | rfl
    · exact fun q hq => by cases hq
    · exact h.1
  · obtain ⟨i, hi, rfl⟩ := mem_gd hm
    show U8 (gd (stB b a false []).List i).Held
    by_cases e : i = a
    · subst e; rw [st_at ha]; exact fun q hq => by cases hq
    · rw [st_ne e]
      have hi : i < (stB b a false []).List.length := hi
      rw [st_len] at hi
      exact h.2 _ (gd_mem hi)
theorem law4 (b : TBuffer) (aid : Int) (f : TFrame) (t : Int) (hu : U8b b) : F4 b aid f t = some true := by
  unfold F4
  rw [alive_ok4, Option.bind_some]
  obtain ⟨g, g1, g2⟩ := great_ok b f
  rw [g1, Option.bind_some]
  cases g with
  | true => rfl
  | false =>
    obtain ⟨hg, hq, hf⟩ := g2 rfl
    rw [bif_f (by rfl)]
    rcases check_ok b hg with ⟨hv, hc⟩ | ⟨hv, hc⟩
    · have hl := hg.1
      rcases wake_ok b aid hg hq hv with ⟨a, r1, r2, gr, a1, a2, a3, a4, a5, a6, a7, a8⟩ | ⟨c, c0, c1⟩
      · have hh := hg.2.2 a a1
        rw [a8, Option.bind_some, bif_f (by rfl)]
        rcases find_ok b aid (by omega) with ⟨a', b1, b2, _, b3⟩ | ⟨b1, b3⟩
        · obtain rfl := aid_inj hv a1 b1 (by rw [a2, b2])
          subst a2
          rw [b3, Option.bind_some, bif_f (by simp only [bLt_eq, decide_eq_false_iff_not]; omega), need_true (inb_nat b1), lp_inl (marks_ok b a r1 r2 _ a1 (by omega) (by omega) a3 a4 a5), lp_inl (polls_ok b a a1 hg hq hv)]
          obtain ⟨w1, w2, w3⟩ := wk_good a1 hg hq hv a7
          have wa : a < (wkB b a gr).List.length := by show a < (stB b a false []).List.length; rw [st_len]; exact a1
          have we : gd (wkB b a gr).List a = {(gd b.List a) with Asleep := false, Held := []} := st_at a1
          have e1 : bLe (((gd b.List ((a : Int)).toNat).Held.length : Nat) : Int) (((r1 ++ r2).length : Nat) : Int) = true := by
            rw [Int.toNat_natCast, List.length_append]; simp only [bLe_eq, decide_eq_true_eq]; omega
          have e2 : bEq (((gd b.List a).Held.length : Nat) : Int) (((gd b.List ((a : Int)).toNat).Held.length : Nat) : Int) = true := by
            rw [Int.toNat_natCast]; simp [bEq_eq]
          have P := put_awake (wkB b a gr) a f t w1 w2 w3 hf wa (by rw [we]) (by rw [we])
          rw [we] at P
          simp only at P
          rcases P with ⟨x, y, z, p1⟩ | ⟨r, p1, p2⟩
          · rw [p1, Option.bind_some, need_true (by rfl), need_true (by rfl), need_true (inb_nat a1)]
            simp only [e1, e2, show bEq 2 2 = true from rfl, Bool.true_or, Bool.true_and]
          · have hsame := same_ok (wkB b a gr) (Nb_of w1) (wk_u8 a1 hu (a7.imp id (·.1)))
            rw [p1, Option.bind_some]
            simp only [hsame, Option.isSome_some, gt_some, Bool.cond_self]
            rw [need_true (by rfl), need_true (by rfl), need_true (inb_nat a1)]
            simp only [e1, e2, show gd [r] 0 = r from rfl, p2]
            rfl
        · exact absurd a2 (b1 a a1)
      · rw [c1, Option.bind_some, bif_t (by simp only [bEq_eq, Bool.not_eq_true', decide_eq_false_iff_not]; exact c0)]
        rfl
    · unfold F21
      rw [hc]
      rfl
end Go.Proofs.Ytefiemaoacmdkaa
