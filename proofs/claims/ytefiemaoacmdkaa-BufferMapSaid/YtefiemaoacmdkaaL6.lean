/-
  BufferMap: the map tells whom polling answers.
-/
import Derived.Test.YtefiemaoacmdkaaBP
namespace Go.Proofs.Ytefiemaoacmdkaa
open Go.Am
set_option linter.unusedVariables false
set_option linter.unusedSimpArgs false
def Who (b : TBuffer) : List Int := (b.List.filter fun s => decide (0 < s.Held.length)).map (·.Aid)
theorem who_mem {b : TBuffer} {x : Int} : x ∈ Who b ↔ ∃ a : Nat, a < b.List.length /\ (gd b.List a).Aid = x /\ 0 < (gd b.List a).Held.length := by
  unfold Who
  simp only [List.mem_map, List.mem_filter, decide_eq_true_eq]
  constructor
  · rintro ⟨s, ⟨h1, h2⟩, rfl⟩
    obtain ⟨i, hi, rfl⟩ := mem_gd h1
    exact ⟨i, hi, rfl, h2⟩
  · rintro ⟨a, h1, rfl, h2⟩
    exact ⟨_, ⟨gd_mem h1, h2⟩, rfl⟩
theorem who_len {b : TBuffer} : (Who b).length <= b.List.length := by
  unfold Who
  rw [List.length_map]
  exact List.length_filter_le _ _
theorem who_lt {b : TBuffer} (hv : Vb b) {i j : Nat} (h : i < j) (hj : j < (Who b).length) : gd (Who b) i < gd (Who b) j := by
  have P : (Who b).Pairwise (· < ·) := by
    unfold Who
    rw [List.pairwise_map]
    refine List.Pairwise.filter _ ?_
    rw [List.pairwise_iff_getElem]
    intro x y hx hy hxy
    have := aid_lt hv hxy hy
    rw [gd_at hx, gd_at hy]
    exact this
  have := List.pairwise_iff_getElem.1 P i j (by omega) hj h
  rw [gd_at (by omega), gd_at hj] at this
  exact this
theorem map_ok (b : TBuffer) (hg : Ng b) (hv : Vb b) : F14 b = some (TTraffic.mk (bLt 0 (b.Group.length : Nat)) (Who b), 0) := by
  have hc : F18 b = some 0 := by
    rcases check_ok b hg with h | h
    · exact h.2
    · exact absurd hv h.1
  have hl := hg.1
  unfold F14
  rw [hc, Option.bind_some, bif_f (by rfl)]
  have l1 := run_gen (step := fun s => F14_L1 b s.1 s.2) (R := TTraffic × Int) b.List.length (fun i => ((i : Int), ((b.List.take i).filter fun s => decide (0 < s.Held.length)).map (·.Aid))) (Who b) (fun i hi => by
      show F14_L1 b i (((b.List.take i).filter fun s => decide (0 < s.Held.length)).map (·.Aid)) = _
      unfold F14_L1
      have ht : (((b.List.take i).filter fun s => decide (0 < s.Held.length)).map (·.Aid)).length <= i := by
        rw [List.length_map]
        exact Nat.le_trans (List.length_filter_le _ _) (by simp; omega)
      rw [bif_t (by simp [bLt_eq]; omega), need_true (inb_nat hi), Int.toNat_natCast, wr_add1 hi (by omega), take_snoc hi, List.filter_append, List.map_append]
      by_cases h : 0 < (gd b.List i).Held.length
      · rw [bif_t (by simp only [bLt_eq, decide_eq_true_eq]; omega), nd_cap (by omega) (by omega)]
        simp only [List.filter_cons, decide_eq_true h, if_true, List.filter_nil, List.map_cons, List.map_nil]
      · rw [bif_f (by simp only [bLt_eq, decide_eq_false_iff_not]; omega)]
        simp only [List.filter_cons, decide_eq_false h, if_false, List.filter_nil, List.map_nil, List.append_nil, Bool.false_eq_true])
    (by show F14_L1 b _ _ = _; unfold F14_L1; rw [bif_f (by simp [bLt_eq]), List.take_length]; rfl)
  replace l1 : loopD (fun s => F14_L1 b s.1 s.2) ((0 : Int), ([] : List Int)) = some (.inl (Who b)) := by simpa using l1
  rw [lp_inl l1]
theorem bcheck_ok (b : TBuffer) (g : Bool) (hg : Ng b) (hv : Vb b) : F27 (TTraffic.mk g (Who b)) = some 0 := by
  have hw := who_len (b := b)
  have hl := hg.1
  unfold F27
  have l1 := run_gen (step := fun s => F27_L1 (TTraffic.mk g (Who b)) s.1 s.2) (R := Int) (Who b).length (fun i => (if i = 0 then 0 else gd (Who b) (i - 1), (i : Int))) () (fun i hi => by
      show F27_L1 (TTraffic.mk g (Who b)) _ i = _
      unfold F27_L1
      simp only
      obtain ⟨a, a1, a2, a3⟩ := who_mem.1 (gd_mem hi)
      have ar := aid_rng hv a1
      have hlt : (if i = 0 then 0 else gd (Who b) (i - 1)) < gd (Who b) i := by
        split
        · omega
        · exact who_lt hv (by omega) hi
      rw [bif_t (by simp [bLt_eq]; omega), need_true (inb_nat hi), Int.toNat_natCast, wr_add1 hi (by omega), bif_f (by simp only [bLe_eq, bLt_eq, Bool.or_eq_false_iff, decide_eq_false_iff_not]; omega)]
      rw [if_neg (show ¬ (i + 1 = 0) by omega)]
      rfl)
    (by show F27_L1 (TTraffic.mk g (Who b)) _ _ = _; unfold F27_L1; rw [bif_f (by simp [bLt_eq])])
  replace l1 : loopD (fun s => F27_L1 (TTraffic.mk g (Who b)) s.1 s.2) ((0 : Int), (0 : Int)) = some (.inl ()) := by simpa using l1
  rw [lp_inl l1]
theorem has_ok (b : TBuffer) (g : Bool) (aid : Int) (ha : 1 <= aid) (hg : Ng b) (hv : Vb b) : ∃ r, F28 (TTraffic.mk g (Who b)) aid = some r /\ (r = true ↔ ∃ a : Nat, a < b.List.length /\ (gd b.List a).Aid = aid /\ 0 < (gd b.List a).Held.length) := by
  have hw := who_len (b := b)
  have hl := hg.1
  unfold F28 F69
  rw [bcheck_ok b g hg hv, Option.bind_some, bif_f (by rfl)]
  by_cases h : 255 < aid
  · rw [bif_t (by simp [bLt_eq, h]), Option.bind_some, bif_t (by rfl)]
    refine ⟨_, rfl, fun h => (by cases h), fun ⟨a, a1, a2, a3⟩ => ?_⟩
    have := aid_rng hv a1
    omega
  · rw [bif_f (by simp only [bLt_eq, Bool.or_eq_false_iff, decide_eq_false_iff_not]; omega), Option.bind_some, bif_f (by rfl)]
    have he : bEq aid 0 = false := by simp only [bEq_eq, decide_eq_false_iff_not]; omega
    have hp : bLt 0 aid = true := by simp only [bLt_eq, decide_eq_true_eq]; omega
    have C : ∃ r, F70 (Who b) aid = some r /\ (r = true ↔ aid ∈ Who b) := by
      unfold F70 F94
      obtain ⟨r, l1, l2⟩ := loop_for (step := fun s => F94_L1 (Who b) aid s) (Who b).length (fun n => ∀ j : Nat, j < n -> gd (Who b) j ≠ aid)
        (fun r => match r with | .inl _ => aid ∉ Who b | .inr x => ∃ k : Nat, x = (k : Int) /\ aid ∈ Who b) (fun i hi => by omega)
        (fun i hi hI => by
          unfold F94_L1
          rw [bif_t (by simp [bLt_eq]; omega), need_true (inb_nat hi), Int.toNat_natCast]
          by_cases hc : aid = gd (Who b) i
          · rw [bif_t (by simp only [bEq_eq, decide_eq_true_eq]; exact hc)]
            exact .inl ⟨_, rfl, i, rfl, by rw [hc]; exact gd_mem hi⟩
          · rw [bif_f (by simp only [bEq_eq, decide_eq_false_iff_not]; exact hc), wr_add1 hi (by omega)]
            refine .inr ⟨rfl, fun j hj => ?_⟩
            rcases Nat.lt_or_eq_of_le (Nat.le_of_lt_succ hj) with h | rfl
            · exact hI j h
            · exact fun e => hc e.symm)
        (fun hI => by
          unfold F94_L1
          rw [bif_f (by simp [bLt_eq])]
          exact ⟨_, rfl, fun hm => by obtain ⟨i, hi, e⟩ := mem_gd hm; exact hI i hi e⟩)
      cases r with
      | inl u => rw [lp_inl l1]; exact ⟨_, rfl, fun h => by simp [bLe_eq] at h, fun h => absurd h l2⟩
      | inr x => obtain ⟨k, rfl, l3⟩ := l2; rw [lp_inr l1]; exact ⟨_, rfl, fun _ => l3, fun _ => by simp [bLe_eq]⟩
    obtain ⟨r, r1, r2⟩ := C
    simp only
    rw [r1, he, hp]
    refine ⟨r, by simp [need_true, gt_some], ?_⟩
    rw [r2, who_mem]
theorem alive_ok : F20 = some true := by kernel_rfl
theorem law6 (b : TBuffer) (aid : Int) : F6 b aid = some true := by
  unfold F6
  rw [alive_ok, Option.bind_some]
  obtain ⟨g, g1, g2⟩ := great_ok b zF
  unfold zF at g1
  rw [g1, Option.bind_some]
  cases g with
  | true => rfl
  | false =>
    obtain ⟨hg, hq, _⟩ := g2 rfl
    rw [bif_f (by rfl)]
    rcases check_ok b hg with ⟨hv, hc⟩ | ⟨hv, hc⟩
    · rw [map_ok b hg hv, Option.bind_some, bif_f (by rfl)]
      obtain ⟨fr, f1, f2⟩ := flush_ok b hg hq hv
      simp only [f1, Option.bind_some, bcheck_ok b _ hg hv, Option.isSome_some, gt_some, Bool.cond_true, show bEq 0 0 = true from rfl, Bool.true_and]
      have e1 : bB (bLt 0 (b.Group.length : Nat)) (bLt 0 (fr.length : Nat)) = true := by rw [f2, bB_eq]; simp
      have e2 : bEq 0 0 = true := rfl
      have eH : ∃ h : Bool, (bif (!bLt aid 1) then (F28 (TTraffic.mk (bLt 0 (b.Group.length : Nat)) (Who b)) aid).isSome else true) = true /\ ((bLt aid 1) = true ∨ gt (F28 (TTraffic.mk (bLt 0 (b.Group.length : Nat)) (Who b)) aid) = h /\ (h = true ↔ ∃ a : Nat, a < b.List.length /\ (gd b.List a).Aid = aid /\ 0 < (gd b.List a).Held.length)) := by
        by_cases ha : 1 <= aid
        · obtain ⟨r, r1, r2⟩ := has_ok b (bLt 0 (b.Group.length : Nat)) aid ha hg hv
          exact ⟨r, by rw [r1]; simp, .inr ⟨by rw [r1]; rfl, r2⟩⟩
        · have : bLt aid 1 = true := by simp only [bLt_eq, decide_eq_true_eq]; omega
          exact ⟨true, by rw [this]; rfl, .inl this⟩
      obtain ⟨h, h1, h2⟩ := eH
      rcases poll_ok b aid hg hq hv with ⟨a, k, a1, a2, a3, a4, a5, a6⟩ | ⟨⟨c, c0, c1⟩, a0⟩
      · rw [a6, Option.bind_some]
        rcases find_ok b aid (by have := hg.1; omega) with ⟨a', b1, b2, _, b3⟩ | ⟨b1, b3⟩
        · obtain rfl := aid_inj hv a1 b1 (by rw [a2, b2])
          rw [b3, Option.bind_some, bif_t (by simp [bLe_eq]), need_true (inb_nat b1), need_true rfl, need_true h1, Int.toNat_natCast]
          have e3 : bB (Pd b a k).1.Head.MoreData (bLt 1 ((gd b.List a).Held.length : Nat)) = true := by
            unfold Pd
            simp only [del_len1 a4, bB_eq, bLt_eq, decide_eq_true_eq, decide_eq_decide]
            omega
          have e4 : ((bLt aid 1) || bB (gt (F28 (TTraffic.mk (bLt 0 (b.Group.length : Nat)) (Who b)) aid)) (bEq (Pd b a k).2.2 0)) = true := by
            rcases h2 with h2 | ⟨h2, h3⟩
            · rw [h2]; rfl
            · rw [h2, h3.2 ⟨a, a1, a2, by omega⟩]; exact Bool.or_true _
          simp only [e1, e3, e4, e2, Bool.or_true, Bool.true_and]
        · exact absurd a2 (b1 a a1)
      · rw [c1, Option.bind_some]
        have e3 : bEq c 0 = false := by simp only [bEq_eq, decide_eq_false_iff_not]; exact c0
        have e4 : ((bLt aid 1) || bB (gt (F28 (TTraffic.mk (bLt 0 (b.Group.length : Nat)) (Who b)) aid)) false) = true := by
          rcases h2 with h2 | ⟨h2, h3⟩
          · rw [h2]; rfl
          · have : h = false := by
              cases h with
              | false => rfl
              | true => obtain ⟨a, x1, x2, x3⟩ := h3.1 rfl; have := a0 a x1 x2; omega
            rw [h2, this]; exact Bool.or_true _
        rcases find_ok b aid (by have := hg.1; omega) with ⟨a', b1, b2, _, b3⟩ | ⟨b1, b3⟩
        · rw [b3, Option.bind_some, bif_t (by simp [bLe_eq]), need_true (inb_nat b1), need_true rfl, need_true h1]
          simp only [e1, e3, e4, e2, Bool.or_true, Bool.true_and, Bool.not_false, Bool.true_or]
        · rw [b3, Option.bind_some, bif_f (by rfl), need_true rfl, need_true h1]
          simp only [e1, e3, e4, e2, Bool.or_true, Bool.true_and, Bool.not_false, Bool.true_or]
    · unfold F14
      rw [hc]
      rfl
end Go.Proofs.Ytefiemaoacmdkaa
