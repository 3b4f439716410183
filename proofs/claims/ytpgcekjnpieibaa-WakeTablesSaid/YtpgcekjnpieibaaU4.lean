/-
  Adding; WakeTables: the plain law.
-/
import Derived.Test.YtpgcekjnpieibaaU3
namespace Go.Proofs.Ytpgcekjnpieibaa
open Go.Am
set_option linter.unusedVariables false
set_option linter.unusedSimpArgs false
theorem gd_get {l : List TWakeRule} {j : Nat} (h : j < l.length) : l[j] = gd l j := by simp [gd, List.getD_eq_getElem?_getD, h]
theorem sort_step (M : List TWakeRule) (pw : M.Pairwise fun a b => a.Id < b.Id) (v : Int) : M.filter (fun q => decide (q.Id < v + 1)) = M.filter (fun q => decide (q.Id < v)) ++ M.filter (fun q => bEq q.Id v) := by
  induction M with
  | nil => rfl
  | cons x xs ih =>
    obtain ⟨hx, pw⟩ := List.pairwise_cons.1 pw
    have ih := ih pw
    rcases Int.lt_trichotomy x.Id v with h | h | h
    · rw [List.filter_cons_of_pos (by simp; omega), List.filter_cons_of_pos (by simp; omega), List.filter_cons_of_neg (by simp [bEq]; omega), ih, List.cons_append]
    · have e : xs.filter (fun q => decide (q.Id < v)) = [] := List.filter_eq_nil_iff.2 fun y hy => by have := hx y hy; simp; omega
      rw [List.filter_cons_of_pos (by simp; omega), List.filter_cons_of_neg (by simp; omega), List.filter_cons_of_pos (by simp [bEq]; omega), ih, e, List.nil_append, List.nil_append]
    · rw [List.filter_cons_of_neg (by simp; omega), List.filter_cons_of_neg (by simp; omega), List.filter_cons_of_neg (by simp [bEq]; omega), ih]
theorem inner_ok (t : TWakeTable) (v : Int) (acc : List TWakeRule) (hl : t.List.length ≤ 100) (ha : acc.length ≤ 200) : loopD (fun s : Int × List TWakeRule => F25_L2 t v s.1 s.2) (0, acc) = some (.inl (acc ++ t.List.filter fun q => bEq q.Id v)) := by
  obtain ⟨b, l1, l2⟩ := loop_forS (step := fun s : Int × List TWakeRule => F25_L2 t v s.1 s.2) t.List.length (fun n => ((n : Int), acc ++ (t.List.take n).filter fun q => bEq q.Id v)) (fun _ => True) (fun b => b = .inl (acc ++ t.List.filter fun q => bEq q.Id v)) trivial
    (fun j hj _ => by
      have hl : ((t.List.take j).filter fun q => bEq q.Id v).length ≤ j := by
        refine Nat.le_trans (List.length_filter_le _ _) ?_
        simp; omega
      have e1 : capb 40 ((acc ++ (t.List.take j).filter fun q => bEq q.Id v).length + 1) = true := capb_iff.2 (by rw [List.length_append]; omega)
      unfold F25_L2
      simp only
      rw [bif_t (by simp [bLt_eq]; omega), inb_nat hj, Int.toNat_natCast, wr_add1 hj (by omega), e1, take_filter _ _ hj]
      simp only [need_true]
      refine .inr ⟨?_, trivial⟩
      cases bEq (gd t.List j).Id v with
      | true => simp
      | false => rfl)
    (fun _ => by
      unfold F25_L2
      simp only
      rw [bif_f (by simp [bLt_eq]), List.take_length]
      exact ⟨_, rfl, rfl⟩)
  subst l2
  simpa using l1
theorem inner_ok3 (t : TWakeTable) (v : Int) (acc : List TWakeRule) (hl : t.List.length ≤ 100) (ha : acc.length ≤ 200) : loopD (fun s : Int × List TWakeRule => F25_L3 t v s.1 s.2) (0, acc) = some (.inl (acc ++ t.List.filter fun q => bEq q.Id v)) := inner_ok t v acc hl ha
theorem add_ok (t : TWakeTable) (r : TWakeRule) (hr : -9223372036854775808 ≤ r.Id ∧ r.Id ≤ 9223372036854775807) : ∃ x : TWakeTable × Int, F24 t r = some x ∧ F25 t r = some x ∧ x.1.List.length ≤ 1000 := by
  unfold F24 F25
  obtain ⟨v, v1, v2⟩ := F33_ok t
  rw [v1]
  rcases F32_ok t with ⟨hv, e⟩ | ⟨hv, e⟩
  · rw [e]
    obtain rfl := v2.2 hv
    simp only [Option.bind_some, bEq_eq, decide_true, Bool.not_true, cond_false]
    have hI : Inc t.List := fun i hi => ⟨⟨(hv.2 i hi).1.1, (hv.2 i hi).1.2.1⟩, (hv.2 i hi).2⟩
    have hlen := hv.1
    obtain ⟨i, f, f1, f2, f3, f4⟩ := find_ok t.List r.Id (by omega) hI hr
    obtain ⟨h, h1, h2⟩ := has_ok t r.Id (by omega)
    have eF : F39 t r.Id = some ((i : Int), f) := by unfold F39; rw [f1]; rfl
    obtain ⟨w, w1, w2⟩ := F20_ok r
    rw [eF, w1]
    simp only [Option.bind_some]
    rcases F17_ok r with ⟨hw, e2⟩ | ⟨hw, e2⟩
    · rw [e2]
      obtain rfl := w2.2 hw
      simp only [Option.bind_some, decide_true, Bool.not_true, cond_false]
      rw [h1]
      simp only [Option.bind_some]
      have f4 := f4 ⟨hw.1, hw.2.1⟩
      have hf : h = f := by
        rw [Bool.eq_iff_iff, h2]
        constructor
        · rintro ⟨j, j1, j2⟩
          cases f with
          | true => rfl
          | false => exact absurd j2 (f4.2.2 rfl j j1)
        · intro hf; exact ⟨i, (f3 hf).1, (f3 hf).2⟩
      subst hf
      cases h with
      | true => exact ⟨_, rfl, rfl, by simp⟩
      | false =>
        simp only [cond_false]
        by_cases h32 : t.List.length = 32
        · rw [bif_t (by simp; omega), bif_t (by simp; omega)]
          exact ⟨_, rfl, rfl, by simp⟩
        · rw [bif_f (by simp; omega), bif_f (by simp; omega)]
          have ec : F41 t.List = some t.List := by unfold F41; rw [need_true (capb_iff.2 (by omega))]
          rw [ec]
          simp only [Option.bind_some]
          rw [need_true (insb_iff.2 (by omega))]
          -- the table with the agreement
          have hne := f4.2.2 rfl
          have eM : insL t.List (i : Int) [r] = t.List.take i ++ (r :: t.List.drop i) := by unfold insL; rw [Int.toNat_natCast, List.append_assoc, List.singleton_append]
          have tk : ∀ x ∈ t.List.take i, x.Id < r.Id := fun x hx => by
            obtain ⟨j, hj, rfl⟩ := List.getElem_of_mem hx
            rw [List.length_take] at hj
            rw [List.getElem_take, gd_get (by omega)]
            exact f4.1 j (by omega)
          have dk : ∀ x ∈ t.List.drop i, r.Id < x.Id := fun x hx => by
            obtain ⟨j, hj, rfl⟩ := List.getElem_of_mem hx
            rw [List.length_drop] at hj
            rw [List.getElem_drop, gd_get (by omega)]
            have q1 := f4.2.1 (i + j) (by omega) (by omega)
            have q2 := hne (i + j) (by omega)
            omega
          have nl : ∀ x ∈ t.List, x.Id ≠ r.Id := fun x hx => by
            obtain ⟨j, hj, rfl⟩ := List.getElem_of_mem hx
            rw [gd_get hj]
            exact hne j hj
          have pw0 := Inc_pw hI
          rw [← List.take_append_drop i t.List] at pw0
          obtain ⟨pa, pb, pc⟩ := List.pairwise_append.1 pw0
          have pw : (insL t.List (i : Int) [r]).Pairwise fun a b => a.Id < b.Id := by
            rw [eM]
            refine List.pairwise_append.2 ⟨pa, List.pairwise_cons.2 ⟨dk, pb⟩, fun x hx y hy => ?_⟩
            rcases List.mem_cons.1 hy with rfl | hy
            · exact tk x hx
            · exact pc x hx y hy
          have lenM : (insL t.List (i : Int) [r]).length = t.List.length + 1 := by rw [eM]; simp; omega
          have fM : ∀ u : Int, (insL t.List (i : Int) [r]).filter (fun q => bEq q.Id u) = (bif bEq u r.Id then [r] else []) ++ t.List.filter (fun q => bEq q.Id u) := fun u => by
            have e3 : t.List.filter (fun q => bEq q.Id u) = (t.List.take i).filter (fun q => bEq q.Id u) ++ (t.List.drop i).filter (fun q => bEq q.Id u) := by rw [← List.filter_append, List.take_append_drop]
            rw [eM, List.filter_append]
            by_cases hu : u = r.Id
            · subst hu
              have e4 : t.List.filter (fun q => bEq q.Id r.Id) = [] := List.filter_eq_nil_iff.2 fun y hy => by have := nl y hy; simp [bEq]; omega
              rw [e4] at e3
              obtain ⟨e5, e6⟩ := List.append_eq_nil_iff.1 e3.symm
              rw [e4, e5, List.filter_cons_of_pos (by simp [bEq]), e6, bif_t (by simp [bEq])]
              rfl
            · rw [List.filter_cons_of_neg (by simp [bEq]; omega), bif_f (by simp [bEq]; omega), e3, List.nil_append]
          generalize insL t.List (i : Int) [r] = M at pw lenM fM eM
          have idM : ∀ x ∈ M, 0 ≤ x.Id ∧ x.Id ≤ 255 := fun x hx => by
            rw [eM] at hx
            rcases List.mem_append.1 hx with hx | hx
            · obtain ⟨j, hj, rfl⟩ := List.getElem_of_mem (List.mem_of_mem_take hx)
              rw [gd_get hj]; exact (hI j hj).1
            · rcases List.mem_cons.1 hx with rfl | hx
              · exact ⟨hw.1, hw.2.1⟩
              · obtain ⟨j, hj, rfl⟩ := List.getElem_of_mem (List.mem_of_mem_drop hx)
                rw [gd_get hj]; exact (hI j hj).1
          obtain ⟨b, l1, l2⟩ := loop_forS (step := fun s : Int × List TWakeRule => F25_L1 t r s.1 s.2) 256 (fun n => ((n : Int), M.filter fun q => decide (q.Id < (n : Int)))) (fun _ => True) (fun b => b = .inl M) trivial
            (fun n hn _ => by
              have hl : (M.filter fun q => decide (q.Id < (n : Int))).length ≤ 33 := by
                refine Nat.le_trans (List.length_filter_le _ _) (by omega)
              have e1 : capb 40 ((M.filter fun q => decide (q.Id < (n : Int))).length + 1) = true := capb_iff.2 (by omega)
              have st := sort_step M pw (n : Int)
              rw [fM] at st
              unfold F25_L1
              simp only
              rw [bif_t (by simp [bLe_eq]; omega), e1, wr_add1 (n := 256) hn (by omega), need_true rfl]
              refine .inr ⟨?_, trivial⟩
              rw [show ((n + 1 : Nat) : Int) = (n : Int) + 1 from by omega, st]
              cases hu : bEq (n : Int) r.Id with
              | true =>
                rw [cond_true, cond_true, lp_inl (inner_ok t n _ (by omega) (by simp; omega))]
                simp
              | false =>
                rw [cond_false, cond_false, lp_inl (inner_ok3 t n _ (by omega) (by omega))]
                simp)
            (fun _ => by
              unfold F25_L1
              simp only
              rw [bif_f (by simp [bLe_eq])]
              refine ⟨_, rfl, ?_⟩
              rw [List.filter_eq_self.2 fun x hx => by have := idM x hx; simp; omega])
          subst l2
          have e0 : M.filter (fun q => decide (q.Id < ((0 : Nat) : Int))) = [] := List.filter_eq_nil_iff.2 fun x hx => by have := idM x hx; simp; omega
          rw [e0] at l1
          have l1 : loopD (fun s : Int × List TWakeRule => F25_L1 t r s.1 s.2) (0, []) = some (.inl M) := l1
          rw [lp_inl l1]
          exact ⟨_, rfl, rfl, by simp only; omega⟩
    · rw [e2]
      have : w = false := by cases w with | true => exact absurd (w2.1 rfl) hw | false => rfl
      subst this
      exact ⟨_, rfl, rfl, by simp⟩
  · rw [e]
    have : v = false := by cases v with | true => exact absurd (v2.1 rfl) hv | false => rfl
    subst this
    exact ⟨_, rfl, rfl, by simp⟩
theorem same_t (t : TWakeTable) (hl : t.List.length ≤ 1000) : F30 t t = some true := by
  unfold F30
  rw [bif_f (by simp [bEq])]
  obtain ⟨b, l1, l2⟩ := loop_for (step := fun s => F30_L1 t t s) t.List.length (fun _ => True) (fun b => b = .inl ()) trivial
    (fun i hi _ => by
      unfold F30_L1
      rw [bif_t (by simp [bLt_eq]; omega), inb_nat hi]
      simp only [need_true]
      rw [bif_f (by simp [bEq]), wr_add1 hi (by omega)]
      exact .inr ⟨rfl, trivial⟩)
    (fun _ => by
      unfold F30_L1
      rw [bif_f (by simp [bLt_eq])]
      exact ⟨_, rfl, rfl⟩)
  subst l2
  rw [lp_inl l1]
theorem same_i (t : List Int) (hl : t.length ≤ 1000) : F31 t t = some true := by
  unfold F31
  rw [bif_f (by simp [bEq])]
  obtain ⟨b, l1, l2⟩ := loop_for (step := fun s => F31_L1 t t s) t.length (fun _ => True) (fun b => b = .inl ()) trivial
    (fun i hi _ => by
      unfold F31_L1
      rw [bif_t (by simp [bLt_eq]; omega), inb_nat hi]
      simp only [need_true]
      rw [bif_f (by simp [bEq]), wr_add1 hi (by omega)]
      exact .inr ⟨rfl, trivial⟩)
    (fun _ => by
      unfold F31_L1
      rw [bif_f (by simp [bLt_eq])]
      exact ⟨_, rfl, rfl⟩)
  subst l2
  rw [lp_inl l1]
theorem clear_ok (l : List TWakeRule) (hl : l.length ≤ 1000) : loopD (fun s : Int × List TWakeRule => F8_L1 s.1 s.2) (0, l) = some (.inl ()) := by
  obtain ⟨b, l1, l2⟩ := loop_inv (step := fun s : Int × List TWakeRule => F8_L1 s.1 s.2) (fun s => ∃ i : Nat, s.1 = i ∧ i ≤ s.2.length ∧ s.2.length ≤ 1000) (fun b => b = .inl ()) (fun s => (s.2.length - s.1).toNat)
    (fun s hS => by
      obtain ⟨x, L⟩ := s
      obtain ⟨i, h1, h2, h3⟩ := hS
      simp only at h1 h2 h3
      subst h1
      unfold F8_L1
      simp only
      by_cases hi : i < L.length
      · rw [bif_t (by simp [bLt_eq]; omega), need_true (inb_nat hi), wr_add1 hi (by omega)]
        exact .inr ⟨_, rfl, ⟨i + 1, rfl, by simp; omega, by simp; omega⟩, by simp; omega⟩
      · rw [bif_f (by simp [bLt_eq]; omega)]
        exact .inl ⟨_, rfl, rfl⟩) (0, l) ⟨0, rfl, by simp, hl⟩
  subst l2
  exact l1
theorem law8 (t : TWakeTable) (r : TWakeRule) (id now : Int) (hr : -9223372036854775808 ≤ r.Id ∧ r.Id ≤ 9223372036854775807) (hid : -9223372036854775808 ≤ id ∧ id ≤ 9223372036854775807) (hn : -9223372036854775808 ≤ now ∧ now ≤ 9223372036854775807) : F8 t r id now = some true := by
  unfold F8
  obtain ⟨s, s1, s2⟩ := F19_ok t
  rw [s1, Option.bind_some]
  cases s with
  | false => rfl
  | true =>
    obtain ⟨g1, g2⟩ := s2 rfl
    by_cases hnow : now ≤ 60000
    · rw [bif_f (by simp [bLt_eq]; omega), need_true (capb_iff.2 (by omega))]
      obtain ⟨a, a1, a2, a3⟩ := add_ok t r hr
      obtain ⟨b, b1, b2, b3⟩ := rem_ok t id hid
      obtain ⟨c, c1, c2, c3⟩ := first_ok t now (Nx_of g2 ⟨hn.1, hnow⟩) (by omega)
      rw [a1, a2, b1, b2, c1, c2]
      simp only [Option.bind_some]
      have eb : F30 (TWakeTable.mk b.1.List) b.1 = some true := same_t b.1 b3
      have et : F30 t (TWakeTable.mk ([] ++ t.List)) = some true := same_t t (by omega)
      rw [same_t a.1 a3, eb, same_i c.2.1 c3]
      simp only [Option.bind_some, Option.isSome_some, Bool.cond_self, need_true, gt_some]
      rw [lp_inl (clear_ok b.1.List b3)]
      rw [et]
      obtain ⟨v, v1, v2⟩ := F33_ok t
      obtain ⟨w, w1, w2⟩ := F20_ok r
      rw [v1, w1]
      have e1 : ∃ x, F32 t = some x ∧ bEq x 0 = v := by
        rcases F32_ok t with ⟨h, e⟩ | ⟨h, e⟩
        · exact ⟨_, e, by rw [v2.2 h]; rfl⟩
        · exact ⟨_, e, by cases v with | true => exact absurd (v2.1 rfl) h | false => rfl⟩
      have e2 : ∃ x, F17 r = some x ∧ bEq x 0 = w := by
        rcases F17_ok r with ⟨h, e⟩ | ⟨h, e⟩
        · exact ⟨_, e, by rw [w2.2 h]; rfl⟩
        · exact ⟨_, e, by cases w with | true => exact absurd (w2.1 rfl) h | false => rfl⟩
      obtain ⟨x, x1, x2⟩ := e1
      obtain ⟨y, y1, y2⟩ := e2
      rw [x1, y1]
      simp only [Option.bind_some, Option.isSome_some, Bool.cond_self, need_true, gt_some, x2, y2]
      simp [bEq, bB]
    · rw [bif_t (by simp [bLt_eq]; omega)]
end Go.Proofs.Ytpgcekjnpieibaa
