/-
  ScanStays: the plain law.
-/
import Derived.Test.YtpnhehcncljhpaaS7
namespace Go.Proofs.Ytpnhehcncljhpaa
open Go.Am
set_option linter.unusedVariables false
set_option linter.unusedSimpArgs false
theorem alive_ok : F16 = some true := by kernel_rfl
theorem sEq_refl (x : ByteArray) : sEq x x = true := by simp [sEq]
theorem bB_refl (x : Bool) : bB x x = true := by simp [bB_eq]
theorem bEq_refl (x : Int) : bEq x x = true := by simp [bEq]
theorem great_ok (l : List TElement) : ∃ b, F9 l = some b ∧ (b = false → l.length ≤ 100) := by
  unfold F9
  by_cases h : l.length ≤ 100
  · rw [bif_f (by simp [bLt_eq]; omega)]
    obtain ⟨b, l1, l2⟩ := loop_for (step := fun s => F9_L1 l s) l.length (fun _ => True) (fun _ => True) trivial
      (fun i hi _ => by
        unfold F9_L1
        rw [bif_t (by simp [bLt_eq]; omega), need_true (inb_nat hi)]
        cases hb : bLt 1000 (((gd l ((i : Int)).toNat).Data).length : Nat) with
        | true => exact .inl ⟨_, rfl, trivial⟩
        | false => rw [cond_false, wr_add1 hi (by omega)]; exact .inr ⟨rfl, trivial⟩)
      (fun _ => by
        unfold F9_L1
        rw [bif_f (by simp [bLt_eq])]
        exact ⟨_, rfl, trivial⟩)
    cases b with
    | inl u => exact ⟨_, lp_inl l1, fun _ => h⟩
    | inr r => exact ⟨_, lp_inr l1, fun _ => h⟩
  · rw [bif_t (by simp [bLt_eq]; omega)]
    exact ⟨_, rfl, fun h => by cases h⟩
theorem find_ok (x : TCandidates) (a : A6u8) (hl : x.List.length ≤ 1000) : ∃ r : TCandidate × Bool, F18 x a = some r ∧ ((r.2 = true ∧ r.1 ∈ x.List ∧ r.1.Addr = a) ∨ (r.2 = false ∧ ∀ q ∈ x.List, q.Addr ≠ a)) := by
  unfold F18
  obtain ⟨b, l1, l2⟩ := loop_for (step := fun s => F18_L1 x a s) x.List.length (fun n => ∀ j : Nat, j < n → (gd x.List j).Addr ≠ a) (fun b => match b with | .inl _ => ∀ j : Nat, j < x.List.length → (gd x.List j).Addr ≠ a | .inr r => r.2 = true ∧ r.1 ∈ x.List ∧ r.1.Addr = a) (fun i hi => by omega)
    (fun i hi hI => by
      unfold F18_L1
      rw [bif_t (c := bLt _ _) (by simp [bLt_eq]; omega), inb_nat hi, Int.toNat_natCast]
      simp only [need_true, eta_A6u8, eta_TCandidate]
      cases hc : (bEq (gd x.List i).Addr.x0 a.x0 && (bEq (gd x.List i).Addr.x1 a.x1 && (bEq (gd x.List i).Addr.x2 a.x2 && (bEq (gd x.List i).Addr.x3 a.x3 && (bEq (gd x.List i).Addr.x4 a.x4 && (bEq (gd x.List i).Addr.x5 a.x5)))))) with
      | true => exact .inl ⟨_, rfl, rfl, gd_mem hi, (addr_eq _ _).1 hc⟩
      | false =>
        rw [cond_false, wr_add1 hi (by omega)]
        refine .inr ⟨rfl, fun j hj => ?_⟩
        rcases Nat.lt_or_eq_of_le (Nat.le_of_lt_succ hj) with h | rfl
        · exact hI j h
        · exact fun h => by rw [(addr_eq _ _).2 h] at hc; cases hc)
    (fun hI => by
      unfold F18_L1
      rw [bif_f (c := bLt _ _) (by simp [bLt_eq])]
      exact ⟨_, rfl, hI⟩)
  cases b with
  | inl u => exact ⟨_, lp_inl l1, .inr ⟨rfl, fun q hq => by obtain ⟨j, hj, rfl⟩ := mem_gd hq; exact l2 j hj⟩⟩
  | inr r => exact ⟨_, lp_inr l1, .inl l2⟩
theorem el_ok (y : TCandidate) (w : TWanted) (now : Int) (hn : 0 ≤ now ∧ now ≤ 1099511627776) (hy : Vc y) : ∃ b, F24 y w now = some b ∧ (b = true ↔ El w now y) := by
  unfold Vc at hy
  unfold F24 F31
  rw [wr_in (by omega)]
  simp only [Option.isSome_some, Bool.cond_self, need_true, gt_some]
  refine ⟨_, rfl, ?_⟩
  simp only [Bool.and_eq_true, bLe_eq, decide_eq_true_eq, El]
  constructor
  · rintro ⟨⟨⟨x1, x2⟩, x3⟩, x4, x5⟩; exact ⟨x1, x2, x3, x4, x5⟩
  · rintro ⟨x1, x2, x3, x4, x5⟩; exact ⟨⟨⟨x1, x2⟩, x3⟩, x4, x5⟩
theorem before_iff (a b : A6u8) (ha : Ab a) (hb : Ab b) : ∃ r, F22 a b = some r ∧ (r = true ↔ nA a < nA b) := by
  unfold F22
  unfold Ab at ha hb
  unfold nA
  by_cases h0 : a.x0 = b.x0
  · rw [bif_f (by simp [bEq, h0])]
    by_cases h1 : a.x1 = b.x1
    · rw [bif_f (by simp [bEq, h1])]
      by_cases h2 : a.x2 = b.x2
      · rw [bif_f (by simp [bEq, h2])]
        by_cases h3 : a.x3 = b.x3
        · rw [bif_f (by simp [bEq, h3])]
          by_cases h4 : a.x4 = b.x4
          · rw [bif_f (by simp [bEq, h4])]
            by_cases h5 : a.x5 = b.x5
            · rw [bif_f (by simp [bEq, h5])]
              exact ⟨_, rfl, fun h => (by cases h), fun h => by omega⟩
            · rw [bif_t (by simp [bEq, h5])]
              exact ⟨_, rfl, fun h => (by simp [bLt_eq] at h; omega), fun h => by simp [bLt_eq]; omega⟩
          · rw [bif_t (by simp [bEq, h4])]
            exact ⟨_, rfl, fun h => (by simp [bLt_eq] at h; omega), fun h => by simp [bLt_eq]; omega⟩
        · rw [bif_t (by simp [bEq, h3])]
          exact ⟨_, rfl, fun h => (by simp [bLt_eq] at h; omega), fun h => by simp [bLt_eq]; omega⟩
      · rw [bif_t (by simp [bEq, h2])]
        exact ⟨_, rfl, fun h => (by simp [bLt_eq] at h; omega), fun h => by simp [bLt_eq]; omega⟩
    · rw [bif_t (by simp [bEq, h1])]
      exact ⟨_, rfl, fun h => (by simp [bLt_eq] at h; omega), fun h => by simp [bLt_eq]; omega⟩
  · rw [bif_t (by simp [bEq, h0])]
    exact ⟨_, rfl, fun h => (by simp [bLt_eq] at h; omega), fun h => by simp [bLt_eq]; omega⟩
theorem better_ok (y c : TCandidate) (hy : Vc y ∧ Ab y.Addr) (hc : Vc c ∧ Ab c.Addr) : ∃ b, F25 y c = some b ∧ (b = true ↔ Bt y c ∨ (¬ Bt c y ∧ nA y.Addr < nA c.Addr)) := by
  obtain ⟨r, r1, r2⟩ := before_iff y.Addr c.Addr hy.2 hc.2
  have hy := hy.1
  have hc := hc.1
  unfold Vc at hy hc
  unfold F25
  rw [wr_in (x := y.Level - y.Load) (by omega), wr_in (x := c.Level - c.Load) (by omega), r1]
  unfold Bt
  by_cases h1 : y.Level - y.Load = c.Level - c.Load
  · rw [bif_f (by simp [bEq, h1])]
    by_cases h2 : y.Level = c.Level
    · rw [bif_f (by simp [bEq, h2])]
      exact ⟨r, rfl, by rw [r2]; omega⟩
    · rw [bif_t (by simp [bEq, h2])]
      exact ⟨_, rfl, by simp only [bLt_eq, decide_eq_true_eq]; omega⟩
  · rw [bif_t (by simp [bEq, h1])]
    exact ⟨_, rfl, by simp only [bLt_eq, decide_eq_true_eq]; omega⟩
theorem young_Bm {t : TCandidates} {w : TWanted} {now : Int} {c : TCandidate} (hv : Vt t) (hb : Abs t) (h : Bm t w now c) : Vt (TCandidates.mk (t.List.filter (yg now w.Life))) ∧ Abs (TCandidates.mk (t.List.filter (yg now w.Life))) ∧ Bm (TCandidates.mk (t.List.filter (yg now w.Life))) w now c := by
  obtain ⟨g1, g2, g3⟩ := Vl_of hv hb
  have w1 := of_Vl (t := TCandidates.mk (t.List.filter (yg now w.Life))) ⟨Nat.le_trans (List.length_filter_le _ _) g1, g2.sublist (List.filter_sublist), fun q hq => g3 q (List.mem_filter.1 hq).1⟩
  refine ⟨w1.1, w1.2, List.mem_filter.2 ⟨h.1, ?_⟩, h.2.1, fun q hq he => h.2.2 q (List.mem_filter.1 hq).1 he⟩
  have := h.2.1.2.2.2.2
  simp [yg, bLt_eq]; omega
theorem learn_ch (t : TCandidates) (w : TWanted) (a : A6u8) (b : TBeacon) (ch lv now : Int) (hb : Abs t) (ha : Ab a) (hE : b.Elems.length ≤ 1000 ∧ By b.Elems) (hi : 0 ≤ b.Interval ∧ b.Interval ≤ 65535) (hn : t.List.length ≤ 63) (c : TCandidate) (hc : Bm t w now c) (hca : c.Addr ≠ a) :
    ∃ r : TCandidates × Int, F17 t a b ch lv now = some r ∧ (r.2 ≠ 0 ∨ (r.2 = 0 ∧ ∃ (y : TCandidate) (e bt : Bool), F18 r.1 a = some (y, true) ∧ F24 y w now = some e ∧ F25 y c = some bt ∧ F21 r.1 w now = some (bif e && bt then y else c, 0))) := by
  obtain ⟨r, r1, _, r3⟩ := learn_ok t a b ch lv now hb ha hE hi hn
  refine ⟨r, r1, ?_⟩
  by_cases h0 : r.2 = 0
  · obtain ⟨hv, hnow, y, ⟨y1, _, _, _, _, y6⟩, w1, w2, w3⟩ := r3 h0
    refine .inr ⟨h0, y, ?_⟩
    obtain ⟨e, e1, e2⟩ := el_ok y w now hnow y6
    have hvl := Vl_of hv hb
    obtain ⟨bt, b1, b2⟩ := better_ok y c ⟨y6, by rw [y1]; exact ha⟩ (hvl.2.2 c hc.1)
    refine ⟨e, bt, ?_, e1, b1, ?_⟩
    · obtain ⟨f, f1, f2⟩ := find_ok r.1 a (by have := w1.1; omega)
      rw [f1]
      rcases f2 with ⟨q1, q2, q3⟩ | ⟨_, q⟩
      · rcases (w3 f.1).1 q2 with q | ⟨_, q⟩
        · obtain ⟨f1, f2⟩ := f
          simp only at q1 q
          rw [q1, q]
        · exact absurd (q3.trans y1.symm) q
      · exact absurd y1 (q y ((w3 y).2 (.inl rfl)))
    · refine choose_Bm r.1 w now w2 w1 hnow _ ?_
      cases hh : (e && bt) with
      | true =>
        simp only [Bool.and_eq_true] at hh
        have q2 := b2.1 hh.2
        rw [cond_true]
        refine ⟨(w3 y).2 (.inl rfl), e2.1 hh.1, fun q hq hqe => ?_⟩
        rcases (w3 q).1 hq with rfl | ⟨hq, _⟩
        · exact .inr ⟨by unfold Bt; omega, by omega⟩
        · have q3 := hc.2.2 q hq hqe
          unfold Bt at *
          omega
      | false =>
        rw [cond_false]
        refine ⟨(w3 c).2 (.inr ⟨hc.1, by rw [y1]; exact hca⟩), hc.2.1, fun q hq hqe => ?_⟩
        rcases (w3 q).1 hq with rfl | ⟨hq, _⟩
        · have he := e2.2 hqe
          subst he
          have : ¬ (Bt q c ∨ (¬ Bt c q ∧ nA q.Addr < nA c.Addr)) := fun h => by have := b2.2 h; subst this; cases hh
          unfold Bt at *
          omega
        · exact hc.2.2 q hq hqe
  · exact .inl h0
end Go.Proofs.Ytpnhehcncljhpaa
