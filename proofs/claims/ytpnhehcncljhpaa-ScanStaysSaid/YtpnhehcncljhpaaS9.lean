/-
  ScanStays: the law.
-/
import Derived.Test.YtpnhehcncljhpaaS8
namespace Go.Proofs.Ytpnhehcncljhpaa
open Go.Am
set_option linter.unusedVariables false
set_option linter.unusedSimpArgs false
theorem law7 (t : TCandidates) (w : TWanted) (a : A6u8) (b : TBeacon) (ch lv now : Int) (hb : Abs t) (ha : Ab a) (hE : By b.Elems) (hi : 0 ≤ b.Interval ∧ b.Interval ≤ 65535) : F7 t w a b ch lv now = some true := by
  unfold F7
  rw [alive_ok, Option.bind_some]
  obtain ⟨g, g1, g2⟩ := great_ok b.Elems
  rw [g1, need_true (by simp), gt_some]
  cases hc : (((bLt 63 (t.List.length : Nat) || g) || bLt 1000 (w.Name.size : Nat)) || (!true)) with
  | true => rfl
  | false =>
    have hc' := hc
    simp only [Bool.or_eq_false_iff, bLt_eq, decide_eq_false_iff_not] at hc'
    have hn63 : t.List.length ≤ 63 := by have := hc'.1.1.1; omega
    have hel := g2 hc'.1.1.2
    rw [cond_false]
    obtain ⟨r, r1, r2⟩ := choose_ok t w now hb
    rw [r1, Option.bind_some]
    rcases r2 with ⟨_, q1, _⟩ | ⟨hv, hn, ⟨q1, q2⟩ | ⟨q1, _⟩⟩
    · rw [bif_t (by simp [bEq, q1])]
    · have hB := Be_Bm hv q2
      by_cases hca : r.1.Addr = a
      · rw [bif_t (by rw [(addr_eq _ _).2 hca]; simp)]
      · have ne6 : (bEq r.1.Addr.x0 a.x0 && (bEq r.1.Addr.x1 a.x1 && (bEq r.1.Addr.x2 a.x2 && (bEq r.1.Addr.x3 a.x3 && (bEq r.1.Addr.x4 a.x4 && (bEq r.1.Addr.x5 a.x5)))))) = false := by
          cases hh : (bEq r.1.Addr.x0 a.x0 && (bEq r.1.Addr.x1 a.x1 && (bEq r.1.Addr.x2 a.x2 && (bEq r.1.Addr.x3 a.x3 && (bEq r.1.Addr.x4 a.x4 && (bEq r.1.Addr.x5 a.x5)))))) with
          | false => rfl
          | true => exact absurd ((addr_eq _ _).1 hh) hca
        rw [bif_f (by rw [ne6]; simp [bEq, q1])]
        obtain ⟨x, x1, x2⟩ := learn_ch t w a b ch lv now hb ha ⟨by omega, hE⟩ hi hn63 r.1 hB hca
        have hlife := hB.2.1.2.2.2
        by_cases hL : w.Life ≤ 1099511627776
        · obtain ⟨y1, y2, y3⟩ := young_Bm hv hb hB
          rw [bif_t (by simp [bLe_eq, hL]), age_ok t now w.Life hb hv hn (by omega), Option.bind_some, choose_Bm _ w now y2 y1 hn r.1 y3, Option.bind_some]
          simp only [bEq_refl, sEq_refl, bB_refl, Bool.and_self, Bool.not_true, Bool.or_self, cond_false]
          rw [x1, Option.bind_some]
          rcases x2 with h | ⟨h0, y, e, bt, f1, e1, b1, c1⟩
          · rw [bif_t (by simp [bEq, h])]
          · rw [h0, f1, c1]
            simp only [Option.bind_some, bEq_refl, Bool.not_true, Bool.or_self, cond_false]
            rw [e1]
            simp only [Option.bind_some]
            rw [b1]
            simp only [Option.isSome_some, Bool.cond_self, need_true, gt_some]
            cases (e && bt) with
            | true => simp only [cond_true, bEq_refl, sEq_refl, bB_refl, Bool.and_self]
            | false => simp only [cond_false, bEq_refl, sEq_refl, bB_refl, Bool.and_self]
        · rw [bif_f (by simp [bLe_eq]; omega)]
          rw [x1, Option.bind_some]
          rcases x2 with h | ⟨h0, y, e, bt, f1, e1, b1, c1⟩
          · rw [bif_t (by simp [bEq, h])]
          · rw [h0, f1, c1]
            simp only [Option.bind_some, bEq_refl, Bool.not_true, Bool.or_self, cond_false]
            rw [e1]
            simp only [Option.bind_some]
            rw [b1]
            simp only [Option.isSome_some, Bool.cond_self, need_true, gt_some]
            cases (e && bt) with
            | true => simp only [cond_true, bEq_refl, sEq_refl, bB_refl, Bool.and_self]
            | false => simp only [cond_false, bEq_refl, sEq_refl, bB_refl, Bool.and_self]
    · rw [bif_t (by simp [bEq, q1])]
end Go.Proofs.Ytpnhehcncljhpaa
