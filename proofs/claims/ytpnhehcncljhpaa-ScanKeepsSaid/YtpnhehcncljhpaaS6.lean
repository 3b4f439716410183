/-
  Learning: the whole of Learn (tables of at most 63 candidates).
-/
import Derived.Test.YtpnhehcncljhpaaS5
namespace Go.Proofs.Ytpnhehcncljhpaa
open Go.Am
set_option linter.unusedVariables false
set_option linter.unusedSimpArgs false
theorem addr_eq (x a : A6u8) : (bEq x.x0 a.x0 && (bEq x.x1 a.x1 && (bEq x.x2 a.x2 && (bEq x.x3 a.x3 && (bEq x.x4 a.x4 && (bEq x.x5 a.x5)))))) = true ↔ x = a := by
  obtain ⟨x0, x1, x2, x3, x4, x5⟩ := x
  obtain ⟨a0, a1, a2, a3, a4, a5⟩ := a
  simp only [Bool.and_eq_true, bEq_eq, decide_eq_true_eq, A6u8.mk.injEq]
/-- The table with y, and without others of its address. -/
def Wy (t x : TCandidates) (y : TCandidate) : Prop := Vt x ∧ Abs x ∧ ∀ q, q ∈ x.List ↔ q = y ∨ (q ∈ t.List ∧ q.Addr ≠ y.Addr)
theorem learn_ok (t : TCandidates) (a : A6u8) (b : TBeacon) (ch lv now : Int) (hb : Abs t) (ha : Ab a) (hE : b.Elems.length ≤ 1000 ∧ By b.Elems) (hi : 0 ≤ b.Interval ∧ b.Interval ≤ 65535) (hn : t.List.length ≤ 63) :
    ∃ r : TCandidates × Int, F17 t a b ch lv now = some r ∧ (r.2 ≠ 0 → r.1 = TCandidates.mk []) ∧
      (r.2 = 0 → Vt t ∧ (0 ≤ now ∧ now ≤ 1099511627776) ∧ ∃ y : TCandidate, (y.Addr = a ∧ y.Channel = ch ∧ y.Level = lv ∧ y.Heard = now ∧ y.Interval = b.Interval ∧ Vc y) ∧ Wy t r.1 y) := by
  unfold F17
  rcases F19_ok t hb with ⟨hv, e⟩ | ⟨hv, e⟩
  · rw [e, Option.bind_some, bif_f (by simp [bEq])]
    simp only [eta_A6u8]
    obtain ⟨v, v1, v2⟩ := F34_ok (TCandidate.mk a ch lv 0 now 1 (ByteArray.mk #[]) false)
    rw [v1, need_true (by simp), gt_some]
    cases hc : (bEq (andI .u8 a.x0 1) 1 || !v) with
    | true => exact ⟨_, rfl, fun _ => rfl, fun h => by cases h⟩
    | false =>
      rw [cond_false]
      have hvv : v = true := by cases v with | true => rfl | false => simp at hc
      have hc0 := v2.1 hvv
      obtain ⟨r, r1, r2⟩ := read_ok (TCandidate.mk a ch lv 0 now 1 (ByteArray.mk #[]) false) b hE.1 hE.2 hi hc0
      rw [r1, Option.bind_some]
      obtain ⟨ok, y⟩ := r
      cases ok with
      | false => exact ⟨_, rfl, fun _ => rfl, fun h => by cases h⟩
      | true =>
        obtain ⟨y1, y2, y3, y4, y5, y6⟩ := r2 rfl
        simp only at y1 y2 y3 y4 y5 y6
        have hnow : 0 ≤ now ∧ now ≤ 1099511627776 := hc0.2.2.2.1
        simp only [Bool.not_true, cond_false]
        have ec : F36 t.List = some t.List := by unfold F36; rw [need_true (capb_iff.2 (by omega))]
        obtain ⟨i, i1, i2, i3, i4⟩ := search_ok t a hv hb ha
        rw [ec, Option.bind_some, i1, Option.bind_some, Int.toNat_natCast]
        have hay : Ab y.Addr := by rw [y1]; exact ha
        by_cases hil : i < t.List.length
        · have e0 : bLt (i : Int) (t.List.length : Nat) = true := by simp [bLt_eq]; omega
          rw [e0, inb_nat hil, need_true (by simp), Bool.true_and]
          by_cases hq : (gd t.List i).Addr = a
          · rw [bif_t ((addr_eq _ _).2 hq), need_true rfl]
            have m := mid_ok (Vl_of hv hb) y i (i + 1) (by omega) (by omega) y6 hay (fun j hj => by rw [y1]; exact i3 j hj) (fun j hj hj2 => by rw [y1, ← hq]; exact Vt_lt hv j hj2 i (by omega)) (fun j hj hj2 => by rw [y1, ← hq, show j = i from by omega]) (by omega)
            have es : t.List.set i y = t.List.take i ++ y :: t.List.drop (i + 1) := List.set_eq_take_append_cons_drop.trans (if_pos hil)
            refine ⟨_, rfl, fun h => absurd rfl h, fun _ => ⟨hv, hnow, y, ⟨y1, y2, y3, y4, y5, y6⟩, ?_⟩⟩
            rw [es]
            have w := of_Vl (t := TCandidates.mk (t.List.take i ++ y :: t.List.drop (i + 1))) m.1
            exact ⟨w.1, w.2, m.2⟩
          · have hlt : nA a < nA (gd t.List i).Addr := by
              have := i4 i (Nat.le_refl _) hil
              rcases Int.lt_or_eq_of_le this with h | h
              · exact h
              · exact absurd (nA_inj ha (hb i hil) h).symm hq
            rw [bif_f (by
              cases hh : (bEq (gd t.List i).Addr.x0 a.x0 && (bEq (gd t.List i).Addr.x1 a.x1 && (bEq (gd t.List i).Addr.x2 a.x2 && (bEq (gd t.List i).Addr.x3 a.x3 && (bEq (gd t.List i).Addr.x4 a.x4 && (bEq (gd t.List i).Addr.x5 a.x5)))))) with
              | false => rfl
              | true => exact absurd ((addr_eq _ _).1 hh) hq), need_true (insb_iff.2 (by omega))]
            have m := mid_ok (Vl_of hv hb) y i i (Nat.le_refl _) (by omega) y6 hay (fun j hj => by rw [y1]; exact i3 j hj) (fun j hj hj2 => by
              rw [y1]
              rcases Nat.lt_or_eq_of_le hj with h | rfl
              · have := Vt_lt hv j hj2 i h; omega
              · exact hlt) (fun j hj hj2 => by omega) (by omega)
            have es : insL t.List (i : Int) [y] = t.List.take i ++ y :: t.List.drop i := by unfold insL; rw [Int.toNat_natCast, List.append_assoc, List.singleton_append]
            simp only [Option.bind_some]
            rw [es, bif_f (by simp [bLt_eq]; omega)]
            have w := of_Vl (t := TCandidates.mk (t.List.take i ++ y :: t.List.drop i)) m.1
            exact ⟨_, rfl, fun h => absurd rfl h, fun _ => ⟨hv, hnow, y, ⟨y1, y2, y3, y4, y5, y6⟩, w.1, w.2, m.2⟩⟩
        · have e0 : bLt (i : Int) (t.List.length : Nat) = false := by simp [bLt_eq]; omega
          rw [e0, need_true (by simp), Bool.false_and, cond_false, need_true (insb_iff.2 (by omega))]
          have m := mid_ok (Vl_of hv hb) y i i (Nat.le_refl _) (by omega) y6 hay (fun j hj => by rw [y1]; exact i3 j hj) (fun j hj hj2 => by omega) (fun j hj hj2 => by omega) (by omega)
          have es : insL t.List (i : Int) [y] = t.List.take i ++ y :: t.List.drop i := by unfold insL; rw [Int.toNat_natCast, List.append_assoc, List.singleton_append]
          simp only [Option.bind_some]
          rw [es, bif_f (by simp [bLt_eq]; omega)]
          have w := of_Vl (t := TCandidates.mk (t.List.take i ++ y :: t.List.drop i)) m.1
          exact ⟨_, rfl, fun h => absurd rfl h, fun _ => ⟨hv, hnow, y, ⟨y1, y2, y3, y4, y5, y6⟩, w.1, w.2, m.2⟩⟩
  · rw [e, Option.bind_some, bif_t (by simp [bEq])]
    exact ⟨_, rfl, fun _ => rfl, fun h => by cases h⟩
/-- The best of a valid table, told by its elements. -/
def Bm (t : TCandidates) (w : TWanted) (now : Int) (c : TCandidate) : Prop := c ∈ t.List ∧ El w now c ∧ ∀ q ∈ t.List, El w now q → Bt c q ∨ (¬ Bt q c ∧ nA c.Addr ≤ nA q.Addr)
theorem Be_Bm {t : TCandidates} {w : TWanted} {now : Int} {c : TCandidate} (hv : Vt t) (h : Be t w now t.List.length c) : Bm t w now c := by
  obtain ⟨j, j1, rfl, j3, j4⟩ := h
  refine ⟨gd_mem j1, j3, fun q hq hqe => ?_⟩
  obtain ⟨m, hm, rfl⟩ := mem_gd hq
  rcases j4 m hm hqe with h | ⟨h1, h2⟩
  · exact .inl h
  · refine .inr ⟨h1, ?_⟩
    rcases Nat.lt_or_eq_of_le h2 with h | rfl
    · have := Vt_lt hv m hm j h; omega
    · omega
theorem Bm_uniq {t : TCandidates} {w : TWanted} {now : Int} {c d : TCandidate} (hv : Vt t) (h1 : Bm t w now c) (h2 : Bm t w now d) : c = d := by
  have e : nA c.Addr = nA d.Addr := by
    have q1 := h1.2.2 d h2.1 h2.2.1
    have q2 := h2.2.2 c h1.1 h1.2.1
    unfold Bt at q1 q2
    omega
  obtain ⟨i, hi, rfl⟩ := mem_gd h1.1
  obtain ⟨j, hj, rfl⟩ := mem_gd h2.1
  rcases Nat.lt_trichotomy i j with h | rfl | h
  · have := Vt_lt hv j hj i h; omega
  · rfl
  · have := Vt_lt hv i hi j h; omega
theorem choose_Bm (t : TCandidates) (w : TWanted) (now : Int) (hb : Abs t) (hv : Vt t) (hn : 0 ≤ now ∧ now ≤ 1099511627776) (c : TCandidate) (hc : Bm t w now c) : F21 t w now = some (c, 0) := by
  obtain ⟨r, r1, r2⟩ := choose_ok t w now hb
  rcases r2 with ⟨q, _⟩ | ⟨_, _, ⟨q1, q2⟩ | ⟨q1, q2, q3⟩⟩
  · exact absurd ⟨hv, hn⟩ q
  · have := Bm_uniq hv (Be_Bm hv q2) hc
    obtain ⟨x, y⟩ := r
    simp only at q1 this
    subst q1 this
    exact r1
  · obtain ⟨j, j1, rfl⟩ := mem_gd hc.1
    exact absurd hc.2.1 (q3 j j1)
end Go.Proofs.Ytpnhehcncljhpaa
