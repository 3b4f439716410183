/-
  Regulate: the reference's checks; equal states; new states; what was listened to.
-/
import Derived.Test.YtjhkehdbjnhplaaQ7F
namespace Go.Proofs.Ytjhkehdbjnhplaa
open Go.Am
set_option linter.unusedVariables false
set_option linter.unusedSimpArgs false
theorem pre_i {i n : Nat} (hi : i < n) (hn : n <= 1000) (h0 : 0 < i) : wr .i64 ((i : Int) - 1) = ((i - 1 : Nat) : Int) := by rw [wr_in (by omega)]; omega
theorem F62_ok (l : List TRegulateChannel) (hl : l.length <= 1000) : ∃ b, F62 l = some b /\ (b = true ↔ Vt l) := by
  unfold F62
  rcases chk_gen (step := fun s => F62_L1 l s) l.length (fun i => ((1 <= (gd l i).Number /\ (gd l i).Number <= 255) /\ 0 <= (gd l i).Max /\ (gd l i).Max <= 400) /\ (0 < i -> (gd l (i - 1)).Number < (gd l i).Number)) false () (fun i hi => by
      show (_ /\ F62_L1 l i = _) ∨ (_ /\ F62_L1 l i = _)
      unfold F62_L1
      rw [bif_t (c := bLt _ _) (by simp [bLt_eq]; omega), inb_nat hi, Int.toNat_natCast, wr_add1 hi (by omega)]
      by_cases h0 : 0 < i
      · rw [pre_i hi hl h0, inb_nat (show i - 1 < l.length by omega), Int.toNat_natCast]
        simp only [Bool.cond_self, need_true]
        by_cases hp : ((1 <= (gd l i).Number /\ (gd l i).Number <= 255) /\ 0 <= (gd l i).Max /\ (gd l i).Max <= 400) /\ (0 < i -> (gd l (i - 1)).Number < (gd l i).Number)
        · refine .inl ⟨hp, bif_f ?_⟩
          have := hp.2 h0
          simp only [bLt_eq, bLe_eq, Bool.or_eq_false_iff, Bool.and_eq_false_iff, decide_eq_false_iff_not]
          omega
        · refine .inr ⟨hp, bif_t ?_⟩
          simp only [bLt_eq, bLe_eq, Bool.or_eq_true, Bool.and_eq_true, decide_eq_true_eq]
          omega
      · obtain rfl : i = 0 := by omega
        rw [show bLt 0 ((0 : Nat) : Int) = false from by decide]
        simp only [Bool.cond_self, need_true, Bool.false_and, Bool.or_false, Bool.and_false, cond_false]
        by_cases hp : ((1 <= (gd l 0).Number /\ (gd l 0).Number <= 255) /\ 0 <= (gd l 0).Max /\ (gd l 0).Max <= 400) /\ (0 < 0 -> (gd l (0 - 1)).Number < (gd l 0).Number)
        · refine .inl ⟨hp, bif_f ?_⟩
          simp only [bLt_eq, bLe_eq, Bool.or_eq_false_iff, Bool.and_eq_false_iff, decide_eq_false_iff_not]
          omega
        · refine .inr ⟨hp, bif_t ?_⟩
          simp only [bLt_eq, bLe_eq, Bool.or_eq_true, Bool.and_eq_true, decide_eq_true_eq]
          omega)
    (by show F62_L1 l _ = _; unfold F62_L1; rw [bif_f (by simp [bLt_eq])]) with ⟨h, e⟩ | ⟨h, e⟩
  · rw [lp_inl e]
    refine ⟨_, rfl, ?_⟩
    simp only [bLe_eq, Bool.and_eq_true, decide_eq_true_eq, Vt]
    constructor
    · intro q
      refine ⟨by omega, fun c hc => ?_, adj_srt (fun q : TRegulateChannel => q.Number) l fun i hi h0 => (h i hi).2 h0⟩
      obtain ⟨i, hi, rfl⟩ := mem_gd hc
      exact (h i hi).1
    · intro q; omega
  · rw [lp_inr e]
    refine ⟨false, rfl, ⟨fun q => absurd q (by decide), fun q => absurd (fun i hi => ⟨q.2.1 _ (gd_mem hi), fun h0 => ?_⟩) h⟩⟩
    exact srt_gd (fun q : TRegulateChannel => q.Number) q.2.2 (show i - 1 < i by omega) hi
theorem F63_ok (t : Int) : ∃ b, F63 t = some b /\ (b = true ↔ Mo t) := by
  refine ⟨_, rfl, ?_⟩
  simp only [bLe_eq, Bool.and_eq_true, decide_eq_true_eq, Mo]
theorem F18_is (s : TRegulate) (n : Int) (hl : s.Table.length <= 1000) : ∃ c b, F18 s.Table n = some (c, b) /\ (b = true ↔ Ht s n) /\ (b = true -> c ∈ s.Table /\ c.Number = n) := by
  rcases F18_ok s.Table n (by omega) with ⟨h, e⟩ | ⟨c, h1, h2, e⟩
  · exact ⟨_, _, e, ⟨fun q => absurd q (by decide), fun ⟨q, hq, e⟩ => absurd e (h q hq)⟩, fun q => absurd q (by decide)⟩
  · exact ⟨_, _, e, ⟨fun _ => ⟨c, h1, h2⟩, fun _ => rfl⟩, fun _ => ⟨h1, h2⟩⟩
theorem F19_is (l : List TRegulateBlock) (n : Int) (hl : l.length <= 1000) : ∃ u b, F19 l n = some (u, b) /\ (b = true ↔ ∃ q ∈ l, q.Channel = n) := by
  rcases F19_ok l n (by omega) with ⟨h, e⟩ | ⟨c, h1, h2, e⟩
  · exact ⟨_, _, e, ⟨fun q => absurd q (by decide), fun ⟨q, hq, e⟩ => absurd e (h q hq)⟩⟩
  · exact ⟨_, _, e, ⟨fun _ => ⟨c, h1, h2⟩, fun _ => rfl⟩⟩
theorem F34_ok (s : TRegulate) (hg : Gr s) : ∃ b, F34 s = some b /\ (b = true ↔ Vs s) := by
  obtain ⟨g1, g2, g3⟩ := hg
  obtain ⟨c1, b1, e1, i1, _⟩ := F18_is s s.Channel g1
  obtain ⟨c2, b2, e2, i2, _⟩ := F18_is s s.To g1
  obtain ⟨bt, e3, i3⟩ := F62_ok s.Table g1
  obtain ⟨bh, e4, i4⟩ := F63_ok s.Heard
  obtain ⟨ba, e5, i5⟩ := F63_ok s.At
  unfold F34
  rw [e1, e3, e4, e5, e2]
  simp only [Option.isSome_some, Bool.cond_self, need_true, gt_some, Option.bind_some]
  by_cases hA : Vt s.Table /\ Ht s s.Channel /\ Mo s.Heard /\ Mo s.At /\ (s.Lead = true -> s.Heard = 0) /\ (s.Moving = true -> s.Stopped = true)
  · obtain ⟨a1, a2, a3, a4, a5, a6⟩ := hA
    rw [bif_f (by
      rw [i3.2 a1, i1.2 a2, i4.2 a3, i5.2 a4]
      cases hL : s.Lead <;> cases hM : s.Moving <;> simp [bEq_eq, hL, hM] at a5 a6 ⊢ <;> first | exact a5 | exact a6 | exact ⟨a5, a6⟩)]
    by_cases hB : (s.Moving = true -> Ht s s.To) /\ (s.Moving = false -> s.To = 0 /\ s.At = 0)
    · rw [bif_f (by
        cases hM : s.Moving with
        | true => rw [i2.2 (hB.1 hM)]; rfl
        | false => have := hB.2 hM; simp [bEq_eq, this])]
      rcases chk_gen (step := fun e => F34_L1 s e) s.Blocked.length (fun i => (Ht s (gd s.Blocked i).Channel /\ Mo (gd s.Blocked i).Until) /\ (0 < i -> (gd s.Blocked (i - 1)).Channel < (gd s.Blocked i).Channel)) false () (fun i hi => by
          show (_ /\ F34_L1 s i = _) ∨ (_ /\ F34_L1 s i = _)
          unfold F34_L1
          obtain ⟨c, b, e6, i6, _⟩ := F18_is s (gd s.Blocked i).Channel g1
          obtain ⟨m, e7, i7⟩ := F63_ok (gd s.Blocked i).Until
          rw [bif_t (c := bLt _ _) (by simp [bLt_eq]; omega), inb_nat hi, Int.toNat_natCast, wr_add1 hi (by omega), e6, e7]
          simp only [Option.bind_some, Option.isSome_some, gt_some, Bool.cond_self, need_true]
          rw [← i6, ← i7]
          by_cases h0 : 0 < i
          · rw [pre_i hi g2 h0, inb_nat (show i - 1 < s.Blocked.length by omega), Int.toNat_natCast]
            simp only [Bool.cond_self, need_true]
            by_cases hp : (b = true /\ m = true) /\ (0 < i -> (gd s.Blocked (i - 1)).Channel < (gd s.Blocked i).Channel)
            · refine .inl ⟨hp, bif_f ?_⟩
              have := hp.2 h0
              rw [hp.1.1, hp.1.2]
              simp [bLe_eq]; omega
            · refine .inr ⟨hp, bif_t ?_⟩
              cases b <;> cases m <;> simp [bLe_eq, bLt_eq, h0] at hp ⊢
              omega
          · obtain rfl : i = 0 := by omega
            rw [show bLt 0 ((0 : Nat) : Int) = false from by decide]
            simp only [Bool.cond_self, need_true, Bool.false_and, Bool.or_false, Bool.and_false, cond_false]
            cases b <;> cases m <;> simp)
        (by show F34_L1 s _ = _; unfold F34_L1; rw [bif_f (by simp [bLt_eq])]) with ⟨h, e⟩ | ⟨h, e⟩
      · rw [lp_inl e]
        rcases chk_gen (step := fun e => F34_L2 s e) s.Clear.length (fun i => (Pc s (gd s.Clear i) /\ ¬ ∃ q ∈ s.Blocked, q.Channel = gd s.Clear i) /\ (0 < i -> gd s.Clear (i - 1) < gd s.Clear i)) false () (fun i hi => by
            show (_ /\ F34_L2 s i = _) ∨ (_ /\ F34_L2 s i = _)
            unfold F34_L2
            obtain ⟨c, b, e6, i6, j6⟩ := F18_is s (gd s.Clear i) g1
            obtain ⟨u, m, e7, i7⟩ := F19_is s.Blocked (gd s.Clear i) g2
            rw [bif_t (c := bLt _ _) (by simp [bLt_eq]; omega), inb_nat hi, Int.toNat_natCast, wr_add1 hi (by omega), e6, e7]
            simp only [Option.bind_some, Option.isSome_some, gt_some, Bool.cond_self, need_true]
            have hPc : Pc s (gd s.Clear i) ↔ (b = true /\ c.Radar = true) := by
              constructor
              · rintro ⟨q, hq, e, r⟩
                have hb := i6.2 ⟨q, hq, e⟩
                obtain ⟨d1, d2⟩ := j6 hb
                rw [key_inj (k := fun q : TRegulateChannel => q.Number) a1.2.2 d1 hq (d2.trans e.symm)]
                exact ⟨hb, r⟩
              · rintro ⟨hb, r⟩
                obtain ⟨d1, d2⟩ := j6 hb
                exact ⟨c, d1, d2, r⟩
            rw [← i7, hPc]
            by_cases h0 : 0 < i
            · rw [pre_i hi g3 h0, inb_nat (show i - 1 < s.Clear.length by omega), Int.toNat_natCast]
              simp only [Bool.cond_self, need_true]
              by_cases hp : ((b = true /\ c.Radar = true) /\ ¬ m = true) /\ (0 < i -> gd s.Clear (i - 1) < gd s.Clear i)
              · refine .inl ⟨hp, bif_f ?_⟩
                have := hp.2 h0
                rw [hp.1.1.1, hp.1.1.2, Bool.eq_false_iff.2 hp.1.2]
                simp [bLe_eq]; omega
              · refine .inr ⟨hp, bif_t ?_⟩
                cases b <;> cases hr : c.Radar <;> cases m <;> simp [bLe_eq, bLt_eq, h0, hr] at hp ⊢
                omega
            · obtain rfl : i = 0 := by omega
              rw [show bLt 0 ((0 : Nat) : Int) = false from by decide]
              simp only [Bool.cond_self, need_true, Bool.false_and, Bool.or_false, Bool.and_false, cond_false]
              cases b <;> cases c.Radar <;> cases m <;> simp)
          (by show F34_L2 s _ = _; unfold F34_L2; rw [bif_f (by simp [bLt_eq])]) with ⟨h2, e2⟩ | ⟨h2, e2⟩
        · rw [lp_inl e2]
          refine ⟨true, rfl, ⟨fun _ => ⟨a1, a2, a3, a4, a5, fun q => ⟨a6 q, hB.1 q⟩, hB.2, adj_srt (fun q : TRegulateBlock => q.Channel) s.Blocked fun i hi h0 => (h i hi).2 h0, adj_srt (fun q : Int => q) s.Clear fun i hi h0 => (h2 i hi).2 h0, fun q hq => ?_, fun n hn => ?_⟩, fun _ => rfl⟩⟩
          · obtain ⟨i, hi, rfl⟩ := mem_gd hq
            refine ⟨(h i hi).1.1, (h i hi).1.2, fun hc => ?_⟩
            obtain ⟨j, hj, ej⟩ := mem_gd hc
            exact (h2 j hj).1.2 ⟨_, gd_mem hi, ej.symm⟩
          · obtain ⟨i, hi, rfl⟩ := mem_gd hn
            exact (h2 i hi).1.1
        · rw [lp_inr e2]
          refine ⟨false, rfl, ⟨fun q => absurd q (by decide), fun q => absurd (fun i hi => ?_) h2⟩⟩
          obtain ⟨v1, v2, v3, v4, v5, v6, v7, v8, v9, v10, v11⟩ := q
          exact ⟨⟨v11 _ (gd_mem hi), fun ⟨q, hq, e⟩ => (v10 q hq).2.2 (by rw [e]; exact gd_mem hi)⟩, fun h0 => srt_gd (fun q : Int => q) v9 (show i - 1 < i by omega) hi⟩
      · rw [lp_inr e]
        refine ⟨false, rfl, ⟨fun q => absurd q (by decide), fun q => absurd (fun i hi => ?_) h⟩⟩
        obtain ⟨v1, v2, v3, v4, v5, v6, v7, v8, v9, v10, v11⟩ := q
        exact ⟨⟨(v10 _ (gd_mem hi)).1, (v10 _ (gd_mem hi)).2.1⟩, fun h0 => srt_gd (fun q : TRegulateBlock => q.Channel) v8 (show i - 1 < i by omega) hi⟩
    · rw [bif_t (by
        cases hM : s.Moving with
        | true =>
          cases b2 with
          | true => exact absurd ⟨fun _ => i2.1 rfl, fun q => by rw [hM] at q; cases q⟩ hB
          | false => rfl
        | false =>
          by_cases hT : s.To = 0
          · by_cases hAt : s.At = 0
            · exact absurd ⟨fun q => (by rw [hM] at q; cases q), fun _ => ⟨hT, hAt⟩⟩ hB
            · simp [bEq_eq, hT, hAt]
          · simp [bEq_eq, hT])]
      exact ⟨false, rfl, ⟨fun q => absurd q (by decide), fun q => absurd ⟨fun m => (q.2.2.2.2.2.1 m).2, q.2.2.2.2.2.2.1⟩ hB⟩⟩
  · rw [bif_t]
    · exact ⟨false, rfl, ⟨fun q => absurd q (by decide), fun q => absurd ⟨q.1, q.2.1, q.2.2.1, q.2.2.2.1, q.2.2.2.2.1, fun m => (q.2.2.2.2.2.1 m).1⟩ hA⟩⟩
    · rw [← i3, ← i1, ← i4, ← i5] at hA
      cases bt <;> cases b1 <;> cases bh <;> cases ba <;> cases hL : s.Lead <;> cases hM : s.Moving <;> cases hS : s.Stopped <;> simp [bEq_eq, hL, hM, hS] at hA ⊢ <;> exact hA
end Go.Proofs.Ytjhkehdbjnhplaa
