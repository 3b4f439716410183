/-
  Regulate: listening; the law of states.
-/
import Derived.Test.YtjhkehdbjnhplaaQ6H
namespace Go.Proofs.Ytjhkehdbjnhplaa
open Go.Am
set_option linter.unusedVariables false
set_option linter.unusedSimpArgs false
/-- The clear channels after listening. -/
def lcP (s : TRegulate) (n : Int) (q : TRegulateChannel) : Bool := bEq q.Number n || decide (q.Number ∈ s.Clear)
def lcL (s : TRegulate) (n : Int) : List Int := (s.Table.filter (lcP s n)).map (fun q => q.Number)
theorem lc_srt (s : TRegulate) (n : Int) (rt : Rc s.Table) : Ri (lcL s n) := by
  unfold lcL Ri
  exact List.pairwise_map.2 (pw_fil (k := fun q : TRegulateChannel => q.Number) _ rt)
theorem lc_mem (s : TRegulate) (n x : Int) (hn : Ht s n) (hc : ∀ n ∈ s.Clear, Pc s n) : x ∈ lcL s n ↔ x = n ∨ x ∈ s.Clear := by
  unfold lcL lcP
  simp only [List.mem_map, List.mem_filter, Bool.or_eq_true, bEq_eq, decide_eq_true_eq]
  constructor
  · rintro ⟨q, ⟨_, h⟩, rfl⟩; exact h
  · rintro (rfl | h)
    · obtain ⟨q, hq, e⟩ := hn; exact ⟨q, ⟨hq, .inl e⟩, e⟩
    · obtain ⟨q, hq, e, _⟩ := hc x h; exact ⟨q, ⟨hq, .inr (by rw [e]; exact h)⟩, e⟩
theorem lc_old (s : TRegulate) (n : Int) (h : Vs s) (hn : n ∈ s.Clear) : lcL s n = s.Clear := by
  obtain ⟨v1, v2, v3, v4, v5, v6, v7, v8, v9, v10, v11⟩ := h
  refine srt_ext (lc_srt s n v1.2.2) v9 fun x => ?_
  obtain ⟨q, hq, e, _⟩ := v11 n hn
  rw [lc_mem s n x ⟨q, hq, e⟩ v11]
  exact ⟨fun q => q.elim (fun e => by rw [e]; exact hn) id, .inr⟩
theorem lc_new (s : TRegulate) (n : Int) (h : Vs s) (hn : Ht s n) {A B : List Int} (e : s.Clear = A ++ B) (hA : ∀ q ∈ A, q < n) (hB : ∀ q ∈ B, n < q) : lcL s n = A ++ n :: B := by
  obtain ⟨v1, v2, v3, v4, v5, v6, v7, v8, v9, v10, v11⟩ := h
  refine srt_ext (lc_srt s n v1.2.2) (pw_ins (k := fun q : Int => q) (by rw [← e]; exact v9) hA hB) fun x => ?_
  rw [lc_mem s n x hn v11, e]
  simp only [List.mem_append, List.mem_cons]
  constructor
  · rintro (h | h | h)
    · exact .inr (.inl h)
    · exact .inl h
    · exact .inr (.inr h)
  · rintro (h | h | h)
    · exact .inr (.inl h)
    · exact .inl h
    · exact .inr (.inr h)
theorem lc_len (s : TRegulate) (n : Int) : (lcL s n).length <= s.Table.length := by unfold lcL; rw [List.length_map]; exact List.length_filter_le ..
def nC (s : TRegulate) (n : Int) (c : TRegulateChannel) : List Int := bif c.Radar then lcL s n else s.Clear
/-- The program's clear channels. -/
theorem clr_ok (s : TRegulate) (n : Int) (c : TRegulateChannel) (hg : Gr0 s) (h : Vs s) (hc : c ∈ s.Table) (ec : c.Number = n) (k : List Int -> Option (TRegulate × Int)) :
    ((F70 s.Clear n).bind fun r13 => need (bif (!r13.2) then ((F51_0 s.Table n).isSome) else true) <| bif ((!r13.2) && (gt (F51_0 s.Table n)).Radar) then (need (insb r13.1 s.Clear.length) <| (some [n]).bind fun w17 => (some (insL s.Clear r13.1 [n])).bind fun w19 => k w19) else k s.Clear) = k (nC s n c) := by
  obtain ⟨g1, g2, g3⟩ := hg
  have f51 : F51_0 s.Table n = some c := by rw [← ec]; exact F51_ok s.Table c (by omega) h.1.2.2 hc
  unfold nC
  obtain ⟨A, B, e, hA, q | ⟨b, B', rfl, h1, h2, h3⟩⟩ := F70_ok s.Clear n (by omega) h.2.2.2.2.2.2.2.2.1
  · rw [q.2, Option.bind_some, f51]
    simp only [Option.isSome_some, Bool.cond_self, need_true, gt_some, Bool.not_false, Bool.true_and, Option.bind_some]
    cases c.Radar with
    | false => rfl
    | true =>
      have hl : A.length <= s.Clear.length := by rw [e]; simp
      have hi : insL s.Clear (A.length : Int) [n] = A ++ n :: B := by
        unfold insL
        rw [e, Int.toNat_natCast]; simp
      simp only [cond_true]
      rw [need_true (insb_iff.2 (by omega)), hi, lc_new s n h ⟨c, hc, ec⟩ e hA q.1]
  · rw [h3, Option.bind_some, f51]
    simp only [Option.isSome_some, Bool.cond_self, need_true, gt_some, Bool.not_true, Bool.false_and, cond_false, Option.bind_some]
    rw [lc_old s n h (by rw [e, h1]; simp)]
    cases c.Radar <;> rfl
/-- The reference's clear channels. -/
theorem F30_L (s : TRegulate) (n : Int) (hg : Gr0 s) : loopD (fun e => F30_L1 s n e.1 e.2) (0, []) = some (.inl (lcL s n)) := by
  obtain ⟨g1, g2, g3⟩ := hg
  have := run_gen (step := fun e => F30_L1 s n e.1 e.2) s.Table.length (fun i => ((i : Int), ((s.Table.take i).filter (lcP s n)).map (fun c => c.Number))) (lcL s n) (fun i hi => by
      show F30_L1 s n i _ = _
      unfold F30_L1
      obtain ⟨b, b1, b2⟩ := F20_ok s.Clear (gd s.Table i).Number (by omega)
      rw [bif_t (c := bLt _ _) (by simp [bLt_eq]; omega), need_true (inb_nat hi), Int.toNat_natCast, wr_add1 hi (by omega), us_step _ s.Table hi, b1]
      simp only [Option.isSome_some, Bool.cond_self, need_true, gt_some]
      have hp : (bEq (gd s.Table i).Number n || b) = lcP s n (gd s.Table i) := by
        unfold lcP
        rw [Bool.eq_iff_iff]
        simp [bEq_eq, b2]
      rw [hp]
      have hl := fm_len (lcP s n) s.Table i
      have hq : capb 8 ((((s.Table.take i).filter (lcP s n)).map (fun c => c.Number)).length + 1) = true := by
        generalize (((s.Table.take i).filter (lcP s n)).map (fun c => c.Number)).length = z at hl
        exact capb_iff.2 (by omega)
      rw [hq]
      cases lcP s n (gd s.Table i) <;> rfl)
    (by
      show F30_L1 s n _ _ = _
      unfold F30_L1
      rw [bif_f (by simp [bLt_eq]), List.take_length]; rfl)
  have key : ∀ x, x = (((0 : Nat) : Int), (((s.Table.take 0).filter (lcP s n)).map (fun c => c.Number))) -> loopD (fun e => F30_L1 s n e.1 e.2) x = some (.inl (lcL s n)) := fun x hx => by subst hx; exact this
  exact key _ (by simp)
theorem mm_mo (f t : Int) : Mo (minI f t) /\ Mo (maxI f t) ↔ Mo f /\ Mo t := by
  unfold Mo minI maxI
  by_cases h : t < f
  · rw [if_pos h, if_neg (by omega)]; omega
  · rw [if_neg h]
    by_cases h2 : t > f
    · rw [if_pos h2]
    · rw [if_neg h2]; omega
def Z : TRegulate := ⟨[], 0, false, 0, false, false, 0, 0, [], []⟩
theorem Gr_Z : Gr Z := ⟨by decide, by decide, by decide⟩
/-- Listened. -/
theorem lis_ok (s : TRegulate) (n f t : Int) (hg0 : Gr0 s) : ∃ x, F29 s n f t = some x /\ F30 s n f t = some x /\ Gr x.1 := by
  have hg := Gr_of hg0
  have bad : ∀ e : Int, e ≠ 0 -> F50 s (minI f t) 0 = some (none, e) -> F29 s n f t = some (Z, e) := by
    intro e he h
    unfold F29
    rw [h, Option.bind_some]
    simp only [Option.isSome_none, cond_false]
    have : bEq e 0 = false := by simp [bEq_eq, he]
    rw [this]
    rfl
  obtain ⟨m, em, im⟩ := F60_ok (maxI f t)
  rcases F50_ok s (minI f t) 0 hg with ⟨h, e⟩ | ⟨h, h2, e⟩ | ⟨h, h2, _, e⟩
  · rcases F64_ok s f 0 hg with ⟨_, e2⟩ | ⟨h3, _⟩ | ⟨h3, _⟩
    · refine ⟨(Z, 8), bad 8 (by decide) e, ?_, Gr_Z⟩
      unfold F30
      rw [e2]
      rfl
    · exact absurd h3 h
    · exact absurd h3 h
  · have hne : ¬ (Mo f /\ Mo t) := fun q => h2 ⟨((mm_mo f t).2 q).1, by decide⟩
    refine ⟨(Z, 2), bad 2 (by decide) e, ?_, Gr_Z⟩
    unfold F30
    rcases F64_ok s f 0 hg with ⟨h3, _⟩ | ⟨_, _, e2⟩ | ⟨_, h3, _, e2⟩
    · exact absurd h h3
    · rw [e2]; rfl
    · rw [e2, Option.bind_some]
      rcases F64_ok s t 0 hg with ⟨h4, _⟩ | ⟨_, _, e3⟩ | ⟨_, h4, _, e3⟩
      · exact absurd h h4
      · rw [bif_t (by rfl), e3]; rfl
      · exact absurd ⟨h3, h4⟩ hne
  · by_cases hm : Mo (maxI f t)
    · obtain ⟨hf, ht⟩ := (mm_mo f t).1 ⟨h2, hm⟩
      have hmf : m = false := im.2 hm
      have e2 : F64 s f 0 = some 0 := by
        rcases F64_ok s f 0 hg with ⟨h3, _⟩ | ⟨_, h3, _⟩ | ⟨_, _, _, e2⟩
        · exact absurd h h3
        · exact absurd ⟨hf, by decide⟩ h3
        · exact e2
      have e3 : F64 s t 0 = some 0 := by
        rcases F64_ok s t 0 hg with ⟨h3, _⟩ | ⟨_, h3, _⟩ | ⟨_, _, _, e2⟩
        · exact absurd h h3
        · exact absurd ⟨ht, by decide⟩ h3
        · exact e2
      obtain ⟨g1, g2, g3⟩ := hg0
      have rt := h.1.2.2
      have rb : Rb s.Blocked := h.2.2.2.2.2.2.2.1
      have hw : wr .i64 (t - f) = t - f := wr_in (by unfold Mo at hf ht; omega)
      unfold F29 F30
      rw [e, e2, Option.bind_some, Option.bind_some, show bEq (0 : Int) 0 = true from rfl, e3, Option.bind_some, show bEq (0 : Int) 0 = true from rfl, em, hmf]
      simp only [Option.isSome_some, gt_some, cond_true, Bool.cond_self, need_true, Bool.and_false, cond_false, Bool.not_true]
      rw [hw]
      obtain ⟨k, k1, k2⟩ := F61_ok s.Table n (by omega) rt
      rw [k1, Option.bind_some]
      rcases F18_ok s.Table n (by omega) with ⟨q, e4⟩ | ⟨c, hc, ec, e4⟩
      · have : k = false := by
          cases k with
          | false => rfl
          | true => obtain ⟨r, hr, er⟩ := k2.1 rfl; exact absurd er (q r hr)
        obtain ⟨u, b, e5, _⟩ := F19_is s.Blocked n (by omega)
        rw [e4, e5, this, Option.bind_some, Option.bind_some]
        exact ⟨_, rfl, rfl, Gr_Z⟩
      · rw [e4, k2.2 ⟨c, hc, ec⟩, Option.bind_some]
        simp only [Bool.not_true, cond_false]
        by_cases hl : t - f < 60000000
        · obtain ⟨u, b, e5, _⟩ := F19_is s.Blocked n (by omega)
          rw [e5, Option.bind_some, bif_t (c := bLt (t - f) 60000000) (by simp [bLt_eq, hl]), bif_t (c := bLt (t - f) 60000000) (by simp [bLt_eq, hl])]
          exact ⟨_, rfl, rfl, Gr_Z⟩
        · rw [show bLt (t - f) 60000000 = false from by simp [bLt_eq]; omega]
          simp only [cond_false]
          have fin : ∀ bl : List TRegulateBlock, bl.length <= 40 -> ∃ x : TRegulate × Int, some ((⟨s.Table, s.Channel, s.Lead, s.Heard, s.Stopped, s.Moving, s.To, s.At, bl, nC s n c⟩ : TRegulate), (0 : Int)) = some x /\ (bif c.Radar then (lp (loopD (fun e => F30_L1 s n e.1 e.2) (0, [])) (fun w1_5 => some ((⟨s.Table, s.Channel, s.Lead, s.Heard, s.Stopped, s.Moving, s.To, s.At, bl, w1_5⟩ : TRegulate), (0 : Int))) some) else (some ((⟨s.Table, s.Channel, s.Lead, s.Heard, s.Stopped, s.Moving, s.To, s.At, bl, s.Clear⟩ : TRegulate), (0 : Int)))) = some x /\ Gr x.1 := by
            intro bl hbl
            rw [lp_inl (F30_L s n ⟨g1, g2, g3⟩)]
            refine ⟨_, rfl, ?_, ?_⟩
            · unfold nC; cases c.Radar <;> rfl
            · have h1 : (nC s n c).length <= 40 := by
                have := lc_len s n
                unfold nC
                cases c.Radar
                · exact g3
                · show (lcL s n).length <= 40; omega
              exact ⟨by show s.Table.length <= 1000; omega, by show bl.length <= 1000; omega, by show (nC s n c).length <= 1000; omega⟩
          have hfl : (s.Blocked.filter (fun q => !bEq q.Channel n)).length <= 40 := Nat.le_trans (List.length_filter_le ..) g2
          have f72 := F72_ok s.Blocked n (by omega)
          obtain ⟨A, B, eB, hA, q | ⟨b, B', rfl, q1, q2, q3⟩⟩ := F67_ok s.Blocked n (by omega) rb
          · rw [q.2, Option.bind_some]
            simp only [cond_false]
            rcases F19_ok s.Blocked n (by omega) with ⟨_, e5⟩ | ⟨d, d1, d2, _⟩
            · rw [e5, Option.bind_some ((0 : Int), false), F24_ok s hg, Option.bind_some s, f72, Option.bind_some (s.Blocked.filter (fun q => !bEq q.Channel n)), clr_ok s n c ⟨g1, g2, g3⟩ h hc ec (fun w => some (⟨s.Table, s.Channel, s.Lead, s.Heard, s.Stopped, s.Moving, s.To, s.At, s.Blocked, w⟩, 0))]
              simp only [Bool.false_and, cond_false]
              have : s.Blocked.filter (fun q => !bEq q.Channel n) = s.Blocked := by rw [eB]; exact fil_no (k := fun q : TRegulateBlock => q.Channel) hA q.1
              rw [this]
              exact fin s.Blocked g2
            · rw [eB] at d1
              rcases List.mem_append.1 d1 with r | r
              · have := hA _ r; omega
              · have := q.1 _ r; omega
          · rcases F19_ok s.Blocked n (by omega) with ⟨r, _⟩ | ⟨d, d1, d2, e5⟩
            · exact absurd q1 (r b (by rw [eB]; simp))
            · have hd : d = b := key_inj (k := fun q : TRegulateBlock => q.Channel) rb d1 (by rw [eB]; simp) (d2.trans q1.symm)
              subst hd
              have hi : A.length < s.Blocked.length := by rw [eB]; simp
              have hgd : gd s.Blocked A.length = d := by rw [eB, gd_app2 (Nat.le_refl _), Nat.sub_self]; rfl
              rw [q3, Option.bind_some ((A.length : Int), true), e5, Option.bind_some (d.Until, true)]
              simp only [cond_true, Bool.true_and, Int.toNat_natCast]
              rw [need_true (inb_nat hi), hgd]
              by_cases hu : t < d.Until
              · rw [bif_t (c := bLt t d.Until) (by simp [bLt_eq, hu]), bif_t (c := bLt t d.Until) (by simp [bLt_eq, hu])]
                exact ⟨_, rfl, rfl, Gr_Z⟩
              · have hdl : delL s.Blocked (A.length : Int) (((A.length + 1 : Nat)) : Int) = A ++ B' := by
                  unfold delL
                  rw [eB, Int.toNat_natCast, Int.toNat_natCast]
                  simp
                have hfm : s.Blocked.filter (fun q => !bEq q.Channel n) = A ++ B' := by rw [eB]; exact fil_mid (k := fun q : TRegulateBlock => q.Channel) hA q1 q2
                rw [bif_f (c := bLt t d.Until) (by simp [bLt_eq]; omega), bif_f (c := bLt t d.Until) (by simp [bLt_eq]; omega), wr_add1 hi (by omega), need_true (delb_iff.2 (by omega)), hdl, Option.bind_some (A ++ B'), F24_ok s hg, Option.bind_some s, f72, hfm, Option.bind_some (A ++ B'), clr_ok s n c ⟨g1, g2, g3⟩ h hc ec (fun w => some (⟨s.Table, s.Channel, s.Lead, s.Heard, s.Stopped, s.Moving, s.To, s.At, A ++ B', w⟩, 0))]
                exact fin _ (by rw [← hfm]; exact hfl)
    · have hmt : m = true := by
        cases m with
        | true => rfl
        | false => exact absurd (im.1 rfl) hm
      have hne : ¬ (Mo f /\ Mo t) := fun q => hm ((mm_mo f t).2 q).2
      refine ⟨(Z, 2), ?_, ?_, Gr_Z⟩
      · unfold F29
        rw [e, em, hmt]
        rfl
      · unfold F30
        rcases F64_ok s f 0 hg with ⟨h3, _⟩ | ⟨_, _, e2⟩ | ⟨_, h3, _, e2⟩
        · exact absurd h h3
        · rw [e2]; rfl
        · rw [e2, Option.bind_some]
          rcases F64_ok s t 0 hg with ⟨h4, _⟩ | ⟨_, _, e3⟩ | ⟨_, h4, _, e3⟩
          · exact absurd h h4
          · rw [bif_t (by rfl), e3]; rfl
          · exact absurd ⟨h3, h4⟩ hne
end Go.Proofs.Ytjhkehdbjnhplaa
