/-
  Regulate: a radar event, a tick; the law of blocked channels.
-/
import Derived.Test.YtjhkehdbjnhplaaQ5N
namespace Go.Proofs.Ytjhkehdbjnhplaa
open Go.Am
set_option linter.unusedVariables false
set_option linter.unusedSimpArgs false
theorem alive_ok : F15 = some true := by kernel_rfl
theorem F54_ok (s : TRegulate) (p t : Int) (hg : Gr0 s) (rt : Rc s.Table) (rb : Rb s.Blocked) (hp : 0 ≤ p) (ht : Mo t) : F54_0 s p t = some (rad s p t) := by
  obtain ⟨g1, g2, g3⟩ := hg
  unfold F54_0 rad
  simp only [eta_TRegulate]
  rw [F92_ok s t (Gr_of ⟨g1, g2, g3⟩) rb ht, Option.bind_some]
  cases hL : s.Lead with
  | false =>
    rw [bif_t (c := !(stp s t).Lead) (by show (!s.Lead) = true; rw [hL]; rfl)]
    rfl
  | true =>
    rw [bif_f (c := !(stp s t).Lead) (by show (!s.Lead) = false; rw [hL]; rfl)]
    have hlc : (stC s).length ≤ 40 := Nat.le_trans (List.length_filter_le ..) g3
    have hlb := stB_len s t rb
    have e53 := F53_ok s.Table s.Channel (stB s t) (stC s) t (by omega) (by omega) (by omega) rt (Rb_stB s t rb)
    have e53' : F53_0 (stp s t).Table (stp s t).Channel (stp s t).Blocked (stp s t).Clear t = some (usL s.Table s.Channel (stB s t) (stC s) t) := e53
    rw [e53', Option.bind_some]
    simp only [Bool.not_true, cond_false]
    generalize usL s.Table s.Channel (stB s t) (stC s) t = u
    by_cases hu : u.length = 0
    · rw [bif_t (c := bEq _ _) (by simp [bEq_eq, hu]), bif_t (c := bEq _ _) (by simp [bEq_eq, hu])]
    · obtain ⟨k, k1, k2⟩ := md_in hp hu
      rw [bif_f (c := bEq _ _) (by simp [bEq_eq]; intro h; exact hu (by simp [h])), bif_f (c := bEq _ _) (by simp [bEq_eq]; intro h; exact hu (by simp [h])), need_true (by simp [bEq_eq]; intro h; exact hu (by simp [h])), k2, need_true (inb_nat k1), wr_unt ht (by decide)]
      unfold F57_0
      rw [Option.bind_some]
      simp only [stp, hL]
theorem F22_ok (s : TRegulate) (p t : Int) (hg : Gr0 s) : (¬ Vs s ∧ F22 s p t = some (⟨[], 0, false, 0, false, false, 0, 0, [], []⟩, [], 8)) ∨ (Vs s ∧ ¬ (Mo t ∧ 0 ≤ p) ∧ F22 s p t = some (⟨[], 0, false, 0, false, false, 0, 0, [], []⟩, [], 2)) ∨ (Vs s ∧ Mo t ∧ 0 ≤ p ∧ s.Stopped = true ∧ F22 s p t = some (⟨[], 0, false, 0, false, false, 0, 0, [], []⟩, [], 20)) ∨ (Vs s ∧ Mo t ∧ 0 ≤ p ∧ s.Stopped = false ∧ F22 s p t = some ((rad s p t).2, (rad s p t).1, 0)) := by
  unfold F22
  rcases F50_ok s t p (Gr_of hg) with ⟨h, e⟩ | ⟨h, h2, e⟩ | ⟨h, h2, hp, e⟩
  · rw [e]; exact .inl ⟨h, rfl⟩
  · rw [e]; exact .inr (.inl ⟨h, h2, rfl⟩)
  · rw [e]
    simp only [Option.bind_some, Option.isSome_some, gt_some, cond_true, eta_TRegulate]
    rw [bif_f (c := !bEq (0 : Int) 0) (by decide)]
    cases hS : s.Stopped with
    | true => exact .inr (.inr (.inl ⟨h, h2, hp, rfl, rfl⟩))
    | false =>
      refine .inr (.inr (.inr ⟨h, h2, hp, rfl, ?_⟩))
      rw [cond_false, F54_ok s p t hg h.1.2.2 h.2.2.2.2.2.2.2.1 hp h2, Option.bind_some]
theorem Vs_stp (s : TRegulate) (t : Int) (h : Vs s) (ht : Mo t) : Vs (stp s t) := by
  obtain ⟨v1, v2, v3, v4, v5, v6, v7, v8, v9, v10, v11⟩ := h
  obtain ⟨A, B, e, hA, hB, hAB⟩ := stB_is s t v8
  refine ⟨v1, v2, v3, v4, v5, fun q => ⟨rfl, (v6 q).2⟩, v7, Rb_stB s t v8, pw_fil (k := fun q : Int => q) _ v9, fun b hb => ?_, fun n hn => ?_⟩
  · have hb' : b ∈ stB s t := hb
    rw [e] at hb'
    have hin : ∀ q, q ∈ A ∨ q ∈ B → Pb (stp s t) q := by
      intro q hq
      have hq' : q ∈ s.Blocked := by
        rcases hAB with h | ⟨b, _, h⟩ <;> rw [h] <;> rcases hq with q | q <;> simp [q]
      obtain ⟨p1, p2, p3⟩ := v10 q hq'
      exact ⟨p1, p2, fun hc => p3 (List.mem_filter.1 hc).1⟩
    rcases List.mem_append.1 hb' with q | q
    · exact hin b (.inl q)
    · rcases List.mem_cons.1 q with rfl | q
      · refine ⟨v2, ?_, fun hc => ?_⟩
        · show Mo (unt t 1800000000)
          unfold Mo at ht ⊢
          unfold unt minI
          split <;> omega
        · have := (List.mem_filter.1 hc).2
          simp [bEq_eq] at this
      · exact hin b (.inr q)
  · exact v11 n (List.mem_filter.1 hn).1
/-- A state after radar. -/
theorem rad_is (s : TRegulate) (p t : Int) (h : Vs s) (hp : 0 ≤ p) (ht : Mo t) : ∃ mv to at', (rad s p t).2 = ⟨s.Table, s.Channel, s.Lead, s.Heard, true, mv, to, at', stB s t, stC s⟩ ∧ Vs ⟨s.Table, s.Channel, s.Lead, s.Heard, true, mv, to, at', stB s t, stC s⟩ := by
  have hs := Vs_stp s t h ht
  unfold rad
  rcases Bool.eq_false_or_eq_true s.Lead with hL | hL
  · rw [bif_f (c := !s.Lead) (by rw [hL]; rfl)]
    by_cases hu : (usL s.Table s.Channel (stB s t) (stC s) t).length = 0
    · rw [bif_t (c := bEq _ _) (by simp [bEq_eq, hu])]; exact ⟨_, _, _, rfl, hs⟩
    · rw [bif_f (c := bEq _ _) (by simp [bEq_eq]; intro h; exact hu (by simp [h]))]
      refine ⟨_, _, _, rfl, ?_⟩
      obtain ⟨v1, v2, v3, v4, v5, v6, v7, v8, v9, v10, v11⟩ := hs
      refine ⟨v1, v2, v3, ?_, v5, fun _ => ⟨rfl, ?_⟩, fun q => Bool.noConfusion (show true = false from q), v8, v9, v10, v11⟩
      · show Mo (unt t 150000)
        unfold Mo at ht ⊢
        unfold unt minI
        split <;> omega
      · obtain ⟨k, k1, k2⟩ := md_in hp hu
        have hm := gd_mem k1
        obtain ⟨c, c1, c2, _⟩ := us_mem.1 hm
        show ∃ q ∈ s.Table, q.Number = gd _ _
        rw [k2]
        exact ⟨c, c1, c2⟩
  · rw [bif_t (c := !s.Lead) (by rw [hL]; rfl)]; exact ⟨_, _, _, rfl, hs⟩
/-- Tick. -/
def tkB (s : TRegulate) (t : Int) : List TRegulateBlock := s.Blocked.filter (fun q => !bLe q.Until t)
def tik (s : TRegulate) (t : Int) : TRegulate := bif (s.Moving && bLe s.At t) then ⟨s.Table, s.To, s.Lead, bif !s.Lead then s.At else s.Heard, false, false, 0, 0, tkB s t, s.Clear⟩ else ⟨s.Table, s.Channel, s.Lead, s.Heard, s.Stopped, s.Moving, s.To, s.At, tkB s t, s.Clear⟩
def tiw (s : TRegulate) (t : Int) : List TRegulateWord := bif (s.Moving && bLe s.At t) then [] else bif (s.Moving && s.Lead) then [⟨1, s.Channel, s.To, s.At⟩] else []
theorem F23_ok (s : TRegulate) (t : Int) (hg : Gr s) : (¬ Vs s ∧ F23 s t = some (⟨[], 0, false, 0, false, false, 0, 0, [], []⟩, [], 8)) ∨ (Vs s ∧ ¬ Mo t ∧ F23 s t = some (⟨[], 0, false, 0, false, false, 0, 0, [], []⟩, [], 2)) ∨ (Vs s ∧ Mo t ∧ F23 s t = some (tik s t, tiw s t, 0)) := by
  unfold F23
  rcases F50_ok s t 0 hg with ⟨h, e⟩ | ⟨h, h2, e⟩ | ⟨h, h2, _, e⟩
  · rw [e]; exact .inl ⟨h, rfl⟩
  · rw [e]; exact .inr (.inl ⟨h, fun q => h2 ⟨q, by decide⟩, rfl⟩)
  · rw [e]
    refine .inr (.inr ⟨h, h2, ?_⟩)
    simp only [Option.bind_some, Option.isSome_some, gt_some, cond_true]
    rw [bif_f (c := !bEq (0 : Int) 0) (by decide), F55_ok _ _ hg.2.1, Option.bind_some]
    unfold tik tiw tkB F57_0
    cases s.Moving && bLe s.At t with
    | true => cases s.Lead <;> rfl
    | false => cases s.Moving && s.Lead <;> rfl
theorem tik_tab (s : TRegulate) (t : Int) : (tik s t).Table = s.Table ∧ (tik s t).Blocked = tkB s t ∧ (tik s t).Clear = s.Clear := by
  unfold tik; cases s.Moving && bLe s.At t <;> exact ⟨rfl, rfl, rfl⟩
theorem Vs_tik (s : TRegulate) (t : Int) (h : Vs s) : Vs (tik s t) := by
  obtain ⟨v1, v2, v3, v4, v5, v6, v7, v8, v9, v10, v11⟩ := h
  have hb : Rb (tkB s t) := pw_fil (k := fun q : TRegulateBlock => q.Channel) _ v8
  have hp : ∀ b ∈ tkB s t, Pb s b := fun b hb => v10 b (List.mem_filter.1 hb).1
  unfold tik
  rcases Bool.eq_false_or_eq_true s.Moving with hm | hm
  · rcases Bool.eq_false_or_eq_true (bLe s.At t) with ha | ha
    · rw [bif_t (by rw [hm, ha]; rfl)]
      refine ⟨v1, (v6 hm).2, ?_, (show Mo 0 from ⟨by decide, by decide⟩), ?_, fun q => Bool.noConfusion (show false = true from q), fun q => ⟨rfl, rfl⟩, hb, v9, hp, v11⟩
      · show Mo (bif !s.Lead then s.At else s.Heard)
        cases s.Lead
        · exact v4
        · exact v3
      · intro q
        show (bif !s.Lead then s.At else s.Heard) = 0
        have q' : s.Lead = true := q
        rw [q']
        exact v5 q'
    · rw [bif_f (by rw [hm, ha]; rfl)]
      exact ⟨v1, v2, v3, v4, v5, v6, v7, hb, v9, hp, v11⟩
  · rw [bif_f (by rw [hm]; rfl)]
    exact ⟨v1, v2, v3, v4, v5, v6, v7, hb, v9, hp, v11⟩
theorem two_nums {l : List TRegulateChannel} (h : Vt l) (n : Int) : ¬ ∀ j : Nat, j < l.length → (gd l j).Number = n := by
  intro hj
  have h0 := hj 0 (by have := h.1.1; omega)
  have h1 := hj 1 (by have := h.1.1; omega)
  have := srt_gd (fun q : TRegulateChannel => q.Number) h.2.2 (show 0 < 1 by omega) (show 1 < l.length by have := h.1.1; omega)
  omega
theorem law5 (s : TRegulate) (p t later : Int) : F5 s p t later = some true := by
  unfold F5
  rw [alive_ok, Option.bind_some]
  rcases F16_ok s with ⟨hg0, e⟩ | ⟨hg, e⟩
  · rw [e, Option.bind_some, bif_f (by rfl)]
    have hg := Gr_of hg0
    obtain ⟨g1, g2, g3⟩ := hg0
    rcases F21_ok s t hg with ⟨_, e1⟩ | ⟨_, _, e1⟩ | ⟨h, ht, e1⟩
    · rw [e1]; rfl
    · rw [e1]; rfl
    · have rt := h.1.2.2
      have rb : Rb s.Blocked := h.2.2.2.2.2.2.2.1
      rw [e1, Option.bind_some, bif_f (c := !bEq (0 : Int) 0) (by decide)]
      have hul := us_len (tl := s.Table) (ch := s.Channel) (bl := s.Blocked) (cl := s.Clear) (t := t)
      have l1 := run_gen (step := fun i => F5_L1 s t (usL s.Table s.Channel s.Blocked s.Clear t, 0) i) (usL s.Table s.Channel s.Blocked s.Clear t).length (fun i => (i : Int)) () (fun i hi => by
          show F5_L1 s t _ i = _
          unfold F5_L1
          obtain ⟨c, c1, c2, c3, c4⟩ := us_mem.1 (gd_mem hi)
          rw [bif_t (c := bLt _ _) (by simp [bLt_eq]; omega), need_true (inb_nat hi), Int.toNat_natCast, wr_add1 hi (by omega), ← c2, F18_at (by omega) rt c1, Option.bind_some, need_true (inb_nat hi)]
          rw [← c2] at c3
          rcases F19_ok s.Blocked c.Number (by omega) with ⟨_, e3⟩ | ⟨b, q1, q2, e3⟩
          · rw [e3, Option.bind_some, need_true (b := bif !!(c, true).2 then inb (i : Int) (usL s.Table s.Channel s.Blocked s.Clear t, (0 : Int)).1.length else true) (show inb (i : Int) (usL s.Table s.Channel s.Blocked s.Clear t).length = true from inb_nat hi), bif_f (by simp [bEq_eq, c3])]
          · have := c4.1 b q1 q2
            rw [e3, Option.bind_some, need_true (b := bif !!(c, true).2 then inb (i : Int) (usL s.Table s.Channel s.Blocked s.Clear t, (0 : Int)).1.length else true) (show inb (i : Int) (usL s.Table s.Channel s.Blocked s.Clear t).length = true from inb_nat hi), bif_f (by simp [bEq_eq, c3, bLt_eq]; omega)])
        (by show F5_L1 s t _ _ = _; unfold F5_L1; rw [bif_f (by simp [bLt_eq])])
      have l1' : loopD (fun i => F5_L1 s t (usL s.Table s.Channel s.Blocked s.Clear t, 0) i) 0 = some (.inl ()) := l1
      rw [lp_inl l1']
      rcases F22_ok s p t ⟨g1, g2, g3⟩ with ⟨h3, _⟩ | ⟨_, h3, e2⟩ | ⟨_, _, h3, _, e2⟩ | ⟨_, _, hp, hst, e2⟩
      · exact absurd h h3
      · rw [e2, Option.bind_some, bif_t (by rfl)]; rfl
      · rw [e2, Option.bind_some, bif_t (by rfl)]; rfl
      · rw [e2, Option.bind_some]
        by_cases hl : later < t
        · rw [bif_t (by simp [bLt_eq, hl])]; rfl
        · rw [bif_f (by simp [bLt_eq, bEq_eq]; omega)]
          obtain ⟨r, l2, o, rfl, o1, o2⟩ := loop_inv (step := fun e => F5_L2 s e.1 e.2) (fun e => ∃ (v : Int) (i : Nat), e = (v, (i : Int)) ∧ i ≤ s.Table.length ∧ ((∀ j : Nat, j < i → (gd s.Table j).Number = s.Channel) ∨ (Ht s v ∧ v ≠ s.Channel))) (fun r => ∃ o, r = .inl o ∧ Ht s o ∧ o ≠ s.Channel) (fun e => (s.Table.length - e.2).toNat)
            (fun e hE => by
              obtain ⟨v, i, rfl, hi, hv⟩ := hE
              show (∃ b, F5_L2 s v i = _ ∧ _) ∨ ∃ s', F5_L2 s v i = _ ∧ _
              unfold F5_L2
              rcases Nat.lt_or_ge i s.Table.length with hi2 | hi2
              · refine .inr ?_
                rw [bif_t (c := bLt _ _) (by simp [bLt_eq]; omega), need_true (inb_nat hi2), Int.toNat_natCast, wr_add1 hi2 (by omega), need_true (inb_nat hi2)]
                by_cases hn : (gd s.Table i).Number = s.Channel
                · rw [bif_f (by simp [bEq_eq, hn])]
                  refine ⟨_, rfl, ⟨v, i + 1, rfl, by omega, ?_⟩, by simp only; omega⟩
                  rcases hv with q | q
                  · refine .inl fun j hj => ?_
                    rcases Nat.lt_or_eq_of_le (Nat.le_of_lt_succ hj) with q2 | rfl
                    · exact q j q2
                    · exact hn
                  · exact .inr q
                · rw [bif_t (by simp [bEq_eq, hn])]
                  exact ⟨_, rfl, ⟨_, i + 1, rfl, by omega, .inr ⟨⟨_, gd_mem hi2, rfl⟩, hn⟩⟩, by simp only; omega⟩
              · refine .inl ?_
                rw [bif_f (c := bLt _ _) (by simp [bLt_eq]; omega)]
                refine ⟨_, rfl, v, rfl, ?_⟩
                rcases hv with q | q
                · exact absurd (fun j hj => q j (by omega)) (two_nums h.1 s.Channel)
                · exact q) (0, 0) ⟨0, 0, rfl, by omega, .inl fun j hj => absurd hj (by omega)⟩
          rw [lp_inl l2]
          obtain ⟨mv, to, at', hr, hv⟩ := rad_is s p t h hp ht
          rw [hr]
          obtain ⟨c, hc, ec⟩ := h.2.1
          have f18 : F18 s.Table s.Channel = some (c, true) := by rw [← ec]; exact F18_at (by omega) rt hc
          rw [f18, Option.bind_some]
          have hX : Vs ⟨s.Table, o, s.Lead, s.Heard, true, mv, to, at', stB s t, stC s⟩ := by
            obtain ⟨v1, v2, v3, v4, v5, v6, v7, v8, v9, v10, v11⟩ := hv
            exact ⟨v1, o1, v3, v4, v5, v6, v7, v8, v9, v10, v11⟩
          have hbl := stB_len s t rb
          have hcl : (stC s).length ≤ s.Clear.length := List.length_filter_le ..
          have hGX : Gr ⟨s.Table, o, s.Lead, s.Heard, true, mv, to, at', stB s t, stC s⟩ := ⟨by show s.Table.length ≤ 1000; omega, by show (stB s t).length ≤ 1000; omega, by show (stC s).length ≤ 1000; omega⟩
          rcases F23_ok _ later hGX with ⟨h3, _⟩ | ⟨_, _, e4⟩ | ⟨_, hlt, e4⟩
          · exact absurd hX h3
          · rw [e4]; rfl
          · rw [e4, Option.bind_some]
            have hV := Vs_tik _ later hX
            obtain ⟨y1, y2, y3⟩ := tik_tab ⟨s.Table, o, s.Lead, s.Heard, true, mv, to, at', stB s t, stC s⟩ later
            generalize tik ⟨s.Table, o, s.Lead, s.Heard, true, mv, to, at', stB s t, stC s⟩ later = y at hV y1 y2 y3
            simp only at y1 y2 y3
            by_cases hch : y.Channel = o
            · rw [bif_f (by simp [bEq_eq, hch])]
              have hGy : Gr y := by
                have q1 := List.length_filter_le (fun q : TRegulateBlock => !bLe q.Until later) (stB s t)
                refine ⟨by rw [y1]; omega, ?_, by rw [y3]; omega⟩
                rw [y2]
                show (tkB _ later).length ≤ 1000
                unfold tkB
                exact Nat.le_trans q1 (by omega)
              simp only [eta_TRegulate]
              rcases F21_ok y later hGy with ⟨h3, _⟩ | ⟨_, h3, _⟩ | ⟨_, _, e5⟩
              · exact absurd hV h3
              · exact absurd hlt h3
              · have hml := us_len (tl := y.Table) (ch := y.Channel) (bl := y.Blocked) (cl := y.Clear) (t := later)
                obtain ⟨k, k1, k2⟩ := F20_ok (usL y.Table y.Channel y.Blocked y.Clear later) s.Channel (by have := congrArg List.length y1; omega)
                rw [e5, Option.bind_some, k1]
                simp only [Option.isSome_some, Bool.cond_self, need_true, gt_some]
                rw [wr_unt ht (by decide)]
                have hk : k = (bLe (unt t 1800000000) later && !c.Radar) := by
                  rw [Bool.eq_iff_iff, k2, us_mem, y1, y2, y3]
                  simp only [Bool.and_eq_true, bLe_eq, decide_eq_true_eq, Bool.not_eq_true']
                  obtain ⟨A, B, eB, hA, hB, _⟩ := stB_is s t rb
                  have hRb := Rb_stB s t rb
                  have htt : (⟨s.Channel, unt t 1800000000⟩ : TRegulateBlock) ∈ stB s t := by rw [eB]; simp
                  constructor
                  · rintro ⟨c', d1, d2, d3, d4, d5⟩
                    have : c' = c := key_inj (k := fun q : TRegulateChannel => q.Number) rt d1 hc (d2.trans ec.symm)
                    subst this
                    refine ⟨?_, ?_⟩
                    · by_cases hu : unt t 1800000000 ≤ later
                      · exact hu
                      · have := d4 ⟨s.Channel, unt t 1800000000⟩ (List.mem_filter.2 ⟨htt, by simp [bLe_eq]; omega⟩) d2.symm
                        exact this
                    · cases hrd : c'.Radar with
                      | false => rfl
                      | true =>
                        have := (List.mem_filter.1 (d5 hrd)).2
                        simp [bEq_eq, d2] at this
                  · rintro ⟨u1, u2⟩
                    refine ⟨c, hc, ec, fun q => o2 (by rw [← hch, ← q]), fun b hb eb => ?_, fun q => by rw [u2] at q; cases q⟩
                    have hb' := (List.mem_filter.1 hb).1
                    rw [key_inj (k := fun q : TRegulateBlock => q.Channel) hRb hb' htt (eb.trans ec)]
                    exact u1
                rw [hk]
                cases (bLe (unt t 1800000000) later && !c.Radar) <;> rfl
            · rw [bif_t (by simp [bEq_eq, hch])]; rfl
  · rw [e]; rfl
end Go.Proofs.Ytjhkehdbjnhplaa
