/-
  Root's reference: addresses as numbers, valid states.
-/
import Derived.Test.YtdcepineppafpaaV4
namespace Go.Proofs.Ytdcepineppafpaa
open Go.Am
set_option linter.unusedVariables false
set_option linter.unusedSimpArgs false
theorem num_st {v b : Int} (hv : 0 ≤ v ∧ v ≤ 1125899906842624) (hb : 0 ≤ b ∧ b ≤ 255) : wr .u64 ((wr .u64 (v * 256)) + (wr .u64 b)) = v * 256 + b := by
  rw [wr_u64 (x := v * 256) (by omega), wr_u64 (x := b) (by omega), wr_u64 (by omega)]
theorem F99_ok (a : A6u8) (ha : Ab a) : F99 a = some (nA a) := by
  obtain ⟨h0, h1, h2, h3, h4, h5⟩ := ha
  unfold F99 nA
  rw [show wr .u64 (0 + (wr .u64 a.x0)) = a.x0 from by rw [wr_u64 (x := a.x0) (by omega), wr_u64 (by omega)]; omega]
  rw [num_st (by omega) h1, num_st (by omega) h2, num_st (by omega) h3, num_st (by omega) h4, num_st (by omega) h5]
theorem F76_ok (a b : A6u8) (ha : Ab a) (hb : Ab b) : ∃ k, F76 a b = some k ∧ Cp k (nA a) (nA b) := by
  unfold F76
  rw [F99_ok a ha, F99_ok b hb]
  simp only [Option.bind_some]
  unfold Cp
  by_cases h1 : nA a < nA b
  · rw [bif_t (by simp [bLt_eq]; omega)]; exact ⟨_, rfl, .inl ⟨by decide, h1⟩⟩
  · rw [bif_f (by simp [bLt_eq]; omega)]
    by_cases h2 : nA b < nA a
    · rw [bif_t (by simp [bLt_eq]; omega)]; exact ⟨_, rfl, .inr (.inr ⟨by decide, h2⟩)⟩
    · rw [bif_f (by simp [bLt_eq]; omega)]; exact ⟨_, rfl, .inr (.inl ⟨rfl, by omega⟩)⟩
theorem F35_ok (r : TRoots) (hb : Abr r) : (Vr r ∧ F35 r = some true) ∨ (¬ Vr r ∧ F35 r = some false) := by
  unfold F35 F60
  simp only [Option.isSome_some, Bool.cond_self, need_true, gt_some]
  by_cases hh : Vh r
  · have hh' := hh
    obtain ⟨g1, g2, g3, g4⟩ := hh'
    rw [bif_f (by
      cases hg : r.Gate <;> cases hr : r.Root <;> simp [hg, hr, bLe_eq, bLt_eq] at g1 ⊢ <;> omega)]
    rcases chk_gen (step := fun s => F35_L1 r s) r.Trees.length (Pt r) false () (fun i hi => by
      have hk : ∃ c : Bool, (need (bif (bLt 0 (i : Int)) then inb (wr .i64 ((i : Int) - 1)) r.Trees.length else true) <| need (bif (bLt 0 (i : Int)) then ((F76 ((gd r.Trees ((wr .i64 ((i : Int) - 1)).toNat)).Root) ((gd r.Trees ((i : Int)).toNat).Root)).isSome) else true) (some ((bLt 0 (i : Int)) && (bLe 0 (gt (F76 ((gd r.Trees ((wr .i64 ((i : Int) - 1)).toNat)).Root) ((gd r.Trees ((i : Int)).toNat).Root))))))) = some c ∧ (c = false ↔ (0 < i → nA (gd r.Trees (i - 1)).Root < nA (gd r.Trees i).Root)) := by
        by_cases h0 : 0 < i
        · obtain ⟨k, k1, k2⟩ := F76_ok (gd r.Trees (i - 1)).Root (gd r.Trees i).Root (hb.2.1 _ (by omega)).1 (hb.2.1 _ hi).1
          rw [pre_nat hi (by omega) h0, Int.toNat_natCast, Int.toNat_natCast, need_true (by rw [inb_nat (show i - 1 < r.Trees.length by omega)]; simp), k1, need_true (by simp), gt_some]
          refine ⟨_, rfl, ?_⟩
          unfold Cp at k2
          simp only [bLe_eq, bLt_eq, Bool.and_eq_false_iff, decide_eq_false_iff_not]
          omega
        · obtain rfl : i = 0 := by omega
          exact ⟨false, by rfl, by simp⟩
      obtain ⟨c, c1, c2⟩ := hk
      obtain ⟨c3, c1⟩ := need_some.1 c1
      obtain ⟨c4, c1⟩ := need_some.1 c1
      replace c1 := Option.some.inj c1
      unfold F35_L1 F60
      simp only [Option.isSome_some, Bool.cond_self, need_true, gt_some, Option.bind_some, ae_def]
      rw [bif_t (c := bLt _ (r.Trees.length : Int)) (by simp [bLt_eq]; omega), need_true (inb_nat hi), need_true c3, need_true c4, c1, Int.toNat_natCast, wr_add1 hi (by omega)]
      unfold Pt Vt
      cases hR : ae (gd r.Trees i).Root r.Own with
      | true =>
        refine .inr ⟨fun h => h.1.2.2.2.2.1 (ae_iff.1 hR), ?_⟩
        rw [bif_t (by simp)]
      | false =>
        cases hP : ae (gd r.Trees i).Parent r.Own with
        | true =>
          refine .inr ⟨fun h => h.1.2.2.2.2.2 (ae_iff.1 hP), ?_⟩
          rw [bif_t (by simp)]
        | false =>
          cases hc : c with
          | true =>
            refine .inr ⟨fun h => (by have := c2.2 h.2; rw [hc] at this; cases this), ?_⟩
            rw [bif_t (by simp)]
          | false =>
            have q5 := ae_no.1 hR
            have q6 := ae_no.1 hP
            have q7 := c2.1 hc
            rw [bif_f (c := (false || false) || false) rfl]
            by_cases hp : (1 ≤ (gd r.Trees i).Seq ∧ (gd r.Trees i).Seq ≤ 2147483647) ∧ (1 ≤ (gd r.Trees i).Hops ∧ (gd r.Trees i).Hops ≤ 16) ∧ (1 ≤ (gd r.Trees i).Cost ∧ (gd r.Trees i).Cost ≤ 1099511627776) ∧ (0 ≤ (gd r.Trees i).Until ∧ (gd r.Trees i).Until ≤ 1099516627776)
            · refine .inl ⟨⟨⟨hp.1, hp.2.1, hp.2.2.1, hp.2.2.2, q5, q6⟩, q7⟩, ?_⟩
              rw [bif_f]
              simp only [bLe_eq, Bool.or_eq_false_iff, Bool.not_eq_false', Bool.and_eq_true, decide_eq_true_eq]
              omega
            · refine .inr ⟨fun h => hp ⟨h.1.1, h.1.2.1, h.1.2.2.1, h.1.2.2.2.1⟩, ?_⟩
              rw [bif_t]
              simp only [bLe_eq, Bool.or_eq_true, Bool.not_eq_true', Bool.and_eq_false_iff, decide_eq_false_iff_not]
              omega)
      (by unfold F35_L1; rw [bif_f (by simp [bLt_eq])]) with ⟨t1, l1⟩ | ⟨t1, l1⟩
    · rw [lp_inl l1]
      rcases chk_gen (step := fun s => F35_L2 r s) r.Proxies.length (Pp r) false () (fun i hi => by
        have hk : ∃ c : Bool, (need (bif (bLt 0 (i : Int)) then inb (wr .i64 ((i : Int) - 1)) r.Proxies.length else true) <| need (bif (bLt 0 (i : Int)) then ((F76 ((gd r.Proxies ((wr .i64 ((i : Int) - 1)).toNat)).Out) ((gd r.Proxies ((i : Int)).toNat).Out)).isSome) else true) (some ((bLt 0 (i : Int)) && (bLe 0 (gt (F76 ((gd r.Proxies ((wr .i64 ((i : Int) - 1)).toNat)).Out) ((gd r.Proxies ((i : Int)).toNat).Out))))))) = some c ∧ (c = false ↔ (0 < i → nA (gd r.Proxies (i - 1)).Out < nA (gd r.Proxies i).Out)) := by
          by_cases h0 : 0 < i
          · obtain ⟨k, k1, k2⟩ := F76_ok (gd r.Proxies (i - 1)).Out (gd r.Proxies i).Out (hb.2.2 _ (by omega)).1 (hb.2.2 _ hi).1
            rw [pre_nat hi (by omega) h0, Int.toNat_natCast, Int.toNat_natCast, need_true (by rw [inb_nat (show i - 1 < r.Proxies.length by omega)]; simp), k1, need_true (by simp), gt_some]
            refine ⟨_, rfl, ?_⟩
            unfold Cp at k2
            simp only [bLe_eq, bLt_eq, Bool.and_eq_false_iff, decide_eq_false_iff_not]
            omega
          · obtain rfl : i = 0 := by omega
            exact ⟨false, by rfl, by simp⟩
        obtain ⟨c, c1, c2⟩ := hk
        obtain ⟨c3, c1⟩ := need_some.1 c1
        obtain ⟨c4, c1⟩ := need_some.1 c1
        replace c1 := Option.some.inj c1
        unfold F35_L2 F60
        simp only [Option.isSome_some, Bool.cond_self, need_true, gt_some, Option.bind_some]
        rw [bif_t (c := bLt _ (r.Proxies.length : Int)) (by simp [bLt_eq]; omega), need_true c3, need_true (by rw [inb_nat hi]; simp), need_true c4, need_true (by rw [inb_nat hi]; simp), c1, Int.toNat_natCast, wr_add1 hi (by omega)]
        unfold Pp
        cases hc : c with
        | true =>
          refine .inr ⟨fun h => (by have := c2.2 h.2; rw [hc] at this; cases this), ?_⟩
          rw [bif_t (by simp)]
        | false =>
          have q7 := c2.1 hc
          by_cases hp : 0 ≤ (gd r.Proxies i).Until ∧ (gd r.Proxies i).Until ≤ 1099520627776
          · refine .inl ⟨⟨hp, q7⟩, ?_⟩
            rw [bif_f]
            simp only [bLe_eq, Bool.false_or, Bool.not_eq_false', Bool.and_eq_true, decide_eq_true_eq]
            exact hp
          · refine .inr ⟨fun h => hp h.1, ?_⟩
            rw [bif_t]
            simp only [bLe_eq, Bool.false_or, Bool.not_eq_true', Bool.and_eq_false_iff, decide_eq_false_iff_not]
            omega)
        (by unfold F35_L2; rw [bif_f (by simp [bLt_eq])]) with ⟨t2, l2⟩ | ⟨t2, l2⟩
      · rw [lp_inl l2]; exact .inl ⟨⟨hh, t1, t2⟩, rfl⟩
      · rw [lp_inr l2]; exact .inr ⟨fun h => t2 h.2.2, rfl⟩
    · rw [lp_inr l1]; exact .inr ⟨fun h => t1 h.2.1, rfl⟩
  · rw [bif_t (by
      by_cases g1 : r.Gate = true ∧ r.Root = false
      · simp [g1.1, g1.2]
      · by_cases g2 : 0 ≤ r.Seq ∧ r.Seq ≤ 2147483647
        · by_cases g3 : r.Trees.length ≤ 8
          · by_cases g4 : r.Proxies.length ≤ 64
            · exact absurd ⟨g1, g2, g3, g4⟩ hh
            · simp [bLt_eq]; omega
          · simp [bLt_eq]; omega
        · simp only [Bool.or_eq_true, Bool.not_eq_true', bLe_eq, Bool.and_eq_false_iff, decide_eq_false_iff_not]
          left; left; right; omega)]
    exact .inr ⟨fun h => hh h.1, rfl⟩
end Go.Proofs.Ytdcepineppafpaa
