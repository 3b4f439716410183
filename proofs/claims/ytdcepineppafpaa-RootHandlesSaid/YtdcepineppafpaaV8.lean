/-
  Root: taking announcements, announcing, growing old.
-/
import Derived.Test.YtdcepineppafpaaV6a
namespace Go.Proofs.Ytdcepineppafpaa
open Go.Am
set_option linter.unusedVariables false
set_option linter.unusedSimpArgs false
/-- A valid announcement. -/
def Wd (w : TRootWord) : Prop := (1 ≤ w.Seq ∧ w.Seq ≤ 2147483647) ∧ (0 ≤ w.Hops ∧ w.Hops ≤ 15) ∧ (0 ≤ w.Cost ∧ w.Cost ≤ 1099511627776)
theorem F43_ok (w : TRootWord) : ∃ v, F43 w = some v ∧ (v = true ↔ Wd w) := by
  unfold F43 F57 Wd
  simp only [Option.bind_some, Option.isSome_some, gt_some, Bool.cond_self, need_true]
  exact ⟨_, rfl, by simp only [Bool.and_eq_true, bLe_eq, decide_eq_true_eq, and_assoc]⟩
theorem F48_ok (w : TRootWord) : ∃ v, F48 w = some v ∧ (v = true ↔ Wd w) := by
  unfold F48 F60 Wd
  simp only [Option.bind_some, Option.isSome_some, gt_some, Bool.cond_self, need_true]
  exact ⟨_, rfl, by simp only [Bool.and_eq_true, bLe_eq, decide_eq_true_eq, and_assoc]⟩
theorem announce_ok (r : TRoots) (hb : Abr r) (hs : Sm r) : ∃ v, F18 r = some v ∧ F19 r = some v ∧ Sm v.2.1 := by
  unfold F18 F19
  rcases F34_ok r hb with ⟨hv, e⟩ | ⟨hv, e⟩ <;> rcases F35_ok r hb with ⟨hv', e'⟩ | ⟨hv', e'⟩
  · rw [e, e', Option.bind_some, Option.bind_some, bif_f (by simp [bEq]), bif_f (c := !true) rfl, F56_ok r hs, F17_ok r hs]
    cases hr : r.Root with
    | false => exact ⟨_, rfl, rfl, by simp [Sm]⟩
    | true =>
      cases hq : bEq r.Seq 2147483647 with
      | true => exact ⟨_, rfl, rfl, by simp [Sm]⟩
      | false => simp only [Bool.not_true, cond_false, Option.bind_some]; exact ⟨_, rfl, by rw [hr], hs⟩
  · exact absurd hv hv'
  · exact absurd hv' hv
  · rw [e, e', Option.bind_some, Option.bind_some, bif_t (by simp [bEq]), bif_t (c := !false) rfl]
    exact ⟨_, rfl, rfl, by simp [Sm]⟩
/-- The reference's search, told by a split. -/
theorem F37_ok (r : TRoots) (a : A6u8) (hb : Abr r) (ha : Ab a) (hs : Sm r) (A B : List TTree) (e1 : r.Trees = A ++ B) (hA : ∀ q ∈ A, nA q.Root < nA a) (hB : (∀ q ∈ B, nA a < nA q.Root) ∨ ∃ b B', B = b :: B' ∧ nA b.Root = nA a ∧ ∀ q ∈ B', nA a < nA q.Root) (b : Bool) (b2 : b = true ↔ ∃ q B', B = q :: B' ∧ nA q.Root = nA a) : ∃ t, F37 r a = some (t, b) ∧ (b = true → A.length < r.Trees.length ∧ t = gd r.Trees A.length ∧ t.Root = a) := by
  have hlen : r.Trees.length = A.length + B.length := by rw [e1, List.length_append]
  have hl := hs.1
  unfold F37
  rcases first_gen (step := fun s => F37_L1 r a s) (E := Unit) (R := TTree × Bool) r.Trees.length (fun i => (gd r.Trees i).Root = a) (fun i => (gd r.Trees i, true)) () (fun i hi _ => by
      unfold F37_L1
      rw [bif_t (by simp [bLt_eq]; omega), need_true (inb_nat hi), Int.toNat_natCast]
      simp only [ae_def, eta_TTree, eta_A6u8]
      by_cases h : (gd r.Trees i).Root = a
      · rw [ae_iff.2 h, cond_true, need_true (inb_nat hi)]; exact .inr ⟨h, rfl⟩
      · rw [ae_no.2 h, cond_false, wr_add1 hi (by omega)]; exact .inl ⟨h, rfl⟩)
    (by unfold F37_L1; rw [bif_f (by simp [bLt_eq])]) with ⟨h, l⟩ | ⟨i, h1, h2, _, l⟩
  · rw [lp_inl l]
    have hbf : b = false := by
      cases hbb : b with
      | false => rfl
      | true =>
        obtain ⟨q, B', h3, h4⟩ := b2.1 hbb
        have h5 : A.length < r.Trees.length := by rw [hlen, h3]; simp
        have h6 : gd r.Trees A.length = q := by rw [e1, gd_app2 (Nat.le_refl _), Nat.sub_self, h3]; rfl
        refine absurd (nA_inj (hb.2.1 _ h5).1 ha ?_) (h _ h5)
        rw [h6]; exact h4
    rw [hbf]
    exact ⟨_, rfl, fun h => by cases h⟩
  · rw [lp_inr l]
    have hi : i = A.length ∧ b = true := by
      rcases Nat.lt_trichotomy i A.length with h3 | h3 | h3
      · have := hA _ (gd_mem h3)
        rw [← gd_app1 (B := B) h3, ← e1, h2] at this
        omega
      · refine ⟨h3, b2.2 ?_⟩
        match B, hlen, e1 with
        | [], hlen, _ => simp at hlen; omega
        | q :: B', _, e1 =>
          refine ⟨q, B', rfl, ?_⟩
          have : gd r.Trees i = q := by rw [h3, e1, gd_app2 (Nat.le_refl _), Nat.sub_self]; rfl
          rw [← this, h2]
      · have h4 : gd r.Trees i = gd B (i - A.length) := by rw [e1, gd_app2 (by omega)]
        rcases hB with h | ⟨q', B', rfl, h5, h6⟩
        · have := h _ (gd_mem (show i - A.length < B.length by omega))
          rw [← h4, h2] at this; omega
        · have h7 : gd (q' :: B') (i - A.length) = gd B' (i - A.length - 1) := by
            obtain ⟨j, hj⟩ : ∃ j, i - A.length = j + 1 := ⟨i - A.length - 1, by omega⟩
            rw [hj]; simp [gd, List.getD_eq_getElem?_getD]
          have := h6 _ (gd_mem (show i - A.length - 1 < B'.length by simp at hlen; omega))
          rw [← h7, ← h4, h2] at this; omega
    rw [hi.2]
    exact ⟨_, rfl, fun _ => ⟨by omega, by rw [hi.1], h2⟩⟩
/-- The reference's list with a tree put in. -/
theorem F61_ok (l : List TTree) (t : TTree) (hl : l.length ≤ 1000) (hq : ∀ q ∈ l, Ab q.Root) (ht : Ab t.Root) : F61 l t = some (wl (fun q => nA q.Root - nA t.Root) t l) := by
  have lo := run_gen (step := fun s : List TTree × Bool × Int => F61_L1 l t s.1 s.2.1 s.2.2) (E := List TTree × Bool) (R := List TTree) l.length
    (fun i => (((l.take i).foldl (wt (fun q => nA q.Root - nA t.Root) t) ([], false)).1, ((l.take i).foldl (wt (fun q => nA q.Root - nA t.Root) t) ([], false)).2, (i : Int)))
    (l.foldl (wt (fun q => nA q.Root - nA t.Root) t) ([], false))
    (fun i hi => by
      have hw := wt_len (fun q : TTree => nA q.Root - nA t.Root) t (l.take i) ([], false)
      rw [List.length_take] at hw
      rw [fold_snoc _ _ _ hi]
      generalize (l.take i).foldl (wt (fun q => nA q.Root - nA t.Root) t) ([], false) = s at hw ⊢
      obtain ⟨k, k1, k2⟩ := F76_ok (gd l i).Root t.Root (hq _ (gd_mem hi)) ht
      obtain ⟨L, d⟩ := s
      simp only [List.length_nil] at hw
      unfold F61_L1
      simp only [Int.toNat_natCast]
      rw [bif_t (by simp [bLt_eq]; omega), need_true (inb_nat hi), k1, Option.bind_some, wr_add1 hi (by omega), need_true (capb_iff.2 (by omega)), need_true (capb_iff.2 (by omega))]
      simp only [need_true (inb_nat hi), need_true (capb_iff (by_ := 56) (n := L.length + 1)|>.2 (by omega)), eta_TTree, eta_A6u8]
      unfold wt
      simp only
      rcases k2 with ⟨k2, k3⟩ | ⟨k2, k3⟩ | ⟨k2, k3⟩
      · rw [show bLe 0 k = false from by simp [bLe_eq]; omega, show bEq k 0 = false from by simp [bEq_eq]; omega]
        rw [if_neg (by omega), if_neg (by omega), decide_eq_false (show ¬ 0 ≤ nA (gd l i).Root - nA t.Root by omega)]
        simp
      · rw [show bLe 0 k = true from by simp [bLe_eq]; omega, show bEq k 0 = true from by simp [bEq_eq]; omega]
        rw [if_pos (by omega), decide_eq_true (show 0 ≤ nA (gd l i).Root - nA t.Root by omega)]
        cases d
        · rw [if_pos ⟨by omega, rfl⟩]; simp
        · rw [if_neg (by simp)]; simp
      · rw [show bLe 0 k = true from by simp [bLe_eq]; omega, show bEq k 0 = false from by simp [bEq_eq]; omega]
        rw [if_neg (by omega), decide_eq_true (show 0 ≤ nA (gd l i).Root - nA t.Root by omega)]
        cases d
        · rw [if_pos ⟨by omega, rfl⟩]; simp
        · rw [if_neg (by simp)]; simp)
    (by
      unfold F61_L1
      simp only [List.take_length]
      rw [bif_f (by simp [bLt_eq])])
  have l0 : loopD (fun s : List TTree × Bool × Int => F61_L1 l t s.1 s.2.1 s.2.2) ([], false, 0) = _ := lo
  unfold F61
  rw [lp_inl l0]
  have hw := wt_len (fun q : TTree => nA q.Root - nA t.Root) t l ([], false)
  simp only [List.length_nil] at hw
  rw [need_true (capb_iff.2 (by omega))]
  unfold wl
  cases (l.foldl (wt (fun q => nA q.Root - nA t.Root) t) ([], false)).2 <;> rfl
theorem wl_len (l : List TTree) (c : TTree → Int) (t : TTree) : (wl c t l).length ≤ 2 * l.length + 1 := by
  have hw := wt_len c t l ([], false)
  simp only [List.length_nil] at hw
  unfold wl
  cases (l.foldl (wt c t) ([], false)).2
  · simp; omega
  · simp; omega
theorem handle_ok (r : TRoots) (w : TRootWord) (fr : A6u8) (cost now : Int) (hb : Abr r) (hw : Ab w.Root) (hs : Sm r) : ∃ v, F20 r w fr cost now = some v ∧ F21 r w fr cost now = some v ∧ Sm v.1 ∧ v.2.1.length ≤ 1 := by
  unfold F20 F21
  rcases F34_ok r hb with ⟨hv, e⟩ | ⟨hv, e⟩ <;> rcases F35_ok r hb with ⟨hv', e'⟩ | ⟨hv', e'⟩
  · rw [e, e', Option.bind_some, Option.bind_some, bif_f (by simp [bEq]), bif_f (c := !true) rfl]
    obtain ⟨d, d1, d2⟩ := F43_ok w
    obtain ⟨d', d1', d2'⟩ := F48_ok w
    have hdd : d' = d := by rw [Bool.eq_iff_iff, d2, d2']
    subst hdd
    rw [d1, d1', Option.bind_some, Option.bind_some]
    unfold F57 F60 F38
    simp only [Option.isSome_some, Bool.cond_self, need_true, gt_some, ae_def, eta_A6u8, eta_TTree]
    generalize hc : ((((!d') || ae fr r.Own) || (!((bLe 1 cost) && (bLe cost 1099511627776)))) || (!((bLe 0 now) && (bLe now 1099511627776)))) = c
    cases c with
    | true => exact ⟨_, rfl, rfl, by simp [Sm], by simp⟩
    | false =>
      rw [cond_false, cond_false, F17_ok r hs, F56_ok r hs]
      obtain ⟨A, B, e1, hA, hB⟩ := srt_split (fun q : TTree => nA q.Root) r.Trees (nA w.Root) (Vr_tre hv)
      obtain ⟨b, b1, b2⟩ := F58_ok r w.Root hb hw hs A B e1 hA (fun q hq => by
        rcases hB with h | ⟨q', B', rfl, h1, h2⟩
        · have := h q hq; omega
        · rcases List.mem_cons.1 hq with rfl | hq
          · omega
          · have := h2 q hq; omega)
      obtain ⟨t, t1, t2⟩ := F37_ok r w.Root hb hw hs A B e1 hA hB b b2
      rw [b1, t1, Option.bind_some, Option.bind_some]
      simp only [Option.bind_some, Int.toNat_natCast]
      have hlen : r.Trees.length = A.length + B.length := by rw [e1, List.length_append]
      cases hown : ae w.Root r.Own with
      | true => exact ⟨_, rfl, rfl, by simp [Sm], by simp⟩
      | false =>
        rw [cond_false, Bool.false_or]
        obtain ⟨n, hn⟩ : ∃ n, n = TTree.mk w.Root fr w.Seq (wr .i64 (w.Hops + 1)) (wr .i64 (w.Cost + cost)) w.Gate (wr .i64 (now + 5000000)) := ⟨_, rfl⟩
        have hq : ∀ q ∈ r.Trees, Ab q.Root := fun q hq => by
          obtain ⟨j, hj, rfl⟩ := List.getElem_of_mem hq
          rw [gd_at hj]; exact (hb.2.1 j hj).1
        rw [← hn]
        have hnr : n.Root = w.Root := by rw [hn]
        have h61 := F61_ok r.Trees n (by have := hs.1; omega) hq (by rw [hnr]; exact hw)
        have hwl := wl_len r.Trees (fun q => nA q.Root - nA n.Root) n
        rw [hnr] at h61 hwl
        rw [h61]
        simp only [Option.bind_some, need_true (capb_iff (by_ := 40) (n := 1)|>.2 (by omega))]
        generalize hst : (b && !(bLt t.Seq w.Seq || (bEq w.Seq t.Seq && bLt (wr .i64 (w.Cost + cost)) t.Cost))) = st
        have hst2 : (b && ((bLt w.Seq ((gd r.Trees A.length).Seq)) || ((bEq w.Seq ((gd r.Trees A.length).Seq)) && (bLe ((gd r.Trees A.length).Cost) (wr .i64 (w.Cost + cost)))))) = st := by
          rw [← hst]
          cases hbb : b with
          | false => rfl
          | true =>
            rw [(t2 hbb).2.1]
            rw [Bool.true_and, Bool.true_and, Bool.eq_iff_iff]
            simp only [Bool.or_eq_true, Bool.and_eq_true, Bool.not_eq_true', Bool.or_eq_false_iff, Bool.and_eq_false_iff, bLt_eq, bLe_eq, bEq_eq, decide_eq_true_eq, decide_eq_false_iff_not]
            omega
        rw [hst2]
        have hin : ∀ c : Bool, (bif (b && c) then inb (A.length : Int) r.Trees.length else true) = true := fun c => by
          cases hbb : b with
          | false => rfl
          | true => rw [inb_nat (t2 hbb).1]; cases c <;> rfl
        have hin0 : (bif b then inb (A.length : Int) r.Trees.length else true) = true := by
          have := hin true; rwa [Bool.and_true] at this
        rw [need_true hin0, need_true (hin _), Bool.and_assoc, need_true (hin _)]
        cases st with
        | true => exact ⟨_, rfl, rfl, by simp [Sm], by simp⟩
        | false =>
          rw [cond_false, cond_false]
          cases hcost : bLt 1099511627776 (wr .i64 (w.Cost + cost)) with
          | true => exact ⟨_, rfl, rfl, by simp [Sm], by simp⟩
          | false =>
            rw [cond_false, cond_false]
            cases hful : ((!b) && (bEq (r.Trees.length : Nat) 8)) with
            | true => exact ⟨_, rfl, rfl, by simp [Sm], by simp⟩
            | false =>
              rw [cond_false, cond_false]
              have hl8 := hv.1.2.2.1
              have fin : ∀ L : List TTree, L = wl (fun q => nA q.Root - nA w.Root) n r.Trees → ∃ v : TRoots × List TRootWord × Int, (bif (bLt (wr .i64 (w.Hops + 1)) 16) then some (TRoots.mk r.Own r.Root r.Gate r.Seq L r.Proxies, [TRootWord.mk w.Root w.Seq (wr .i64 (w.Hops + 1)) (wr .i64 (w.Cost + cost)) w.Gate], 0) else some (TRoots.mk r.Own r.Root r.Gate r.Seq L r.Proxies, [], 0)) = some v ∧ (bif (bLt (wr .i64 (w.Hops + 1)) 16) then some (TRoots.mk r.Own r.Root r.Gate r.Seq (wl (fun q => nA q.Root - nA w.Root) n r.Trees) r.Proxies, [TRootWord.mk w.Root w.Seq (wr .i64 (w.Hops + 1)) (wr .i64 (w.Cost + cost)) w.Gate], 0) else some (TRoots.mk r.Own r.Root r.Gate r.Seq (wl (fun q => nA q.Root - nA w.Root) n r.Trees) r.Proxies, [], 0)) = some v ∧ Sm v.1 ∧ v.2.1.length ≤ 1 := by
                intro L hL
                subst hL
                have h2 := hs.2
                cases bLt (wr .i64 (w.Hops + 1)) 16
                · exact ⟨_, rfl, rfl, ⟨by simp only; omega, h2⟩, by simp⟩
                · exact ⟨_, rfl, rfl, ⟨by simp only; omega, h2⟩, by simp⟩
              rcases hB with h | ⟨q', B', rfl, h1, h2⟩
              · have hbf : b = false := by
                  cases hbb : b with
                  | false => rfl
                  | true =>
                    obtain ⟨q, B', h3, h4⟩ := b2.1 hbb
                    have := h q (by rw [h3]; simp); omega
                rw [hbf, cond_false, need_true (insb_iff.2 (by omega))]
                refine fin _ ?_
                rw [e1, wl_new _ n A B (fun q hq => by have := hA q hq; omega) (fun q hq => by have := h q hq; omega)]
                unfold insL
                rw [Int.toNat_natCast, List.take_left, List.drop_left]; simp
              · have hbt : b = true := b2.2 ⟨q', B', rfl, h1⟩
                rw [hbt, cond_true, need_true (inb_nat (by rw [hlen]; simp))]
                refine fin _ ?_
                rw [e1, wl_old _ n A B' q' (fun q hq => by have := hA q hq; omega) (by omega) (fun q hq => by have := h2 q hq; omega)]
                simp
  · exact absurd hv hv'
  · exact absurd hv' hv
  · rw [e, e', Option.bind_some, Option.bind_some, bif_t (by simp [bEq]), bif_t (c := !false) rfl]
    exact ⟨_, rfl, rfl, by simp [Sm], by simp⟩
end Go.Proofs.Ytdcepineppafpaa
