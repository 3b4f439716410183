/-
  RootCodes: the plain law.
-/
import Derived.Test.YtdcepineppafpaaW
namespace Go.Proofs.Ytdcepineppafpaa
open Go.Am
set_option linter.unusedVariables false
set_option linter.unusedSimpArgs false
theorem same_ok (L : List Int) (h : L.length ≤ 1000) : F15 L L = some true := by
  obtain ⟨b, l1, l2⟩ := loop_forS (step := fun s => F15_L1 L L s) L.length (fun i => (i : Int)) (fun _ => True) (fun b => b = Sum.inl ()) trivial
    (fun i hi _ => by
      right
      unfold F15_L1
      rw [bif_t (by simp [bLt_eq]; omega), need_true (inb_nat hi), need_true (inb_nat hi), bif_f (by simp [bEq]), wr_add1 hi (by omega)]
      exact ⟨rfl, trivial⟩)
    (fun _ => ⟨_, by unfold F15_L1; rw [bif_f (by simp [bLt_eq])], rfl⟩)
  rw [l2] at l1
  unfold F15
  rw [bif_f (by simp [bEq])]
  exact lp_inl l1
theorem dec_one {b : List Int} {r r' : TRootWord × Int} (h : dec b r) (h' : dec b r') : r = r' := by
  rcases h with ⟨h, rfl⟩ | ⟨h, rfl⟩ | ⟨h, k, rfl⟩ | ⟨h, k, rfl⟩ <;> rcases h' with ⟨h', rfl⟩ | ⟨h', rfl⟩ | ⟨h', k', rfl⟩ | ⟨h', k', rfl⟩ <;> first | rfl | omega | exact absurd k' k | exact absurd k k'
theorem minq_gen {R : Type} {step : Int × Int → Option (Lp (Int × Int) (Int ⊕ R))} (D : List Int) (hD : ∀ q ∈ D, 0 ≤ q ∧ q ≤ 255) (hn : D.length ≤ 8) (hs : ∀ s, step s = bif (bLe 0 s.2) then (need (inb s.2 D.length) <| some (Lp.next (minI (wr .i64 ((wr .i64 (s.1 * 256)) + (wr .i64 (gd D s.2.toNat)))) 1125899906842624, wr .i64 (s.2 - 1)))) else (some (Lp.done (Sum.inl (β := R) s.1)))) :
    loopD step (0, wr .i64 ((D.length : Nat) - 1)) = some (Sum.inl (minI (ldN D) 1125899906842624)) := by
  have key : ∀ i : Nat, i ≤ D.length → loopD step (minI (ldN (D.drop i)) 1125899906842624, (i : Int) - 1) = some (Sum.inl (minI (ldN D) 1125899906842624)) := by
    intro i
    induction i with
    | zero => intro _; exact loopD_done (by rw [hs]; simp only; rw [bif_f (by simp [bLe_eq])]; simp)
    | succ i ih =>
      intro hi
      have hb := hD _ (gd_mem (show i < D.length from hi))
      have ht := ldN_bd (D.drop (i + 1)) fun q hq => hD q (List.mem_of_mem_drop hq)
      have e : D.drop i = gd D i :: D.drop (i + 1) := by
        rw [List.drop_eq_getElem_cons (show i < D.length from hi)]; simp [gd, List.getD_eq_getElem?_getD, show i < D.length from hi]
      have hr := ih (by omega)
      rw [← hr]
      refine loopD_next ?_
      rw [hs]
      simp only
      have ei : (((i + 1 : Nat) : Int) - 1) = (i : Int) := by omega
      have hm : 0 ≤ minI (ldN (D.drop (i + 1))) 1125899906842624 ∧ minI (ldN (D.drop (i + 1))) 1125899906842624 ≤ 1125899906842624 := by unfold minI; split <;> omega
      rw [ei, bif_t (by simp [bLe_eq]), need_true (inb_nat hi), Int.toNat_natCast, wr_in (x := minI _ _ * 256) (by omega), wr_in (x := gd D i) (by omega), wr_in (x := minI _ _ * 256 + gd D i) (by omega), wr_in (x := (i : Int) - 1) (by omega), e, ldN]
      congr 3
      unfold minI
      (repeat' split) <;> omega
  have := key D.length (Nat.le_refl _)
  rw [List.drop_length] at this
  rw [wr_in (by omega)]
  exact this
theorem F55_ok (D : List Int) (hD : ∀ q ∈ D, 0 ≤ q ∧ q ≤ 255) (hn : D.length ≤ 8) : F55 D = some (minI (ldN D) 1125899906842624) := by
  have l := minq_gen (R := Int) (step := fun s => F55_L1 D s.1 s.2) D hD hn (fun _ => rfl)
  unfold F55
  rw [lp_inl l]
theorem part (b : List Int) (i n m : Nat) (hm : m - i = n) (h : i + n ≤ b.length) : deR g_u8 (m - i) (enR c_u8 (b.drop i)) = (b.drop i).take n := by
  have h2 : ((b.drop i).take n).length = n := sub_len h
  refine List.ext_getElem? fun j => ?_
  rw [hm]
  by_cases hj : j < n
  · rw [List.getElem?_eq_getElem (by rw [deR_length]; exact hj), List.getElem?_eq_getElem (by omega)]
    congr 1
    have e1 := deR_get (g := g_u8) (n := n) (c := enR c_u8 (b.drop i)) hj
    have e2 : gd (deR g_u8 n (enR c_u8 (b.drop i))) j = (deR g_u8 n (enR c_u8 (b.drop i)))[j]'(by rw [deR_length]; exact hj) := by simp [gd, List.getD_eq_getElem?_getD, show j < (deR g_u8 n (enR c_u8 (b.drop i))).length by rw [deR_length]; exact hj]
    rw [← e2, e1, List.getElem_take]
    show gd (b.drop i) j = _
    simp [gd, List.getD_eq_getElem?_getD, show j < (b.drop i).length by simp; omega, show i + j < b.length by omega]
  · rw [List.getElem?_eq_none (by rw [deR_length]; omega), List.getElem?_eq_none (by omega)]
theorem decr_ok (b : List Int) (hb : ∀ q ∈ b, 0 ≤ q ∧ q ≤ 255) (hn : b.length ≤ 1000) : ∃ r, F14 b = some r ∧ dec b r := by
  unfold F14
  by_cases h1 : b.length < 20
  · rw [bif_t (by simp [bLt_eq]; omega)]
    exact ⟨_, rfl, .inl ⟨h1, rfl⟩⟩
  · rw [bif_f (by simp [bLt_eq]; omega)]
    by_cases h2 : 20 < b.length
    · rw [bif_t (by simp [bLt_eq]; omega)]
      exact ⟨_, rfl, .inr (.inl ⟨h2, rfl⟩)⟩
    · have hl : b.length = 20 := by omega
      rw [bif_f (by simp [bLt_eq]; omega)]
      rw [part b 6 4 10 rfl (by omega), part b 10 1 11 rfl (by omega), part b 11 8 19 rfl (by omega)]
      rw [F55_ok _ (sub_by hb 6 4) (by rw [sub_len (by omega)]; omega), F55_ok _ (sub_by hb 10 1) (by rw [sub_len (by omega)]; omega), F55_ok _ (sub_by hb 11 8) (by rw [sub_len (by omega)]; omega)]
      rw [need_true (slb_iff.2 (by omega)), Option.bind_some, need_true (slb_iff.2 (by omega)), Option.bind_some, need_true (slb_iff.2 (by omega)), Option.bind_some]
      rw [need_true (inb_iff.2 (by omega)), need_true (inb_iff.2 (by omega)), need_true (inb_iff.2 (by omega)), need_true (inb_iff.2 (by omega)), need_true (inb_iff.2 (by omega)), need_true (inb_iff.2 (by omega)), need_true (inb_iff.2 (by omega)), need_true (inb_iff.2 (by omega))]
      have b4 := ldN_bd _ (sub_by hb 6 4)
      have b1 := ldN_bd _ (sub_by hb 10 1)
      have b8 := ldN_bd _ (sub_by hb 11 8)
      rw [sub_len (by omega), show (256 : Int) ^ 4 = 4294967296 from by decide] at b4
      rw [sub_len (by omega), show (256 : Int) ^ 1 = 256 from by decide] at b1
      rw [show minI (ldN ((b.drop 6).take 4)) 1125899906842624 = ldN ((b.drop 6).take 4) from by unfold minI; split <;> omega, show minI (ldN ((b.drop 10).take 1)) 1125899906842624 = ldN ((b.drop 10).take 1) from by unfold minI; split <;> omega]
      have key : ∀ c, (c = ldN ((b.drop 11).take 8) ∨ (1099511627776 < c ∧ 1099511627776 < ldN ((b.drop 11).take 8))) → ∃ v, F48 (TRootWord.mk (A6u8.mk (gd b 0) (gd b 1) (gd b 2) (gd b 3) (gd b 4) (gd b 5)) (ldN ((b.drop 6).take 4)) (ldN ((b.drop 10).take 1)) c (bEq (gd b 19) 1)) = some v ∧ ((v = true ∧ c = ldN ((b.drop 11).take 8) ∧ Wd (msg b)) ∨ (v = false ∧ ¬ Wd (msg b))) := by
        intro c hc
        obtain ⟨v, v1, v2⟩ := F48_ok (TRootWord.mk (A6u8.mk (gd b 0) (gd b 1) (gd b 2) (gd b 3) (gd b 4) (gd b 5)) (ldN ((b.drop 6).take 4)) (ldN ((b.drop 10).take 1)) c (bEq (gd b 19) 1))
        refine ⟨v, v1, ?_⟩
        rcases hc with rfl | ⟨c1, c2⟩
        · cases v with
          | true => exact .inl ⟨rfl, rfl, v2.1 rfl⟩
          | false => exact .inr ⟨rfl, fun h => by cases v2.2 h⟩
        · cases v with
          | true =>
            have := (v2.1 rfl).2.2.2
            have h' : c ≤ 1099511627776 := this
            omega
          | false =>
            refine .inr ⟨rfl, fun h => ?_⟩
            have h' : ldN ((b.drop 11).take 8) ≤ 1099511627776 := h.2.2.2
            omega
      obtain ⟨v, v1, v2⟩ := key (minI (ldN ((b.drop 11).take 8)) 1125899906842624) (by unfold minI; split <;> omega)
      rw [v1]
      simp only [gt_some, Option.isSome_some, Bool.cond_self, need_true]
      by_cases hg : gd b 19 ≤ 1
      · have hg' : bLt 1 (gd b 19) = false := by simp [bLt_eq]; omega
        rw [hg']
        rcases v2 with ⟨rfl, hc, hw⟩ | ⟨rfl, hw⟩
        · rw [hc]
          exact ⟨_, rfl, .inr (.inr (.inr ⟨hl, ⟨hw, hg⟩, rfl⟩))⟩
        · exact ⟨_, rfl, .inr (.inr (.inl ⟨hl, fun h => hw h.1, rfl⟩))⟩
      · have hg' : bLt 1 (gd b 19) = true := by simp [bLt_eq]; omega
        rw [hg']
        exact ⟨_, rfl, .inr (.inr (.inl ⟨hl, fun h => hg h.2, rfl⟩))⟩
theorem law3 (w : TRootWord) (b : List Int) (hb : ∀ q ∈ b, 0 ≤ q ∧ q ≤ 255) : F3 w b = some true := by
  unfold F3
  by_cases hn : b.length ≤ 100
  · rw [bif_f (by simp [bLt_eq]; omega)]
    obtain ⟨r, r1, r2⟩ := decm_ok b hb (by omega)
    obtain ⟨r', r3, r4⟩ := decr_ok b hb (by omega)
    have := dec_one r4 r2
    subst this
    rw [r1, r3]
    have : ∃ y, F11 w = some y ∧ F12 w = some y ∧ y.1.length ≤ 1000 := by
      rcases encm_ok w with ⟨h, e⟩ | ⟨h, e⟩ <;> rcases encr_ok w with ⟨h', e'⟩ | ⟨h', e'⟩
      · exact ⟨_, e, e', by rw [enc_len]; omega⟩
      · exact absurd h h'
      · exact absurd h' h
      · exact ⟨_, e, e', by simp⟩
    obtain ⟨y, y1, y2, y3⟩ := this
    rw [y1, y2, Option.bind_some, Option.bind_some, Option.bind_some, Option.bind_some, same_ok _ y3, Option.bind_some]
    cases hg : r'.1.Gate <;> simp [bEq, bB, hg]
  · rw [bif_t (by simp [bLt_eq]; omega)]
end Go.Proofs.Ytdcepineppafpaa
