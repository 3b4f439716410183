/-
  Root: announcements as bytes.
-/
import Derived.Test.YtdcepineppafpaaY9
import Derived.Test.YtdcepineppafpaaPO
namespace Go.Proofs.Ytdcepineppafpaa
open Go.Am
set_option linter.unusedVariables false
set_option linter.unusedSimpArgs false
/-- A valid announcement. -/
def Wd (w : TRootWord) : Prop := (1 ≤ w.Seq ∧ w.Seq ≤ 2147483647) ∧ (0 ≤ w.Hops ∧ w.Hops ≤ 15) ∧ (0 ≤ w.Cost ∧ w.Cost ≤ 1099511627776)
theorem F43_ok (w : TRootWord) : ∃ v, F43 w = some v ∧ (v = true ↔ Wd w) := by
  unfold F43 F57 Wd
  simp only [Option.bind_some, Option.isSome_some, gt_some, Bool.cond_self, need_true]
  exact ⟨_, rfl, by simp only [Bool.and_eq_true, bLe_eq, decide_eq_true_eq, and_assoc]⟩
theorem ovw_all {L M : List Int} (h : L.length = M.length) : ovwL L 0 M = M := by
  unfold ovwL
  rw [List.take_zero, List.nil_append, Nat.zero_add, ← h, List.drop_length, List.append_nil]
theorem mkn (L : List Int) (n : Int) (hn : 0 ≤ n ∧ n ≤ 8) (hL : L.length ≤ 1000) : mkb 1 (L.length : Nat) (wr .i64 ((L.length : Nat) + n)) = true := mkb_iff.2 (by rw [wr_in (by omega)]; omega)
theorem wr_u32 {x : Int} (h : 0 ≤ x ∧ x ≤ 4294967295) : wr .u32 x = x := by
  obtain ⟨n, rfl⟩ := Int.eq_ofNat_of_zero_le h.1
  exact wrap_nat .u32 rfl n (by show n < 2 ^ 32; omega)
theorem F79_ok (L : List Int) (v : Int) (hv : 0 ≤ v ∧ v ≤ 18446744073709551615) (hL : L.length ≤ 1000) : F79 L v 4 = some (L ++ leN 4 v) := by
  have l := put_gen (R := List Int) (step := fun s => F79_L1 v 4 s.1 s.2) (wr .u64 v) (by rw [wr_u64 hv]; exact hv.1) L 4 (by omega) (by omega) (fun _ => rfl)
  have e0 : (List.replicate L.length (0 : Int)).length = L.length := List.length_replicate
  have e1 : ovwL (List.replicate L.length (0 : Int)) 0 L = L := ovw_all e0
  have e2 : List.take (List.replicate L.length (0 : Int)).length L = L := by rw [e0, List.take_length]
  have e3 : decide (L.length ≤ (List.replicate L.length (0 : Int)).length) = true := decide_eq_true (by rw [e0]; exact Nat.le_refl _)
  generalize hw : List.replicate L.length (0 : Int) = w at e0 e1 e2 e3
  generalize hs : (fun s : List Int × Int => F79_L1 v 4 s.1 s.2) = step at l
  unfold F79
  rw [hs, hw, need_true (mkn L 4 (by omega) hL), Option.bind_some, need_true e3, e1, Option.bind_some, e2, lp_inl l, wr_u64 hv]
theorem F80_ok (L : List Int) (v : Int) (hv : 0 ≤ v ∧ v ≤ 18446744073709551615) (hL : L.length ≤ 1000) : F80 L v 1 = some (L ++ leN 1 v) := by
  have l := put_gen (R := List Int) (step := fun s => F80_L1 v 1 s.1 s.2) (wr .u64 v) (by rw [wr_u64 hv]; exact hv.1) L 1 (by omega) (by omega) (fun _ => rfl)
  have e0 : (List.replicate L.length (0 : Int)).length = L.length := List.length_replicate
  have e1 : ovwL (List.replicate L.length (0 : Int)) 0 L = L := ovw_all e0
  have e2 : List.take (List.replicate L.length (0 : Int)).length L = L := by rw [e0, List.take_length]
  have e3 : decide (L.length ≤ (List.replicate L.length (0 : Int)).length) = true := decide_eq_true (by rw [e0]; exact Nat.le_refl _)
  generalize hw : List.replicate L.length (0 : Int) = w at e0 e1 e2 e3
  generalize hs : (fun s : List Int × Int => F80_L1 v 1 s.1 s.2) = step at l
  unfold F80
  rw [hs, hw, need_true (mkn L 1 (by omega) hL), Option.bind_some, need_true e3, e1, Option.bind_some, e2, lp_inl l, wr_u64 hv]
theorem F81_ok (L : List Int) (v : Int) (hv : 0 ≤ v ∧ v ≤ 18446744073709551615) (hL : L.length ≤ 1000) : F81 L v 8 = some (L ++ leN 8 v) := by
  have l := put_gen (R := List Int) (step := fun s => F81_L1 v 8 s.1 s.2) v hv.1 L 8 (by omega) (by omega) (fun _ => rfl)
  have e0 : (List.replicate L.length (0 : Int)).length = L.length := List.length_replicate
  have e1 : ovwL (List.replicate L.length (0 : Int)) 0 L = L := ovw_all e0
  have e2 : List.take (List.replicate L.length (0 : Int)).length L = L := by rw [e0, List.take_length]
  have e3 : decide (L.length ≤ (List.replicate L.length (0 : Int)).length) = true := decide_eq_true (by rw [e0]; exact Nat.le_refl _)
  generalize hw : List.replicate L.length (0 : Int) = w at e0 e1 e2 e3
  generalize hs : (fun s : List Int × Int => F81_L1 v 8 s.1 s.2) = step at l
  unfold F81
  rw [hs, hw, need_true (mkn L 8 (by omega) hL), Option.bind_some, need_true e3, e1, Option.bind_some, e2, lp_inl l]
/-- One byte for a truth. -/
def gB (g : Bool) : Int := if g then 1 else 0
/-- The bytes of an announcement. -/
def enc (w : TRootWord) : List Int := ((([w.Root.x0, w.Root.x1, w.Root.x2, w.Root.x3, w.Root.x4, w.Root.x5] ++ leN 4 w.Seq) ++ leN 1 w.Hops) ++ leN 8 w.Cost) ++ leN 1 (gB w.Gate)
theorem encm_ok (w : TRootWord) : (Wd w ∧ F11 w = some (enc w, 0)) ∨ (¬ Wd w ∧ F11 w = some ([], 8)) := by
  obtain ⟨v, v1, v2⟩ := F43_ok w
  unfold F11
  rw [v1, Option.bind_some]
  by_cases h : Wd w
  · have hw := h
    unfold Wd at hw
    rw [v2.2 h]
    refine .inl ⟨h, ?_⟩
    simp only [Bool.not_true, cond_false]
    unfold F44 F45 F46 F47
    rw [need_true (capb_iff.2 (by simp)), Option.bind_some, wr_u32 (x := w.Seq) (by omega), wr_u8 (x := w.Hops) (by omega), wr_u64 (x := w.Cost) (by omega)]
    rw [F79_ok _ _ (by omega) (by simp)]
    simp only [Option.bind_some]
    rw [F80_ok _ _ (by omega) (by simp [leN_len])]
    simp only [Option.bind_some]
    rw [F81_ok _ _ (by omega) (by simp [leN_len])]
    simp only [Option.bind_some]
    cases hg : w.Gate with
    | true =>
      rw [bif_t rfl, F80_ok _ _ (by omega) (by simp [leN_len])]
      simp only [Option.bind_some, enc, gB, hg, if_true]
    | false =>
      rw [bif_f rfl, F80_ok _ _ (by omega) (by simp [leN_len])]
      simp only [Option.bind_some, enc, gB, hg, Bool.false_eq_true, if_false]
  · have hv : v = false := by cases v with | false => rfl | true => exact absurd (v2.1 rfl) h
    subst hv
    exact .inr ⟨h, rfl⟩
theorem take_ok (D : List Int) (i n : Nat) (hi : i ≤ D.length) (hn : n ≤ 100) (hD : D.length ≤ 1000) : F50 (TReader.mk D i) n = if i + n ≤ D.length then some ((D.drop i).take n, TReader.mk D ((i + n : Nat) : Int), 0) else some ([], TReader.mk [] 0, 10) := by
  unfold F50 F82
  simp only
  rw [bif_f (c := _ || _) (by simp [bLt_eq]; omega), Option.bind_some, bif_f (by simp [bEq]), bif_f (by simp [bLt_eq])]
  by_cases h : i + n ≤ D.length
  · rw [if_pos h, bif_f (by rw [wr_in (by omega)]; simp [bLt_eq]; omega), need_true (slb_iff.2 (by rw [wr_in (by omega)]; omega)), need_true (capb_iff.2 (by rw [wr_in (by omega)]; omega)), Option.bind_some, List.nil_append]
    have e : (wr .i64 ((i : Int) + n)) = ((i + n : Nat) : Int) := by rw [wr_in (by omega)]; omega
    rw [e, Int.toNat_natCast, Int.toNat_natCast, Nat.add_sub_cancel_left]
  · rw [if_neg h, bif_t (by rw [wr_in (by omega)]; simp [bLt_eq]; omega)]
theorem num_ok {step : List Int × TReader × Int → Int × Int → Option (Lp (Int × Int) (Int ⊕ (Int × TReader × Int)))} (D : List Int) (hb : ∀ q ∈ D, 0 ≤ q ∧ q ≤ 255) (r : TReader) (n : Nat) (hn : n ≤ 8) (hl : D.length = n) (hs : ∀ x s, step x s = bif (bLt s.2 (x.1.length : Nat)) then (need (inb s.2 x.1.length) <| need (bLe 0 (wr .i64 (8 * s.2))) <| some (Lp.next (orI .u64 s.1 (shlI .u64 (wr .u64 (gd x.1 s.2.toNat)) (wr .i64 (8 * s.2))), wr .i64 (s.2 + 1)))) else (some (Lp.done (Sum.inl s.1)))) :
    loopD (step (D, r, 0)) (0, 0) = some (Sum.inl (ldN D)) :=
  num_gen (R := Int × TReader × Int) (step := step (D, r, 0)) D hb (by omega) (fun s => hs _ s)
theorem sub_by {D : List Int} (hb : ∀ q ∈ D, 0 ≤ q ∧ q ≤ 255) (i n : Nat) : ∀ q ∈ (D.drop i).take n, 0 ≤ q ∧ q ≤ 255 := fun q hq => hb q (List.mem_of_mem_drop (List.mem_of_mem_take hq))
theorem sub_len {D : List Int} {i n : Nat} (h : i + n ≤ D.length) : ((D.drop i).take n).length = n := by simp; omega
theorem u32_ok (D : List Int) (hb : ∀ q ∈ D, 0 ≤ q ∧ q ≤ 255) (i : Nat) (hi : i ≤ D.length) (hD : D.length ≤ 1000) : F51 (TReader.mk D i) = if i + 4 ≤ D.length then some (ldN ((D.drop i).take 4), TReader.mk D ((i + 4 : Nat) : Int), 0) else some (0, TReader.mk [] 0, 10) := by
  unfold F51 F83
  have t := take_ok D i 4 hi (by omega) hD
  rw [show ((4 : Nat) : Int) = 4 from rfl] at t
  rw [t]
  by_cases h : i + 4 ≤ D.length
  · rw [if_pos h, if_pos h, Option.bind_some, bif_f (by simp [bEq])]
    have l := num_ok (step := fun x s => F83_L1 x s.1 s.2) ((D.drop i).take 4) (sub_by hb i 4) (TReader.mk D ((i + 4 : Nat) : Int)) 4 (by omega) (sub_len h) (fun _ _ => rfl)
    rw [lp_inl l, Option.bind_some]
    have b := ldN_bd _ (sub_by hb i 4)
    rw [sub_len h] at b
    rw [wr_u32 (by have := b.2; rw [show (256 : Int) ^ 4 = 4294967296 from by decide] at this; omega)]
  · rw [if_neg h, if_neg h, Option.bind_some, bif_t (by simp [bEq]), Option.bind_some]
theorem u8_ok (D : List Int) (hb : ∀ q ∈ D, 0 ≤ q ∧ q ≤ 255) (i : Nat) (hi : i ≤ D.length) (hD : D.length ≤ 1000) : F52 (TReader.mk D i) = if i + 1 ≤ D.length then some (ldN ((D.drop i).take 1), TReader.mk D ((i + 1 : Nat) : Int), 0) else some (0, TReader.mk [] 0, 10) := by
  unfold F52 F84
  have t := take_ok D i 1 hi (by omega) hD
  rw [show ((1 : Nat) : Int) = 1 from rfl] at t
  rw [t]
  by_cases h : i + 1 ≤ D.length
  · rw [if_pos h, if_pos h, Option.bind_some, bif_f (by simp [bEq])]
    have l := num_ok (step := fun x s => F84_L1 x s.1 s.2) ((D.drop i).take 1) (sub_by hb i 1) (TReader.mk D ((i + 1 : Nat) : Int)) 1 (by omega) (sub_len h) (fun _ _ => rfl)
    rw [lp_inl l, Option.bind_some]
    have b := ldN_bd _ (sub_by hb i 1)
    rw [sub_len h] at b
    rw [wr_u8 (by have := b.2; rw [show (256 : Int) ^ 1 = 256 from by decide] at this; omega)]
  · rw [if_neg h, if_neg h, Option.bind_some, bif_t (by simp [bEq]), Option.bind_some]
theorem u64_ok (D : List Int) (hb : ∀ q ∈ D, 0 ≤ q ∧ q ≤ 255) (i : Nat) (hi : i ≤ D.length) (hD : D.length ≤ 1000) : F53 (TReader.mk D i) = if i + 8 ≤ D.length then some (ldN ((D.drop i).take 8), TReader.mk D ((i + 8 : Nat) : Int), 0) else some (0, TReader.mk [] 0, 10) := by
  unfold F53 F85
  have t := take_ok D i 8 hi (by omega) hD
  rw [show ((8 : Nat) : Int) = 8 from rfl] at t
  rw [t]
  by_cases h : i + 8 ≤ D.length
  · rw [if_pos h, if_pos h, Option.bind_some, bif_f (by simp [bEq])]
    have l := num_ok (step := fun x s => F85_L1 x s.1 s.2) ((D.drop i).take 8) (sub_by hb i 8) (TReader.mk D ((i + 8 : Nat) : Int)) 8 (by omega) (sub_len h) (fun _ _ => rfl)
    rw [lp_inl l, Option.bind_some]
  · rw [if_neg h, if_neg h, Option.bind_some, bif_t (by simp [bEq]), Option.bind_some]
theorem gd_take {D : List Int} {n i : Nat} (h : i < n) : gd (D.take n) i = gd D i := by
  simp [gd, List.getElem?_take, h]
/-- The announcement of bytes. -/
def msg (b : List Int) : TRootWord := TRootWord.mk (A6u8.mk (gd b 0) (gd b 1) (gd b 2) (gd b 3) (gd b 4) (gd b 5)) (ldN ((b.drop 6).take 4)) (ldN ((b.drop 10).take 1)) (ldN ((b.drop 11).take 8)) (bEq (gd b 19) 1)
def zw : TRootWord := TRootWord.mk (A6u8.mk 0 0 0 0 0 0) 0 0 0 false
/-- What is decoded. -/
def dec (b : List Int) (r : TRootWord × Int) : Prop := (b.length < 20 ∧ r = (zw, 10)) ∨ (20 < b.length ∧ r = (zw, 11)) ∨ (b.length = 20 ∧ ¬ (Wd (msg b) ∧ gd b 19 ≤ 1) ∧ r = (zw, 12)) ∨ (b.length = 20 ∧ (Wd (msg b) ∧ gd b 19 ≤ 1) ∧ r = (msg b, 0))
theorem one_byte {b : List Int} {i : Nat} (h : i < b.length) : ldN ((b.drop i).take 1) = gd b i := by
  rw [List.drop_eq_getElem_cons h, List.take_succ_cons, List.take_zero]
  simp [ldN, gd, List.getD_eq_getElem?_getD, h]
theorem decm_ok (b : List Int) (hb : ∀ q ∈ b, 0 ≤ q ∧ q ≤ 255) (hn : b.length ≤ 1000) : ∃ r, F13 b = some r ∧ dec b r := by
  unfold F13
  have t := take_ok b 0 6 (by omega) (by omega) hn
  rw [show ((6 : Nat) : Int) = 6 from rfl, show ((0 : Nat) : Int) = 0 from rfl] at t
  rw [t]
  by_cases h6 : 0 + 6 ≤ b.length
  · rw [if_pos h6, Option.bind_some, bif_f (by simp [bEq]), need_true (decide_eq_true (by rw [sub_len h6]; omega))]
    have q6 : F51 (TReader.mk b 6) = if 6 + 4 ≤ b.length then some (ldN ((b.drop 6).take 4), TReader.mk b 10, 0) else some (0, TReader.mk [] 0, 10) := u32_ok b hb 6 (by omega) hn
    show ∃ r, ((F51 (TReader.mk b 6)).bind _) = some r ∧ _
    rw [q6]
    by_cases h10 : 6 + 4 ≤ b.length
    · rw [if_pos (by omega), Option.bind_some, bif_f (by simp [bEq])]
      have q10 : F52 (TReader.mk b 10) = if 10 + 1 ≤ b.length then some (ldN ((b.drop 10).take 1), TReader.mk b 11, 0) else some (0, TReader.mk [] 0, 10) := u8_ok b hb 10 (by omega) hn
      rw [q10]
      by_cases h11 : 10 + 1 ≤ b.length
      · rw [if_pos (by omega), Option.bind_some, bif_f (by simp [bEq])]
        have q11 : F53 (TReader.mk b 11) = if 11 + 8 ≤ b.length then some (ldN ((b.drop 11).take 8), TReader.mk b 19, 0) else some (0, TReader.mk [] 0, 10) := u64_ok b hb 11 (by omega) hn
        rw [q11]
        by_cases h19 : 11 + 8 ≤ b.length
        · rw [if_pos (by omega), Option.bind_some, bif_f (by simp [bEq])]
          have q19 : F52 (TReader.mk b 19) = if 19 + 1 ≤ b.length then some (ldN ((b.drop 19).take 1), TReader.mk b 20, 0) else some (0, TReader.mk [] 0, 10) := u8_ok b hb 19 (by omega) hn
          rw [q19]
          by_cases h20 : 19 + 1 ≤ b.length
          · rw [if_pos (by omega), Option.bind_some, bif_f (by simp [bEq])]
            unfold F54 F82
            simp only
            rw [bif_f (c := _ || _) (by simp [bLt_eq]; omega), Option.bind_some, bif_f (c := !bEq 0 0) (by simp [bEq])]
            by_cases h21 : 20 < b.length
            · rw [bif_t (c := bLt _ _) (by simp [bLt_eq]; omega), Option.bind_some, bif_t (by simp [bEq])]
              exact ⟨_, rfl, .inr (.inl ⟨h21, rfl⟩)⟩
            · have hl : b.length = 20 := by omega
              rw [bif_f (c := bLt _ _) (by simp [bLt_eq]; omega), Option.bind_some, bif_f (by simp [bEq])]
              simp only [Nat.zero_add, Nat.reduceAdd, List.drop_zero, gd_take (D := b) (n := 6) (i := 0) (by omega), gd_take (D := b) (n := 6) (i := 1) (by omega), gd_take (D := b) (n := 6) (i := 2) (by omega), gd_take (D := b) (n := 6) (i := 3) (by omega), gd_take (D := b) (n := 6) (i := 4) (by omega), gd_take (D := b) (n := 6) (i := 5) (by omega)]
              rw [one_byte (b := b) (i := 19) (by omega)]
              have b4 := ldN_bd _ (sub_by hb 6 4)
              have b1 := ldN_bd _ (sub_by hb 10 1)
              have b8 := ldN_bd _ (sub_by hb 11 8)
              rw [sub_len (by omega), show (256 : Int) ^ 4 = 4294967296 from by decide] at b4
              rw [sub_len (by omega), show (256 : Int) ^ 1 = 256 from by decide] at b1
              rw [wr_in (x := ldN ((b.drop 6).take 4)) (by omega), wr_in (x := ldN ((b.drop 10).take 1)) (by omega)]
              by_cases hc : 1099511627776 < ldN ((b.drop 11).take 8) ∨ 1 < gd b 19
              · rw [bif_t (by simp only [bLt_eq, Bool.or_eq_true, decide_eq_true_eq]; exact hc)]
                refine ⟨_, rfl, .inr (.inr (.inl ⟨hl, fun h => ?_, rfl⟩))⟩
                have h1 := h.1.2.2.2
                have h2 := h.2
                have h1' : ldN ((b.drop 11).take 8) ≤ 1099511627776 := h1
                omega
              · rw [bif_f (by simp only [bLt_eq, Bool.or_eq_false_iff, decide_eq_false_iff_not]; omega), wr_in (x := ldN ((b.drop 11).take 8)) (by omega)]
                obtain ⟨v, v1, v2⟩ := F43_ok (msg b)
                have v1' : F43 (TRootWord.mk (A6u8.mk (gd b 0) (gd b 1) (gd b 2) (gd b 3) (gd b 4) (gd b 5)) (ldN ((b.drop 6).take 4)) (ldN ((b.drop 10).take 1)) (ldN ((b.drop 11).take 8)) (bEq (gd b 19) 1)) = some v := v1
                rw [v1', Option.bind_some]
                by_cases hw : Wd (msg b)
                · rw [v2.2 hw]
                  exact ⟨_, rfl, .inr (.inr (.inr ⟨hl, ⟨hw, by omega⟩, rfl⟩))⟩
                · have hv : v = false := by cases v with | false => rfl | true => exact absurd (v2.1 rfl) hw
                  subst hv
                  exact ⟨_, rfl, .inr (.inr (.inl ⟨hl, fun h => hw h.1, rfl⟩))⟩
          · rw [if_neg (by omega), Option.bind_some, bif_t (by simp [bEq])]
            exact ⟨_, rfl, .inl ⟨by omega, rfl⟩⟩
        · rw [if_neg (by omega), Option.bind_some, bif_t (by simp [bEq])]
          exact ⟨_, rfl, .inl ⟨by omega, rfl⟩⟩
      · rw [if_neg (by omega), Option.bind_some, bif_t (by simp [bEq])]
        exact ⟨_, rfl, .inl ⟨by omega, rfl⟩⟩
    · rw [if_neg (by omega), Option.bind_some, bif_t (by simp [bEq])]
      exact ⟨_, rfl, .inl ⟨by omega, rfl⟩⟩
  · rw [if_neg (by omega), Option.bind_some, bif_t (by simp [bEq])]
    exact ⟨_, rfl, .inl ⟨by omega, rfl⟩⟩
theorem msg_enc (b : List Int) (hb : ∀ q ∈ b, 0 ≤ q ∧ q ≤ 255) (hl : b.length = 20) (hg : gd b 19 ≤ 1) : enc (msg b) = b := by
  have a4 := leN_ldN _ (sub_by hb 6 4)
  have a1 := leN_ldN _ (sub_by hb 10 1)
  have a8 := leN_ldN _ (sub_by hb 11 8)
  rw [sub_len (by omega)] at a4 a1 a8
  have h19 := hb _ (gd_mem (show 19 < b.length by omega))
  have e : leN 1 (gB (bEq (gd b 19) 1)) = [gd b 19] := by
    by_cases h : gd b 19 = 1
    · rw [h]; rfl
    · rw [show gd b 19 = 0 from by omega]; rfl
  show ((([gd b 0, gd b 1, gd b 2, gd b 3, gd b 4, gd b 5] ++ leN 4 (ldN ((b.drop 6).take 4))) ++ leN 1 (ldN ((b.drop 10).take 1))) ++ leN 8 (ldN ((b.drop 11).take 8))) ++ leN 1 (gB (bEq (gd b 19) 1)) = b
  rw [e, a4, a1, a8]
  match b, hl with
  | [a0, a1, a2, a3, a4, a5, a6, a7, a8, a9, a10, a11, a12, a13, a14, a15, a16, a17, a18, a19], _ => rfl
theorem enc_len (w : TRootWord) : (enc w).length = 20 := by simp [enc, leN_len]
/-- The address has bytes. -/
def by6 (a : A6u8) : Prop := (0 ≤ a.x0 ∧ a.x0 ≤ 255) ∧ (0 ≤ a.x1 ∧ a.x1 ≤ 255) ∧ (0 ≤ a.x2 ∧ a.x2 ≤ 255) ∧ (0 ≤ a.x3 ∧ a.x3 ≤ 255) ∧ (0 ≤ a.x4 ∧ a.x4 ≤ 255) ∧ (0 ≤ a.x5 ∧ a.x5 ≤ 255)
theorem enc_by (w : TRootWord) (h : by6 w.Root) : ∀ q ∈ enc w, 0 ≤ q ∧ q ≤ 255 := by
  intro q hq
  obtain ⟨h0, h1, h2, h3, h4, h5⟩ := h
  simp only [enc, List.mem_append, List.mem_cons, List.not_mem_nil, or_false] at hq
  rcases hq with (((hq | hq) | hq) | hq) | hq
  · rcases hq with rfl | rfl | rfl | rfl | rfl | rfl <;> assumption
  · exact leN_by _ _ q hq
  · exact leN_by _ _ q hq
  · exact leN_by _ _ q hq
  · exact leN_by _ _ q hq
theorem enc_msg (w : TRootWord) (h : Wd w) : msg (enc w) = w ∧ gd (enc w) 19 ≤ 1 := by
  obtain ⟨R, S, H, C, G⟩ := w
  obtain ⟨x0, x1, x2, x3, x4, x5⟩ := R
  unfold Wd at h
  simp only at h
  have e4 : ldN (leN 4 S) = S := ldN_leN 4 _ (by omega) (by rw [show (256 : Int) ^ 4 = 4294967296 from by decide]; omega)
  have e1 : ldN (leN 1 H) = H := ldN_leN 1 _ (by omega) (by rw [show (256 : Int) ^ 1 = 256 from by decide]; omega)
  have e8 : ldN (leN 8 C) = C := ldN_leN 8 _ (by omega) (by rw [show (256 : Int) ^ 8 = 18446744073709551616 from by decide]; omega)
  have d4 : ((enc ⟨⟨x0, x1, x2, x3, x4, x5⟩, S, H, C, G⟩).drop 6).take 4 = leN 4 S := rfl
  have d1 : ((enc ⟨⟨x0, x1, x2, x3, x4, x5⟩, S, H, C, G⟩).drop 10).take 1 = leN 1 H := rfl
  have d8 : ((enc ⟨⟨x0, x1, x2, x3, x4, x5⟩, S, H, C, G⟩).drop 11).take 8 = leN 8 C := rfl
  have dg : gd (enc ⟨⟨x0, x1, x2, x3, x4, x5⟩, S, H, C, G⟩) 19 = gB G % 256 := rfl
  unfold msg
  rw [d4, d1, d8, e4, e1, e8, dg]
  cases G with
  | true => exact ⟨rfl, by decide⟩
  | false => exact ⟨rfl, by decide⟩
end Go.Proofs.Ytdcepineppafpaa
