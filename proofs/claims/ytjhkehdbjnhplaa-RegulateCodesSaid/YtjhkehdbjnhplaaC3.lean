/-
  RegulateCodes: the plain law.
-/
import Derived.Test.YtjhkehdbjnhplaaY3
import Derived.Test.YtjhkehdbjnhplaaPO
namespace Go.Proofs.Ytjhkehdbjnhplaa
open Go.Am
set_option linter.unusedVariables false
set_option linter.unusedSimpArgs false
theorem ovw_all {L M : List Int} (h : L.length = M.length) : ovwL L 0 M = M := by
  unfold ovwL
  rw [List.take_zero, List.nil_append, Nat.zero_add, ← h, List.drop_length, List.append_nil]
/-- A valid message. -/
def Wd (w : TRegulateWord) : Prop := (1 ≤ w.Channel ∧ w.Channel ≤ 255) ∧ (0 ≤ w.At ∧ w.At ≤ 1099511627776) ∧ ((w.Kind = 1 ∧ 1 ≤ w.To ∧ w.To ≤ 255) ∨ (w.Kind = 2 ∧ w.To = 0 ∧ w.At = 0) ∨ (w.Kind = 3 ∧ w.To = 0))
theorem F44_ok (w : TRegulateWord) : ∃ v, F44 w = some v ∧ (v = true ↔ Wd w) := by
  unfold F44 F83 Wd
  simp only [Option.bind_some, Option.isSome_some, gt_some, Bool.cond_self, need_true]
  by_cases h1 : w.Kind = 1
  · rw [bif_t (by simp [bEq, h1])]
    exact ⟨_, rfl, by simp only [Bool.and_eq_true, bLe_eq, decide_eq_true_eq]; omega⟩
  · rw [bif_f (by simp [bEq, h1])]
    by_cases h2 : w.Kind = 2
    · rw [bif_t (by simp [bEq, h2])]
      exact ⟨_, rfl, by simp only [Bool.and_eq_true, bLe_eq, decide_eq_true_eq]; omega⟩
    · rw [bif_f (by simp [bEq, h2])]
      by_cases h3 : w.Kind = 3
      · rw [bif_t (by simp [bEq, h3])]
        exact ⟨_, rfl, by simp only [Bool.and_eq_true, bLe_eq, decide_eq_true_eq]; omega⟩
      · rw [bif_f (by simp [bEq, h3])]
        exact ⟨_, rfl, by simp only [Bool.false_eq_true, false_iff]; omega⟩
theorem F46_ok (w : TRegulateWord) : ∃ v, F46 w = some v ∧ (v = true ↔ Wd w) := by
  unfold F46 F63 Wd
  simp only [Option.isSome_some, gt_some, Bool.cond_self, need_true]
  by_cases h0 : (1 ≤ w.Channel ∧ w.Channel ≤ 255) ∧ (0 ≤ w.At ∧ w.At ≤ 1099511627776)
  · rw [bif_f (by simp only [bLt_eq, bLe_eq, Bool.or_eq_false_iff, decide_eq_false_iff_not, Bool.not_eq_false', Bool.and_eq_true, decide_eq_true_eq]; omega)]
    by_cases h1 : w.Kind = 1
    · rw [bif_t (by simp [bEq, h1])]
      exact ⟨_, rfl, by simp only [Bool.and_eq_true, bLe_eq, decide_eq_true_eq]; omega⟩
    · rw [bif_f (by simp [bEq, h1])]
      by_cases h2 : w.Kind = 2
      · rw [bif_t (by simp [bEq, h2])]
        exact ⟨_, rfl, by simp only [Bool.and_eq_true, bEq_eq, decide_eq_true_eq]; omega⟩
      · rw [bif_f (by simp [bEq, h2])]
        by_cases h3 : w.Kind = 3
        · rw [bif_t (by simp [bEq, h3])]
          exact ⟨_, rfl, by simp only [bEq_eq, decide_eq_true_eq]; omega⟩
        · rw [bif_f (by simp [bEq, h3])]
          exact ⟨_, rfl, by simp only [Bool.false_eq_true, false_iff]; omega⟩
  · rw [bif_t (by
      by_cases h1 : 1 ≤ w.Channel ∧ w.Channel ≤ 255
      · have : ¬ (0 ≤ w.At ∧ w.At ≤ 1099511627776) := fun h => h0 ⟨h1, h⟩
        simp only [bLt_eq, bLe_eq, Bool.or_eq_true, decide_eq_true_eq, Bool.not_eq_true', Bool.and_eq_false_iff, decide_eq_false_iff_not]; omega
      · simp only [bLt_eq, bLe_eq, Bool.or_eq_true, decide_eq_true_eq, Bool.not_eq_true', Bool.and_eq_false_iff, decide_eq_false_iff_not]; omega)]
    exact ⟨_, rfl, by simp only [Bool.false_eq_true, false_iff]; omega⟩
theorem mk8 (L : List Int) (hL : L.length ≤ 1000) : mkb 1 (L.length : Nat) (wr .i64 ((L.length : Nat) + 8)) = true := mkb_iff.2 (by rw [wr_in (by omega)]; omega)
theorem F84_ok (L : List Int) (v : Int) (hv : 0 ≤ v) (hL : L.length ≤ 1000) : F84 L v 8 = some (L ++ leN 8 v) := by
  have l := put_gen (R := List Int) (step := fun s => F84_L1 v 8 s.1 s.2) v hv L 8 (by omega) (by omega) (fun _ => rfl)
  have e0 : (List.replicate L.length (0 : Int)).length = L.length := List.length_replicate
  have e1 : ovwL (List.replicate L.length (0 : Int)) 0 L = L := ovw_all e0
  have e2 : List.take (List.replicate L.length (0 : Int)).length L = L := by rw [e0, List.take_length]
  have e3 : decide (L.length ≤ (List.replicate L.length (0 : Int)).length) = true := decide_eq_true (by rw [e0]; exact Nat.le_refl _)
  generalize hw : List.replicate L.length (0 : Int) = w at e0 e1 e2 e3
  generalize hs : (fun s : List Int × Int => F84_L1 v 8 s.1 s.2) = step at l
  unfold F84
  rw [hs, hw, need_true (mk8 L hL), Option.bind_some, need_true e3, e1, Option.bind_some, e2, lp_inl l]
theorem F47_ok (L : List Int) (v : Int) (hv : 0 ≤ v ∧ v ≤ 18446744073709551615) (hL : L.length ≤ 1000) : F47 L v 8 = some (L ++ leN 8 v) := by
  unfold F47 F85
  rw [need_true (capb_iff.2 (by omega)), Option.bind_some, List.nil_append]
  have l := putq_gen (R := List Int) (step := fun s => F47_L1 8 s.1 s.2.1 s.2.2) .u64 v hv.1 (fun x h1 h2 => wr_u64 (by omega)) L 8 (by omega) (fun _ => rfl)
  rw [lp_inl l]
/-- The bytes of a message. -/
def enc (w : TRegulateWord) : List Int := [w.Kind, w.Channel, w.To] ++ leN 8 w.At
theorem enc_ok (w : TRegulateWord) : (Wd w ∧ F11 w = some (enc w, 0) ∧ F12 w = some (enc w, 0)) ∨ (¬ Wd w ∧ F11 w = some ([], 8) ∧ F12 w = some ([], 8)) := by
  obtain ⟨v, v1, v2⟩ := F44_ok w
  obtain ⟨u, u1, u2⟩ := F46_ok w
  unfold F11 F12
  rw [v1, u1, Option.bind_some, Option.bind_some]
  by_cases h : Wd w
  · have hw := h
    unfold Wd at hw
    rw [v2.2 h, u2.2 h]
    refine .inl ⟨h, ?_, ?_⟩
    · simp only [Bool.not_true, cond_false]; rw [wr_u64 (by omega), wr_u8 (x := w.Channel) (by omega), wr_u8 (x := w.To) (by omega)]
      unfold F45
      rw [F84_ok _ _ (by omega) (by simp)]
      rfl
    · simp only [Bool.not_true, cond_false]; rw [wr_u64 (by omega), wr_u8 (x := w.Channel) (by omega), wr_u8 (x := w.To) (by omega), F47_ok _ _ (by omega) (by simp)]
      rfl
  · have hv : v = false := by cases v with | false => rfl | true => exact absurd (v2.1 rfl) h
    have hu : u = false := by cases u with | false => rfl | true => exact absurd (u2.1 rfl) h
    subst hv hu
    exact .inr ⟨h, rfl, rfl⟩
theorem part8 {D : List Int} (hl : D.length = 11) : (List.take (((wr .i64 (3 + 8)).toNat) - (3 : Int).toNat) (D.drop (3 : Int).toNat)) = D.drop 3 := by
  rw [wr_in (by omega)]
  show List.take 8 (D.drop 3) = D.drop 3
  rw [List.take_of_length_le (by simp; omega)]
theorem F48_ok (D : List Int) (hD : ∀ q ∈ D, 0 ≤ q ∧ q ≤ 255) (hl : D.length = 11) : ∃ r, F48 (TReader.mk D 3) = some (ldN (D.drop 3), r, 0) := by
  have hd : ∀ q ∈ D.drop 3, 0 ≤ q ∧ q ≤ 255 := fun q hq => hD q (List.mem_of_mem_drop hq)
  have hdl : (D.drop 3).length = 8 := by simp; omega
  unfold F48 F86 F111 F119
  simp only
  rw [bif_f (c := bLt 3 0 || _) (by simp [bLt_eq]; omega), Option.bind_some, bif_f (by simp [bEq]), bif_f (by simp [bLt_eq]), bif_f (by rw [wr_in (by omega)]; simp [bLt_eq]; omega)]
  rw [need_true (slb_iff.2 (by rw [wr_in (by omega)]; omega)), part8 hl, List.nil_append]
  rw [need_true (capb_iff.2 (by rw [wr_in (by omega)]; simp))]
  simp only [Option.bind_some]
  rw [bif_f (by simp [bEq])]
  have l := num_gen (R := Int × TReader × Int) (step := fun s => F86_L1 (D.drop 3, TReader.mk D (wr .i64 (3 + 8)), 0) s.1 s.2) (D.drop 3) hd (by omega) (fun _ => rfl)
  rw [lp_inl l]
  exact ⟨_, rfl⟩
theorem F49_ok (D : List Int) (hD : ∀ q ∈ D, 0 ≤ q ∧ q ≤ 255) (hl : D.length = 11) : ∃ r, F49 (TReader.mk D 3) 8 = some (ldN (D.drop 3), r, 0) := by
  have hd : ∀ q ∈ D.drop 3, 0 ≤ q ∧ q ≤ 255 := fun q hq => hD q (List.mem_of_mem_drop hq)
  have hdl : (D.drop 3).length = 8 := by simp; omega
  unfold F49 F87 F112 F85
  simp only [Option.bind_some]
  rw [bif_f (by simp [bLe_eq]; omega), bif_f (by simp [bLt_eq]), bif_f (by rw [wr_in (by omega)]; simp [bLt_eq]; omega)]
  rw [need_true (slb_iff.2 (by rw [wr_in (by omega)]; omega))]
  have e : deR g_u8 (((wr .i64 (3 + 8)).toNat) - (3 : Int).toNat) (enR c_u8 (D.drop (3 : Int).toNat)) = D.drop 3 := by
    rw [wr_in (by omega)]
    show deR g_u8 8 (enR c_u8 (D.drop 3)) = D.drop 3
    have := deR_enR gc_u8 (D.drop 3)
    rwa [hdl] at this
  rw [e, need_true (capb_iff.2 (by omega)), List.nil_append]
  simp only [Option.bind_some]
  rw [bif_f (by simp [bEq])]
  have e8 : wr .i64 (8 - 1) = wr .i64 (((D.drop 3).length : Nat) - 1) := by rw [hdl]; rfl
  have l := numq_gen (R := Int × TReader × Int) (step := fun s => F49_L1 (D.drop 3, TReader.mk D (wr .i64 (3 + 8)), 0) s.1 s.2) (D.drop 3) hd (by omega) (fun _ => rfl)
  rw [e8, lp_inl l]
  exact ⟨_, rfl⟩
/-- The message of bytes. -/
def msg (b : List Int) : TRegulateWord := TRegulateWord.mk (gd b 0) (gd b 1) (gd b 2) (ldN (b.drop 3))
theorem dec_ok (b : List Int) (hb : ∀ q ∈ b, 0 ≤ q ∧ q ≤ 255) (hn : b.length ≤ 1000) : ∃ r, F13 b = some r ∧ F14 b = some r ∧ (r.2 = 0 → b.length = 11 ∧ r.1 = msg b ∧ Wd (msg b)) ∧ (b.length = 11 → Wd (msg b) → r = (msg b, 0)) := by
  by_cases h1 : b.length < 11
  · refine ⟨(TRegulateWord.mk 0 0 0 0, 10), ?_, ?_, fun h => by simp at h, fun h => by omega⟩
    · have hm : minI 3 (b.length : Nat) = if b.length < 3 then (b.length : Int) else 3 := by unfold minI; split <;> split <;> omega
      unfold F13 F48 F86 F111 F119
      simp only
      rw [hm, bif_f (c := _ || _) (by split <;> simp [bLt_eq] <;> omega), Option.bind_some, bif_f (by simp [bEq]), bif_f (by simp [bLt_eq]), bif_t (c := bLt _ 8) (by split <;> (rw [wr_in (by omega)]; simp only [bLt_eq, decide_eq_true_eq]; omega))]
      rfl
    · unfold F14
      rw [bif_t (by simp [bLt_eq]; omega)]
  · by_cases h2 : 11 < b.length
    · refine ⟨(TRegulateWord.mk 0 0 0 0, 11), ?_, ?_, fun h => by simp at h, fun h => by omega⟩
      · have hm : minI 3 (b.length : Nat) = 3 := by unfold minI; split <;> omega
        unfold F13
        rw [hm]
        have hd : ∀ q ∈ (b.drop 3).take 8, 0 ≤ q ∧ q ≤ 255 := fun q hq => hb q (List.mem_of_mem_drop (List.mem_of_mem_take hq))
        have hdl : ((b.drop 3).take 8).length = 8 := by simp; omega
        have : ∃ v r, F48 (TReader.mk b 3) = some (v, r, 0) := by
          unfold F48 F86 F111 F119
          simp only
          rw [bif_f (c := bLt 3 0 || _) (by simp [bLt_eq]; omega), Option.bind_some, bif_f (by simp [bEq]), bif_f (by simp [bLt_eq]), bif_f (by rw [wr_in (by omega)]; simp [bLt_eq]; omega)]
          rw [need_true (slb_iff.2 (by rw [wr_in (by omega)]; omega)), List.nil_append]
          rw [need_true (capb_iff.2 (by rw [wr_in (by omega)]; simp)), show List.take (((wr .i64 (3 + 8)).toNat) - (3 : Int).toNat) (b.drop (3 : Int).toNat) = (b.drop 3).take 8 from by rw [wr_in (by omega)]; rfl]
          simp only [Option.bind_some]
          rw [bif_f (by simp [bEq])]
          have l := num_gen (R := Int × TReader × Int) (step := fun s => F86_L1 ((b.drop 3).take 8, TReader.mk b (wr .i64 (3 + 8)), 0) s.1 s.2) ((b.drop 3).take 8) hd (by omega) (fun _ => rfl)
          rw [lp_inl l]
          exact ⟨_, _, rfl⟩
        obtain ⟨v, r, e⟩ := this
        rw [e, Option.bind_some, bif_f (by simp [bEq]), bif_t (by simp [bLt_eq]; omega)]
      · unfold F14
        rw [bif_f (by simp [bLt_eq]; omega), bif_t (by simp [bLt_eq]; omega)]
    · have hl : b.length = 11 := by omega
      have hm : minI 3 (b.length : Nat) = 3 := by unfold minI; split <;> omega
      obtain ⟨x, x1⟩ := F48_ok b hb hl
      obtain ⟨y, y1⟩ := F49_ok b hb hl
      have hv := ldN_bd (b.drop 3) fun q hq => hb q (List.mem_of_mem_drop hq)
      rw [show (b.drop 3).length = 8 from by simp; omega] at hv
      have b1 := hb _ (gd_mem (show 1 < b.length by omega))
      have b2 := hb _ (gd_mem (show 2 < b.length by omega))
      have hv2 : ldN (b.drop 3) < 18446744073709551616 := hv.2
      have hmin : minI (ldN (b.drop 3)) 4611686018427387904 = if 4611686018427387904 < ldN (b.drop 3) then 4611686018427387904 else ldN (b.drop 3) := rfl
      unfold F13 F14
      rw [hm, x1, y1, Option.bind_some, bif_f (by simp [bEq]), bif_f (by simp [bLt_eq]; omega), bif_f (by simp [bLt_eq]; omega), bif_f (by simp [bLt_eq]; omega), Option.bind_some]
      simp only [need_true (inb_iff (q := 0) (n := b.length)|>.2 (by omega)), need_true (inb_iff (q := 1) (n := b.length)|>.2 (by omega)), need_true (inb_iff (q := 2) (n := b.length)|>.2 (by omega))]
      rw [wr_in (x := gd b 1) (by omega), wr_in (x := gd b 2) (by omega), hmin]
      by_cases hq : ldN (b.drop 3) ≤ 1099511627776
      · rw [if_neg (by omega), wr_in (x := ldN (b.drop 3)) (by omega)]
        obtain ⟨v, v1, v2⟩ := F44_ok (msg b)
        obtain ⟨u, u1, u2⟩ := F46_ok (msg b)
        have v1' : F44 (TRegulateWord.mk (gd b 0) (gd b 1) (gd b 2) (ldN (b.drop 3))) = some v := v1
        have u1' : F46 (TRegulateWord.mk (gd b 0) (gd b 1) (gd b 2) (ldN (b.drop 3))) = some u := u1
        rw [v1', u1', Option.bind_some, need_true (by simp), gt_some]
        by_cases h : Wd (msg b)
        · rw [v2.2 h, u2.2 h, bif_f (c := !true) rfl, bif_f (by simp [bLt_eq]; omega)]
          exact ⟨_, rfl, rfl, fun _ => ⟨hl, rfl, h⟩, fun _ _ => rfl⟩
        · have hv : v = false := by cases v with | false => rfl | true => exact absurd (v2.1 rfl) h
          have hu : u = false := by cases u with | false => rfl | true => exact absurd (u2.1 rfl) h
          rw [hv, hu, bif_t (c := !false) rfl, bif_t (by simp)]
          exact ⟨_, rfl, rfl, fun h => by simp at h, fun _ h' => absurd h' h⟩
      · have nw : ¬ Wd (msg b) := fun h => hq h.2.1.2
        have nw2 : ∀ a, 1099511627776 < a → ¬ Wd (TRegulateWord.mk (gd b 0) (gd b 1) (gd b 2) a) := fun a ha h => by have : a ≤ 1099511627776 := h.2.1.2; omega
        have e2 : ∀ a, 1099511627776 < a → F44 (TRegulateWord.mk (gd b 0) (gd b 1) (gd b 2) a) = some false := fun a ha => by
          obtain ⟨v, v1, v2⟩ := F44_ok (TRegulateWord.mk (gd b 0) (gd b 1) (gd b 2) a)
          rw [v1]
          cases v with
          | false => rfl
          | true => exact absurd (v2.1 rfl) (nw2 a ha)
        rw [e2 _ (by rw [wr_in (by split <;> omega)]; split <;> omega), Option.bind_some, bif_t (c := !false) rfl]
        have hlt : bLt 1099511627776 (ldN (b.drop 3)) = true := by simp [bLt_eq]; omega
        rw [hlt, need_true (b := bif !true then _ else true) rfl, bif_t (by simp)]
        exact ⟨_, rfl, rfl, fun h => by simp at h, fun _ h' => absurd h' nw⟩
theorem enc_by (w : TRegulateWord) (h : Wd w) (hk : 0 ≤ w.Kind ∧ w.Kind ≤ 255) : ∀ q ∈ enc w, 0 ≤ q ∧ q ≤ 255 := by
  intro q hq
  unfold Wd at h
  simp only [enc, List.cons_append, List.nil_append, List.mem_cons] at hq
  rcases hq with rfl | rfl | rfl | hq
  · exact hk
  · omega
  · omega
  · exact leN_by 8 _ q hq
theorem enc_msg (w : TRegulateWord) (h : Wd w) : (enc w).length = 11 ∧ msg (enc w) = w := by
  refine ⟨by simp [enc, leN_len], ?_⟩
  have e : ldN (leN 8 w.At) = w.At := ldN_leN 8 _ h.2.1.1 (by have := h.2.1.2; rw [show (256 : Int) ^ 8 = 18446744073709551616 from by decide]; omega)
  show TRegulateWord.mk w.Kind w.Channel w.To (ldN (leN 8 w.At)) = w
  rw [e]
theorem msg_enc (b : List Int) (hb : ∀ q ∈ b, 0 ≤ q ∧ q ≤ 255) (hl : b.length = 11) : enc (msg b) = b := by
  have h8 : leN 8 (ldN (b.drop 3)) = b.drop 3 := by
    have := leN_ldN (b.drop 3) fun q hq => hb q (List.mem_of_mem_drop hq)
    rwa [show (b.drop 3).length = 8 from by simp; omega] at this
  show [gd b 0, gd b 1, gd b 2] ++ leN 8 (ldN (b.drop 3)) = b
  rw [h8]
  match b, hl with
  | a0 :: a1 :: a2 :: l, _ => rfl
theorem sEq_refl (x : ByteArray) : sEq x x = true := by simp [sEq]
theorem u8ok {L : List Int} (h : ∀ q ∈ L, 0 ≤ q ∧ q ≤ 255) : u8b L.length (enR c_u8 L) = true := by rw [u8b_enR (f := c_u8) (fun _ => rfl)]; exact u8A_iff.2 h
theorem law3 (w : TRegulateWord) (b : List Int) (hk : 0 ≤ w.Kind ∧ w.Kind ≤ 255) (hb : ∀ q ∈ b, 0 ≤ q ∧ q ≤ 255) : F3 w b = some true := by
  unfold F3
  by_cases hn : b.length ≤ 100
  · rw [bif_f (by simp [bLt_eq]; omega)]
    obtain ⟨r, r1, r2, r3, r4⟩ := dec_ok b hb (by omega)
    -- the second half: what is decoded, encoded again
    have second : ∃ x, F11 r.1 = some x ∧ (r.2 = 0 → x = (b, 0)) := by
      rcases enc_ok r.1 with ⟨h, e, _⟩ | ⟨h, e, _⟩
      · refine ⟨_, e, fun h0 => ?_⟩
        obtain ⟨q1, q2, q3⟩ := r3 h0
        rw [q2, msg_enc b hb q1]
      · refine ⟨_, e, fun h0 => ?_⟩
        obtain ⟨q1, q2, q3⟩ := r3 h0
        rw [q2] at h
        exact absurd q3 h
    obtain ⟨x, x1, x2⟩ := second
    have first : ∃ y z, F11 w = some y ∧ F12 w = some y ∧ F13 y.1 = some z ∧ (y.2 = 0 → z = (w, 0)) ∧ ∀ q ∈ y.1, 0 ≤ q ∧ q ≤ 255 := by
      rcases enc_ok w with ⟨h, e1, e2⟩ | ⟨h, e1, e2⟩
      · obtain ⟨g1, g2⟩ := enc_msg w h
        obtain ⟨z, z1, _, _, z4⟩ := dec_ok (enc w) (enc_by w h hk) (by omega)
        rw [g2] at z4
        exact ⟨_, z, e1, e2, z1, fun _ => z4 g1 h, enc_by w h hk⟩
      · obtain ⟨z, z1, _⟩ := dec_ok [] (by simp) (by simp)
        exact ⟨_, z, e1, e2, z1, fun h => by simp at h, by simp⟩
    obtain ⟨y, z, y1, y2, z1, z2, yb⟩ := first
    rw [y1, y2, r1, r2]
    simp only [Option.bind_some]
    rw [z1, x1]
    simp only [Option.bind_some]
    have eqz : y.2 = 0 → bEq z.2 0 = true ∧ (bEq z.1.Kind w.Kind && (bEq z.1.Channel w.Channel && (bEq z.1.To w.To && (bEq z.1.At w.At)))) = true := fun h => by rw [z2 h]; simp [bEq]
    have c1 : ((bEq y.2 0) && ((!bEq z.2 0) || (!(bEq z.1.Kind w.Kind && (bEq z.1.Channel w.Channel && (bEq z.1.To w.To && (bEq z.1.At w.At))))))) = false := by
      by_cases h : y.2 = 0
      · obtain ⟨q1, q2⟩ := eqz h
        rw [q1, q2]; simp
      · simp [bEq, h]
    have c2 : ((bEq r.2 0) && ((!bEq x.2 0) || (!sEq (bytesC x.1.length (enR c_u8 x.1)) (bytesC b.length (enR c_u8 b))))) = false := by
      by_cases h : r.2 = 0
      · rw [x2 h]; simp [bEq, sEq_refl]
      · simp [bEq, h]
    rw [c1, c2, u8ok hb, u8ok yb]
    have hx : (bif ((!false && (bEq r.2 0)) && (!(!bEq x.2 0))) then u8b x.1.length (enR c_u8 x.1) else true) = true := by
      by_cases h : r.2 = 0
      · rw [x2 h]; simp [bEq, u8ok hb]
      · simp [bEq, h]
    rw [hx]
    simp only [need_true, Bool.cond_self, Bool.or_self, cond_false, sEq_refl, bEq_eq, decide_true, Bool.and_self]
  · rw [bif_t (by simp [bLt_eq]; omega)]
end Go.Proofs.Ytjhkehdbjnhplaa
