/-
  Regulate: stopping and radar of the reference; the law of steps.
-/
import Derived.Test.YtjhkehdbjnhplaaQ7H
namespace Go.Proofs.Ytjhkehdbjnhplaa
open Go.Am
set_option linter.unusedVariables false
set_option linter.unusedSimpArgs false
theorem F110_ok (l : List Int) (n : Int) (hl : l.length <= 1000) : F110 l n = some (l.filter (fun q => !bEq q n)) := by
  have l1 := run_gen (step := fun s => F110_L1 l n s.1 s.2) l.length (fun i => ((l.take i).filter (fun q => !bEq q n), (i : Int))) (l.filter (fun q => !bEq q n)) (fun i hi => by
      show F110_L1 l n _ i = _
      unfold F110_L1
      have hle : ((l.take i).filter (fun q => !bEq q n)).length <= l.length := Nat.le_trans (List.length_filter_le ..) (by rw [List.length_take]; omega)
      rw [bif_t (c := bLt _ _) (by simp [bLt_eq]; omega), inb_nat hi, Int.toNat_natCast, wr_add1 hi (by omega), take_fil _ l hi]
      generalize ((l.take i).filter (fun q => !bEq q n)) = z at hle
      have hq : capb 8 (z.length + 1) = true := capb_iff.2 (by omega)
      simp only [need_true]
      rw [hq]
      cases (!bEq (gd l i) n) <;> rfl)
    (by
      show F110_L1 l n _ _ = _
      unfold F110_L1
      rw [bif_f (by simp [bLt_eq]), List.take_length])
  have l2 : loopD (fun s => F110_L1 l n s.1 s.2) ([], 0) = some (.inl (l.filter (fun q => !bEq q n))) := l1
  unfold F110
  rw [lp_inl l2]
def lo (l : List TRegulateBlock) (n : Int) : List TRegulateBlock := l.filter (fun q => bLt q.Channel n)
def hi (l : List TRegulateBlock) (n : Int) : List TRegulateBlock := l.filter (fun q => bLt n q.Channel)
def pt (l : List TRegulateBlock) (n : Int) : Bool := l.any (fun q => bLe n q.Channel)
def ac (l : List TRegulateBlock) (n u : Int) : List TRegulateBlock := bif pt l n then lo l n ++ ⟨n, u⟩ :: hi l n else l
theorem pt_snoc (l : List TRegulateBlock) (x : TRegulateBlock) (n : Int) : pt (l ++ [x]) n = (pt l n || bLe n x.Channel) := by simp [pt]
theorem pt_no {l : List TRegulateBlock} {n : Int} (h : pt l n = false) : lo l n = l /\ hi l n = [] := by
  unfold pt at h
  rw [List.any_eq_false] at h
  constructor
  · unfold lo; rw [List.filter_eq_self]; intro q hq; have := h q hq; simp [bLe_eq] at this; simp [bLt_eq]; omega
  · unfold hi; rw [List.filter_eq_nil_iff]; intro q hq; have := h q hq; simp [bLe_eq] at this; simp [bLt_eq]; omega
theorem ac_len (l : List TRegulateBlock) (n u : Int) : (ac l n u).length <= l.length + l.length + 1 := by
  unfold ac
  cases pt l n with
  | false => simp only [cond_false]; omega
  | true =>
    have h1 := List.length_filter_le (fun q : TRegulateBlock => bLt q.Channel n) l
    have h2 := List.length_filter_le (fun q : TRegulateBlock => bLt n q.Channel) l
    simp only [cond_true, lo, hi, List.length_append, List.length_cons]; omega
theorem ac_step (l : List TRegulateBlock) (x : TRegulateBlock) (n u : Int) (hs : ∀ q ∈ l, q.Channel < x.Channel) :
    ac (l ++ [x]) n u = bif (!pt l n && bLe n x.Channel) then (bif !bEq x.Channel n then (ac l n u ++ [⟨n, u⟩]) ++ [x] else ac l n u ++ [⟨n, u⟩]) else (bif !bEq x.Channel n then ac l n u ++ [x] else ac l n u) := by
  unfold ac
  rw [pt_snoc]
  cases hp : pt l n with
  | false =>
    obtain ⟨e1, e2⟩ := pt_no hp
    simp only [Bool.false_or, Bool.not_false, Bool.true_and, cond_false]
    cases hx : bLe n x.Channel with
    | false =>
      simp only [cond_false]
      rw [bif_t (by simp [bEq_eq]; simp [bLe_eq] at hx; omega)]
    | true =>
      simp [bLe_eq] at hx
      simp only [cond_true]
      rw [show lo (l ++ [x]) n = l from by
        unfold lo at e1 ⊢; rw [List.filter_append, e1]; simp [bLt_eq]; omega]
      rw [show hi (l ++ [x]) n = bif !bEq x.Channel n then [x] else [] from by
        unfold hi at e2 ⊢; rw [List.filter_append, e2, List.nil_append]
        by_cases h : x.Channel = n
        · rw [bif_f (by simp [bEq_eq, h])]; simp [bLt_eq, h]
        · rw [bif_t (by simp [bEq_eq, h])]; simp [bLt_eq]; omega]
      cases (!bEq x.Channel n) <;> simp
  | true =>
    have hx : n < x.Channel := by
      unfold pt at hp
      rw [List.any_eq_true] at hp
      obtain ⟨q, q1, q2⟩ := hp
      have := hs q q1
      simp [bLe_eq] at q2
      omega
    simp only [Bool.true_or, Bool.not_true, Bool.false_and, cond_true, cond_false]
    rw [bif_t (by simp [bEq_eq]; omega)]
    rw [show lo (l ++ [x]) n = lo l n from by unfold lo; rw [List.filter_append]; simp [bLt_eq]; omega, show hi (l ++ [x]) n = hi l n ++ [x] from by unfold hi; rw [List.filter_append]; simp [bLt_eq, hx]]
    simp
theorem F72_put (l : List TRegulateBlock) (n u : Int) (hl : l.length <= 1000) (rb : Rb l) (hu : 0 <= u) : F72 l n u = some (lo l n ++ ⟨n, u⟩ :: hi l n) := by
  have l1 := run_gen (step := fun s => F72_L1 l n u s.1 s.2.1 s.2.2) l.length (fun i => (ac (l.take i) n u, pt (l.take i) n, (i : Int))) (ac l n u, pt l n) (fun i hi => by
      show F72_L1 l n u _ _ i = _
      unfold F72_L1
      have hle := ac_len (l.take i) n u
      have htl : (l.take i).length <= i := by rw [List.length_take]; omega
      have hs : ∀ q ∈ l.take i, q.Channel < (gd l i).Channel := fun q hq => by
        obtain ⟨j, hj, rfl⟩ := List.mem_iff_getElem.1 hq
        rw [List.length_take] at hj
        have hji : j < i := by omega
        have hjl : j < l.length := by omega
        rw [List.getElem_take, gd_at hjl]
        exact srt_gd (fun q : TRegulateBlock => q.Channel) rb hji hi
      rw [bif_t (c := bLt _ _) (by simp [bLt_eq]; omega), inb_nat hi, Int.toNat_natCast, wr_add1 hi (by omega), take_snoc hi, ac_step _ _ n u hs, pt_snoc]
      generalize ac (l.take i) n u = z at hle
      have hq : capb 16 (z.length + 1) = true := capb_iff.2 (by omega)
      have hq2 : capb 16 (z.length + 1 + 1) = true := capb_iff.2 (by omega)
      simp only [Bool.cond_self, need_true]
      rw [hq, hq2]
      cases pt (l.take i) n <;> cases bLe n (gd l i).Channel <;> cases (!bEq (gd l i).Channel n) <;> rfl)
    (by
      show F72_L1 l n u _ _ _ = _
      unfold F72_L1
      rw [bif_f (by simp [bLt_eq]), List.take_length])
  have l2 : loopD (fun s => F72_L1 l n u s.1 s.2.1 s.2.2) ([], (bLt u 0), 0) = some (.inl (ac l n u, pt l n)) := by
    have e0 : (ac (l.take 0) n u, pt (l.take 0) n, ((0 : Nat) : Int)) = (([] : List TRegulateBlock), bLt u 0, (0 : Int)) := by
      rw [show bLt u 0 = false from by simp [bLt_eq]; omega]; rfl
    rw [← e0]
    exact l1
  have e1 : pt l n = false -> lo l n ++ ⟨n, u⟩ :: hi l n = ac l n u ++ [⟨n, u⟩] := fun hp => by
    obtain ⟨e1, e2⟩ := pt_no hp
    rw [e1, e2]
    unfold ac; rw [hp, cond_false]
  have e2 : pt l n = true -> lo l n ++ ⟨n, u⟩ :: hi l n = ac l n u := fun hp => by unfold ac; rw [hp, cond_true]
  have hle := ac_len l n u
  have hq : capb 16 ((ac l n u).length + 1) = true := capb_iff.2 (by omega)
  unfold F72
  rw [lp_inl l2]
  generalize ac l n u = z at e1 e2 hq
  cases hp : pt l n with
  | false => rw [e1 hp, bif_t (by rw [Bool.not_false]), need_true hq]
  | true => rw [e2 hp, bif_f (by rw [Bool.not_true])]
theorem stB_lo (s : TRegulate) (t : Int) (rb : Rb s.Blocked) : stB s t = lo s.Blocked s.Channel ++ ⟨s.Channel, unt t 1800000000⟩ :: hi s.Blocked s.Channel := by
  obtain ⟨A, B, e, hA, hB, h⟩ := stB_is s t rb
  have a1 : A.filter (fun q => bLt q.Channel s.Channel) = A := List.filter_eq_self.2 fun q hq => by simpa [bLt_eq] using hA q hq
  have a2 : A.filter (fun q => bLt s.Channel q.Channel) = [] := List.filter_eq_nil_iff.2 fun q hq => by have := hA q hq; simp [bLt_eq]; omega
  have b1 : B.filter (fun q => bLt q.Channel s.Channel) = [] := List.filter_eq_nil_iff.2 fun q hq => by have := hB q hq; simp [bLt_eq]; omega
  have b2 : B.filter (fun q => bLt s.Channel q.Channel) = B := List.filter_eq_self.2 fun q hq => by simpa [bLt_eq] using hB q hq
  rw [e]
  unfold lo hi
  rcases h with h | ⟨b, hb, h⟩
  · rw [h, List.filter_append, List.filter_append, a1, a2, b1, b2]; simp
  · rw [h, List.filter_append, List.filter_append, List.filter_cons, List.filter_cons, a1, a2, b1, b2]; simp [bLt_eq, hb]
theorem unt_in {t : Int} (h : Mo t) : 0 <= unt t 1800000000 := by
  unfold Mo at h; unfold unt minI; split <;> omega
theorem F80_ok (s : TRegulate) (t : Int) (hg : Gr s) (rb : Rb s.Blocked) (ht : Mo t) : F80 s t = some (stp s t) := by
  unfold F80 stp
  rw [F24_ok s hg, Option.bind_some, F110_ok _ _ hg.2.2, Option.bind_some, wr_unt ht (by decide), F72_put _ _ _ hg.2.1 rb (unt_in ht), Option.bind_some, stB_lo s t rb]
  rfl
theorem Gr_stp (s : TRegulate) (t : Int) (hg : Gr0 s) (rb : Rb s.Blocked) : Gr (stp s t) := by
  obtain ⟨g1, g2, g3⟩ := hg
  have h1 := stB_len s t rb
  have h2 : (stC s).length <= s.Clear.length := List.length_filter_le ..
  exact ⟨by show s.Table.length <= 1000; omega, by show (stB s t).length <= 1000; omega, by show (stC s).length <= 1000; omega⟩
theorem F78_ok (s : TRegulate) (p t : Int) (hg : Gr0 s) (rt : Rc s.Table) (rb : Rb s.Blocked) (hp : 0 <= p) (ht : Mo t) : F78 s p t = some ((rad s p t).2, (rad s p t).1) := by
  unfold F78 rad
  rw [F80_ok s t (Gr_of hg) rb ht, Option.bind_some]
  simp only [eta_TRegulate]
  cases hL : s.Lead with
  | false => rfl
  | true =>
    simp only [Bool.not_true, cond_false]
    have e65 : F65 (stp s t) t = some (usL s.Table s.Channel (stB s t) (stC s) t) := F65_ok (stp s t) t (Gr_stp s t hg rb) (Rb_stB s t rb)
    rw [e65, Option.bind_some]
    generalize usL s.Table s.Channel (stB s t) (stC s) t = u
    by_cases hu : u.length = 0
    · rw [bif_t (c := bEq _ _) (by simp [bEq_eq, hu]), bif_t (c := bEq _ _) (by simp [bEq_eq, hu])]
    · obtain ⟨k, k1, k2⟩ := md_in hp hu
      rw [bif_f (c := bEq _ _) (by simp [bEq_eq]; intro h; exact hu (by simp [h])), bif_f (c := bEq _ _) (by simp [bEq_eq]; intro h; exact hu (by simp [h])), need_true (by simp [bEq_eq]; intro h; exact hu (by simp [h])), k2, need_true (inb_nat k1), wr_unt ht (by decide)]
      unfold F81
      rw [Option.bind_some]
      simp only [stp, hL]
theorem Gr_rad (s : TRegulate) (p t : Int) (hg : Gr0 s) (rb : Rb s.Blocked) : Gr (rad s p t).2 /\ (rad s p t).1.length <= 1 := by
  have h1 := Gr_stp s t hg rb
  unfold rad
  cases s.Lead with
  | false => exact ⟨h1, Nat.le_refl 1⟩
  | true =>
    simp only [Bool.not_true, cond_false]
    cases bEq ((usL s.Table s.Channel (stB s t) (stC s) t).length : Nat) 0 with
    | true => exact ⟨h1, Nat.zero_le 1⟩
    | false => exact ⟨⟨h1.1, h1.2.1, h1.2.2⟩, Nat.le_refl 1⟩
def Z : TRegulate := ⟨[], 0, false, 0, false, false, 0, 0, [], []⟩
theorem Gr_Z : Gr Z := ⟨by decide, by decide, by decide⟩
theorem rdr_ok (s : TRegulate) (p t : Int) (hg : Gr0 s) : ∃ x, F22 s p t = some x /\ F35 s p t = some x /\ Gr x.1 /\ x.2.1.length <= 1 := by
  have hG := Gr_of hg
  unfold F35
  rcases F22_ok s p t hg with ⟨h, e⟩ | ⟨h, h2, e⟩ | ⟨h, h2, hp, hS, e⟩ | ⟨h, h2, hp, hS, e⟩
  · refine ⟨_, e, ?_, Gr_Z, Nat.zero_le _⟩
    rcases F64_ok s t p hG with ⟨_, e2⟩ | ⟨q, _⟩ | ⟨q, _⟩
    · rw [e2]; rfl
    · exact absurd q h
    · exact absurd q h
  · refine ⟨_, e, ?_, Gr_Z, Nat.zero_le _⟩
    rcases F64_ok s t p hG with ⟨q, _⟩ | ⟨_, _, e2⟩ | ⟨_, q1, q2, _⟩
    · exact absurd h q
    · rw [e2]; rfl
    · exact absurd ⟨q1, q2⟩ h2
  · refine ⟨_, e, ?_, Gr_Z, Nat.zero_le _⟩
    rcases F64_ok s t p hG with ⟨q, _⟩ | ⟨_, q, _⟩ | ⟨_, _, _, e2⟩
    · exact absurd h q
    · exact absurd ⟨h2, hp⟩ q
    · rw [e2, Option.bind_some, hS]; rfl
  · have rt := h.1.2.2
    have rb : Rb s.Blocked := h.2.2.2.2.2.2.2.1
    refine ⟨_, e, ?_, (Gr_rad s p t hg rb).1, (Gr_rad s p t hg rb).2⟩
    rcases F64_ok s t p hG with ⟨q, _⟩ | ⟨_, q, _⟩ | ⟨_, _, _, e2⟩
    · exact absurd h q
    · exact absurd ⟨h2, hp⟩ q
    · rw [e2, Option.bind_some, hS, F78_ok s p t hg rt rb hp h2, Option.bind_some]; rfl
def Wd (w : TRegulateWord) : Prop := (1 <= w.Channel /\ w.Channel <= 255) /\ Mo w.At /\ ((w.Kind = 1 /\ 1 <= w.To /\ w.To <= 255) ∨ (w.Kind = 2 /\ w.To = 0 /\ w.At = 0) ∨ (w.Kind = 3 /\ w.To = 0))
theorem F44_ok (w : TRegulateWord) : ∃ b, F44 w = some b /\ (b = true ↔ Wd w) := by
  unfold F44 F83 Wd Mo
  by_cases h1 : w.Kind = 1
  · rw [bif_t (by simp [bEq_eq, h1])]
    refine ⟨_, by simp only [Option.bind_some, Option.isSome_some, Bool.cond_self, need_true, gt_some]; rfl, ?_⟩
    simp [bLe_eq, h1]; omega
  · rw [bif_f (by simp [bEq_eq, h1])]
    by_cases h2 : w.Kind = 2
    · rw [bif_t (by simp [bEq_eq, h2])]
      refine ⟨_, by simp only [Option.bind_some, Option.isSome_some, Bool.cond_self, need_true, gt_some]; rfl, ?_⟩
      simp [bLe_eq, h2]; omega
    · rw [bif_f (by simp [bEq_eq, h2])]
      by_cases h3 : w.Kind = 3
      · rw [bif_t (by simp [bEq_eq, h3])]
        refine ⟨_, by simp only [Option.bind_some, Option.isSome_some, Bool.cond_self, need_true, gt_some]; rfl, ?_⟩
        simp [bLe_eq, h3]; omega
      · rw [bif_f (by simp [bEq_eq, h3])]
        exact ⟨_, rfl, by simp [h1, h2, h3]⟩
theorem F46_ok (w : TRegulateWord) : ∃ b, F46 w = some b /\ (b = true ↔ Wd w) := by
  unfold F46 F63 Wd Mo
  simp only [Option.isSome_some, Bool.cond_self, need_true, gt_some]
  by_cases hc : (1 <= w.Channel /\ w.Channel <= 255) /\ 0 <= w.At /\ w.At <= 1099511627776
  · rw [bif_f (c := _ || _) (by simp [bLt_eq, bLe_eq]; omega)]
    by_cases h1 : w.Kind = 1
    · rw [bif_t (by simp [bEq_eq, h1])]
      refine ⟨_, rfl, ?_⟩
      simp [bLe_eq, h1]; omega
    · rw [bif_f (by simp [bEq_eq, h1])]
      by_cases h2 : w.Kind = 2
      · rw [bif_t (by simp [bEq_eq, h2])]
        refine ⟨_, rfl, ?_⟩
        simp [bEq_eq, h2]; omega
      · rw [bif_f (by simp [bEq_eq, h2])]
        by_cases h3 : w.Kind = 3
        · rw [bif_t (by simp [bEq_eq, h3])]
          refine ⟨_, rfl, ?_⟩
          simp [bEq_eq, h3]; omega
        · rw [bif_f (by simp [bEq_eq, h3])]
          exact ⟨_, rfl, by simp [h1, h2, h3]⟩
  · rw [bif_t (c := _ || _) (by simp [bLt_eq, bLe_eq]; omega)]
    exact ⟨_, rfl, by constructor
                      · intro h; cases h
                      · rintro ⟨h1, h2, _⟩; exact absurd ⟨h1, h2⟩ hc⟩
theorem han_ok (s : TRegulate) (w : TRegulateWord) (p t : Int) (hg : Gr0 s) : ∃ x, F36 s w p t = some x /\ F37 s w p t = some x /\ Gr x.1 /\ x.2.1.length <= 1 := by
  have hG := Gr_of hg
  unfold F36 F37
  rcases F50_ok s t p hG with ⟨h, e⟩ | ⟨h, h2, e⟩ | ⟨h, h2, hp, e⟩
  · rcases F64_ok s t p hG with ⟨_, e2⟩ | ⟨q, _⟩ | ⟨q, _⟩
    · rw [e, e2]; exact ⟨_, rfl, rfl, Gr_Z, Nat.zero_le _⟩
    · exact absurd q h
    · exact absurd q h
  · rcases F64_ok s t p hG with ⟨q, _⟩ | ⟨_, _, e2⟩ | ⟨_, q1, q2, _⟩
    · exact absurd h q
    · rw [e, e2]; exact ⟨_, rfl, rfl, Gr_Z, Nat.zero_le _⟩
    · exact absurd ⟨q1, q2⟩ h2
  · rcases F64_ok s t p hG with ⟨q, _⟩ | ⟨_, q, _⟩ | ⟨_, _, _, e2⟩
    · exact absurd h q
    · exact absurd ⟨h2, hp⟩ q
    · have rt := h.1.2.2
      have rb : Rb s.Blocked := h.2.2.2.2.2.2.2.1
      obtain ⟨b, b1, b2⟩ := F44_ok w
      obtain ⟨c, c1, c2⟩ := F46_ok w
      have hbc : c = b := by rw [Bool.eq_iff_iff, b2, c2]
      subst hbc
      rw [e, e2, b1, c1]
      simp only [Option.bind_some, Option.isSome_some, Bool.cond_self, need_true, gt_some, cond_true, eta_TRegulate]
      rw [bif_f (c := !bEq (0 : Int) 0) (by decide), bif_f (c := !bEq (0 : Int) 0) (by decide), show bEq (0 : Int) 0 = true from by decide]
      cases c with
      | false => exact ⟨_, rfl, rfl, Gr_Z, Nat.zero_le _⟩
      | true =>
        have hw := b2.1 rfl
        rw [bif_f (c := !true) (by rfl), bif_f (c := true && !true) (by rfl)]
        by_cases h1 : w.Kind = 1
        · have k1 : bEq w.Kind 1 = true := by simp [bEq_eq, h1]
          simp only [k1, cond_true]
          unfold F104_0
          simp only [Option.isSome_some, Bool.cond_self, need_true, gt_some]
          have hc : (!bEq w.Channel s.Channel || s.Lead || bLt w.At t) = (!bEq w.Channel s.Channel || !(!s.Lead && bLe t w.At)) := by
            rw [show bLt w.At t = !bLe t w.At from by rw [Bool.eq_iff_iff]; simp [bLt_eq, bLe_eq]]
            cases bEq w.Channel s.Channel <;> cases s.Lead <;> cases bLe t w.At <;> rfl
          rw [hc]
          cases (!bEq w.Channel s.Channel || !(!s.Lead && bLe t w.At)) with
          | true => exact ⟨_, rfl, rfl, Gr_Z, Nat.zero_le _⟩
          | false =>
            simp only [cond_false]
            unfold F105_0
            obtain ⟨d, d1, d2⟩ := F61_ok s.Table w.To (by have := hG.1; omega) rt
            obtain ⟨g, f, f1, f2, f3⟩ := F18_is s w.To hG.1
            have hdf : f = d := by rw [Bool.eq_iff_iff, d2, f2]; rfl
            subst hdf
            simp only [eta_TRegulate]
            rw [d1, f1, Option.bind_some, Option.bind_some]
            cases f with
            | false => exact ⟨_, rfl, rfl, Gr_Z, Nat.zero_le _⟩
            | true =>
              simp only [Bool.not_true, cond_false]
              rw [F92_ok s t hG rb h2, F80_ok s t hG rb h2, Option.bind_some, Option.bind_some]
              exact ⟨_, rfl, rfl, Gr_stp s t hg rb, Nat.zero_le _⟩
        · have k1 : bEq w.Kind 1 = false := by simp [bEq_eq, h1]
          simp only [k1, cond_false]
          by_cases h3 : w.Kind = 2
          · have k2 : bEq w.Kind 2 = true := by simp [bEq_eq, h3]
            simp only [k2, cond_true]
            unfold F106_0
            simp only [Option.isSome_some, Bool.cond_self, need_true, gt_some]
            have hc : (!bEq w.Channel s.Channel || !s.Lead || s.Stopped) = (!bEq w.Channel s.Channel || !(s.Lead && !s.Stopped)) := by
              cases bEq w.Channel s.Channel <;> cases s.Lead <;> cases s.Stopped <;> rfl
            rw [hc]
            cases (!bEq w.Channel s.Channel || !(s.Lead && !s.Stopped)) with
            | true => exact ⟨_, rfl, rfl, Gr_Z, Nat.zero_le _⟩
            | false =>
              simp only [cond_false]
              unfold F107_0
              simp only [eta_TRegulate]
              rw [F54_ok s p t hg rt rb hp h2, F78_ok s p t hg rt rb hp h2, Option.bind_some, Option.bind_some]
              exact ⟨_, rfl, rfl, (Gr_rad s p t hg rb).1, (Gr_rad s p t hg rb).2⟩
          · have k2 : bEq w.Kind 2 = false := by simp [bEq_eq, h3]
            have h4 : w.Kind = 3 := by
              rcases hw.2.2 with q | q | q
              · exact absurd q.1 h1
              · exact absurd q.1 h3
              · exact q.1
            have k3 : bEq w.Kind 3 = true := by simp [bEq_eq, h4]
            simp only [k2, k3, cond_false, cond_true]
            unfold F108_0
            simp only [Option.isSome_some, Bool.cond_self, need_true, gt_some]
            have hc : (!bEq w.Channel s.Channel || s.Lead || s.Stopped || bLt w.At s.Heard || bLt t w.At) = (!bEq w.Channel s.Channel || !(!s.Lead && !s.Stopped && bLe s.Heard w.At && bLe w.At t)) := by
              rw [show bLt w.At s.Heard = !bLe s.Heard w.At from by rw [Bool.eq_iff_iff]; simp [bLt_eq, bLe_eq], show bLt t w.At = !bLe w.At t from by rw [Bool.eq_iff_iff]; simp [bLt_eq, bLe_eq]]
              cases bEq w.Channel s.Channel <;> cases s.Lead <;> cases s.Stopped <;> cases bLe s.Heard w.At <;> cases bLe w.At t <;> rfl
            rw [hc]
            cases (!bEq w.Channel s.Channel || !(!s.Lead && !s.Stopped && bLe s.Heard w.At && bLe w.At t)) with
            | true => exact ⟨_, rfl, rfl, Gr_Z, Nat.zero_le _⟩
            | false =>
              simp only [cond_false]
              unfold F109_0
              rw [F24_ok s hG, Option.bind_some, Option.bind_some]
              exact ⟨_, rfl, rfl, hG, Nat.zero_le _⟩
theorem F38_L (s : TRegulate) (t : Int) (hg : Gr s) : loopD (fun e => F38_L1 s t e.1 e.2) (0, []) = some (.inl (tkB s t)) := by
  have l1 := run_gen (step := fun e => F38_L1 s t e.1 e.2) s.Blocked.length (fun i => ((i : Int), (s.Blocked.take i).filter (fun q => !bLe q.Until t))) (tkB s t) (fun i hi => by
      show F38_L1 s t i _ = _
      unfold F38_L1
      have hle : ((s.Blocked.take i).filter (fun q => !bLe q.Until t)).length <= s.Blocked.length := Nat.le_trans (List.length_filter_le ..) (by rw [List.length_take]; omega)
      have hb := hg.2.1
      rw [bif_t (c := bLt _ _) (by simp [bLt_eq]; omega), inb_nat hi, Int.toNat_natCast, wr_add1 hi (by omega), take_fil _ s.Blocked hi]
      generalize ((s.Blocked.take i).filter (fun q => !bLe q.Until t)) = z at hle
      have hq : capb 16 (z.length + 1) = true := capb_iff.2 (by omega)
      simp only [need_true]
      rw [hq, show bLt t (gd s.Blocked i).Until = !bLe (gd s.Blocked i).Until t from by rw [Bool.eq_iff_iff]; simp [bLt_eq, bLe_eq]]
      cases (!bLe (gd s.Blocked i).Until t) <;> rfl)
    (by
      show F38_L1 s t _ _ = _
      unfold F38_L1
      rw [bif_f (by simp [bLt_eq]), List.take_length]; rfl)
  exact l1
theorem tik_ok (s : TRegulate) (t : Int) (hg : Gr s) : ∃ x, F23 s t = some x /\ F38 s t = some x /\ Gr x.1 /\ x.2.1.length <= 1 := by
  unfold F38
  rcases F23_ok s t hg with ⟨h, e⟩ | ⟨h, h2, e⟩ | ⟨h, h2, e⟩
  · refine ⟨_, e, ?_, Gr_Z, Nat.zero_le _⟩
    rcases F64_ok s t 0 hg with ⟨_, e2⟩ | ⟨q, _⟩ | ⟨q, _⟩
    · rw [e2]; rfl
    · exact absurd q h
    · exact absurd q h
  · refine ⟨_, e, ?_, Gr_Z, Nat.zero_le _⟩
    rcases F64_ok s t 0 hg with ⟨q, _⟩ | ⟨_, _, e2⟩ | ⟨_, q1, q2, _⟩
    · exact absurd h q
    · rw [e2]; rfl
    · exact absurd q1 h2
  · have hB : (tkB s t).length <= 1000 := Nat.le_trans (List.length_filter_le ..) hg.2.1
    obtain ⟨y1, y2, y3⟩ := tik_tab s t
    refine ⟨_, e, ?_, ⟨by show (tik s t).Table.length <= 1000; rw [y1]; exact hg.1, by show (tik s t).Blocked.length <= 1000; rw [y2]; exact hB, by show (tik s t).Clear.length <= 1000; rw [y3]; exact hg.2.2⟩, ?_⟩
    · rcases F64_ok s t 0 hg with ⟨q, _⟩ | ⟨_, q, _⟩ | ⟨_, _, _, e2⟩
      · exact absurd h q
      · exact absurd ⟨h2, by decide⟩ q
      · rw [e2, Option.bind_some, bif_f (by decide), F24_ok s hg, Option.bind_some, lp_inl (F38_L s t hg)]
        have hl := h.2.2.2.2.1
        unfold tik tiw F81
        cases hM : s.Moving <;> cases hA : bLe s.At t <;> cases hL : s.Lead <;> simp only [Bool.and_true, Bool.true_and, Bool.and_false, Bool.false_and, cond_true, cond_false, Option.bind_some, Bool.not_true, Bool.not_false, hL, hl]
    · unfold tiw; cases (s.Moving && bLe s.At t) <;> cases (s.Moving && s.Lead) <;> simp
theorem F39_refl (a : List TRegulateWord) (hl : a.length <= 1000) : F39 a a = some true := by
  have l1 := run_gen (step := fun i => F39_L1 a a i) a.length (fun i => (i : Int)) () (fun i hi => by
      show F39_L1 a a i = _
      unfold F39_L1
      rw [bif_t (c := bLt _ _) (by simp [bLt_eq]; omega), need_true (inb_nat hi), need_true (inb_nat hi), Int.toNat_natCast, wr_add1 hi (by omega), bif_f (by simp [bEq_eq])])
    (by show F39_L1 a a _ = _; unfold F39_L1; rw [bif_f (by simp [bLt_eq])])
  have l1' : loopD (fun i => F39_L1 a a i) 0 = some (.inl ()) := l1
  unfold F39
  rw [bif_f (by simp [bEq_eq]), lp_inl l1']
theorem law7 (s : TRegulate) (w : TRegulateWord) (p t : Int) : F7 s w p t = some true := by
  unfold F7
  rcases F16_ok s with ⟨hg0, e⟩ | ⟨hg, e⟩
  · have hg := Gr_of hg0
    obtain ⟨x, x1, x2, x3, x4⟩ := rdr_ok s p t hg0
    obtain ⟨y, y1, y2, y3, y4⟩ := han_ok s w p t hg0
    obtain ⟨z, z1, z2, z3, z4⟩ := tik_ok s t hg
    have rx := F31_refl x.1 x3
    have ry := F31_refl y.1 y3
    have rz := F31_refl z.1 z3
    have rs := F31_refl s hg
    have wx := F39_refl x.2.1 (by omega)
    have wy := F39_refl y.2.1 (by omega)
    have wz := F39_refl z.2.1 (by omega)
    have l1 := set_gen (step := fun e => F7_L1 e.1 e.2) (fun q : TRegulateBlock => ⟨q.Channel, -1⟩) z.1.Blocked (by have := z3.2.1; omega) (fun s => rfl)
    have l2 := set_gen (step := fun e => F7_L2 e.1 e.2) (fun q : TRegulateBlock => ⟨q.Channel, -1⟩) x.1.Blocked (by have := x3.2.1; omega) (fun s => rfl)
    simp only [eta_TRegulate]
    rw [e, Option.bind_some, bif_f (by rfl), F24_ok s hg, Option.bind_some]
    rw [x1, Option.bind_some, x2, Option.bind_some, y1, Option.bind_some, y2, Option.bind_some, z1, Option.bind_some, z2, Option.bind_some, rx, ry, rz, rs, wx, wy, wz]
    simp only [Option.bind_some, Option.isSome_some, Bool.cond_self, need_true, gt_some]
    rw [lp_inl l1, lp_inl l2]
    simp [bEq_eq]
  · rw [e]; rfl
end Go.Proofs.Ytjhkehdbjnhplaa
