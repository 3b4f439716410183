/-
  AddressSets: union, meet, equality; the law.
-/
import Derived.Test.YtohkhcljklndpaaSB
namespace Go.Proofs.Ytohkhcljklndpaa
open Go.Am
set_option linter.unusedVariables false
set_option linter.unusedSimpArgs false
def uL (s l : List A6u8) : List A6u8 := l.foldl (fun s a => wl (fun q => nA q - nA a) a s) s
theorem uL_ok : ∀ (l s : List A6u8), Sr s → AbL s → AbL l → Sr (uL s l) ∧ AbL (uL s l) ∧ (∀ x, x ∈ uL s l ↔ x ∈ s ∨ x ∈ l) ∧ (uL s l).length ≤ s.length + l.length
  | [], s, h, b, _ => ⟨h, b, fun x => by simp [uL], Nat.le_refl _⟩
  | a :: l, s, h, b, bl => by
    have ha := bl a (List.mem_cons_self ..)
    obtain ⟨w1, w2⟩ := wl_ok s a h b ha
    have w3 := wl_len1 s a h
    obtain ⟨u1, u2, u3, u4⟩ := uL_ok l (wl (fun q => nA q - nA a) a s) w1 (fun q hq => ((w2 q).1 hq).elim (fun e => by rw [e]; exact ha) (b q)) (fun q hq => bl q (List.mem_cons_of_mem _ hq))
    refine ⟨u1, u2, fun x => ?_, ?_⟩
    · have := u3 x
      rw [w2] at this
      show x ∈ uL (wl (fun q => nA q - nA a) a s) l ↔ _
      rw [this, List.mem_cons]
      constructor
      · rintro ((h | h) | h)
        · exact .inr (.inl h)
        · exact .inl h
        · exact .inr (.inr h)
      · rintro (h | h | h)
        · exact .inl (.inr h)
        · exact .inl (.inl h)
        · exact .inr h
    · show (uL (wl (fun q => nA q - nA a) a s) l).length ≤ _
      rw [List.length_cons]; omega
theorem uL_snoc (s l : List A6u8) {i : Nat} (h : i < l.length) : uL s (l.take (i + 1)) = wl (fun q => nA q - nA (gd l i)) (gd l i) (uL s (l.take i)) := by
  unfold uL; rw [fold_snoc _ _ _ h]
theorem take_len_le (l : List A6u8) (i : Nat) : (l.take i).length ≤ l.length := by rw [List.length_take]; omega
theorem F11_loop (p0 p1 : List A6u8) (h : Sr p0) (b0 : AbL p0) (b1 : AbL p1) (l0 : p0.length ≤ 300) (l1 : p1.length ≤ 300) : loopD (fun s => F11_L1 p1 s.1 s.2) (p0, 0) = some (.inl (uL p0 p1)) := by
  have := run_gen (step := fun s : List A6u8 × Int => F11_L1 p1 s.1 s.2) (E := List A6u8) (R := List A6u8 × Int) p1.length (fun i => (uL p0 (p1.take i), (i : Int))) (uL p0 p1)
    (fun i hi => by
      obtain ⟨u1, u2, _, u4⟩ := uL_ok (p1.take i) p0 h b0 (fun q hq => b1 q (List.mem_of_mem_take hq))
      have := take_len_le p1 i
      simp only
      unfold F11_L1
      rw [bif_t (by simp [bLt_eq]; omega), need_true (inb_nat hi), Int.toNat_natCast, F18_ok _ _ (by omega) u2 (b1 _ (gd_mem hi)), Option.bind_some, wr_add1 hi (by omega), uL_snoc p0 p1 hi])
    (by simp only [List.take_length]; unfold F11_L1; rw [bif_f (by simp [bLt_eq])])
  exact this
/-- The checks of both sets ahead of an operation of the reference. -/
theorem two_ok {α : Type} (p0 p1 : List A6u8) (b0 : AbL p0) (b1 : AbL p1) (l0 : p0.length ≤ 300) (l1 : p1.length ≤ 300) (x y : Option α) :
    (Vs p0 ∧ Vs p1 ∧ ((F16 p0).bind fun r1 => need (bif (!(!r1)) then ((F16 p1).isSome) else true) <| bif ((!r1) || (!(gt (F16 p1)))) then x else y) = y) ∨
    (¬ (Vs p0 ∧ Vs p1) ∧ ((F16 p0).bind fun r1 => need (bif (!(!r1)) then ((F16 p1).isSome) else true) <| bif ((!r1) || (!(gt (F16 p1)))) then x else y) = x) := by
  rcases F16_ok p0 b0 (by omega) with ⟨v0, e0⟩ | ⟨v0, e0⟩ <;> rcases F16_ok p1 b1 (by omega) with ⟨v1, e1⟩ | ⟨v1, e1⟩ <;> rw [e0, e1]
  · exact .inl ⟨v0, v1, rfl⟩
  · exact .inr ⟨fun q => v1 q.2, rfl⟩
  · exact .inr ⟨fun q => v0 q.1, rfl⟩
  · exact .inr ⟨fun q => v0 q.1, rfl⟩
theorem union_eq (p0 p1 : List A6u8) (b0 : AbL p0) (b1 : AbL p1) (l0 : p0.length ≤ 300) (l1 : p1.length ≤ 300) : ∃ v, F10 p0 p1 = some v ∧ F11 p0 p1 = some v ∧ v.1.length ≤ 256 := by
  have hM := F10_ok p0 p1 b0 b1 l0 l1
  unfold F11
  rcases two_ok p0 p1 b0 b1 l0 l1 (some ([], 8)) (lp (loopD (fun s => F11_L1 p1 s.1 s.2) (p0, 0)) (fun w1_3 => (F17 w1_3).bind fun r7 => some (r7.1, r7.2)) some) with ⟨v0, v1, e⟩ | ⟨n, e⟩
  · rw [e, lp_inl (F11_loop p0 p1 v0.1 b0 b1 l0 l1)]
    obtain ⟨u1, u2, u3, u4⟩ := uL_ok p1 p0 v0.1 b0 b1
    rcases hM with ⟨n, _⟩ | ⟨_, _, out, o1, o2, o3⟩
    · exact absurd ⟨v0, v1⟩ n
    · have e : out = uL p0 p1 := srtk_ext nA o1 u1 fun x => by rw [o2, u3]
      rw [← e]
      rcases F17_ok out with ⟨k, e5⟩ | ⟨k, e5⟩ <;> rcases o3 with ⟨k', e6⟩ | ⟨k', e6⟩
      · exact ⟨_, e6, by rw [e5]; rfl, by simp⟩
      · omega
      · omega
      · exact ⟨_, e6, by rw [e5]; rfl, k⟩
  · rw [e]
    rcases hM with ⟨_, e⟩ | ⟨v0, v1, _⟩
    · exact ⟨_, e, rfl, by simp⟩
    · exact absurd ⟨v0, v1⟩ n
noncomputable def inS (l : List A6u8) (a : A6u8) : Bool := l.any fun q => eA q a
theorem inS_iff (l : List A6u8) (a : A6u8) : inS l a = true ↔ a ∈ l := by
  unfold inS
  rw [List.any_eq_true]
  exact ⟨fun ⟨q, h, e⟩ => by rw [← eA_iff.1 e]; exact h, fun h => ⟨a, h, eA_self a⟩⟩
theorem F21_in (l : List A6u8) (a : A6u8) (hl : l.length ≤ 1000) : F21 l a = some (inS l a) := by
  rcases F21_ok l a hl with ⟨h, e⟩ | ⟨h, e⟩
  · rw [e, (inS_iff l a).2 h]
  · rw [e, Bool.eq_false_iff.2 fun q => h ((inS_iff l a).1 q)]
theorem F13_loop (p0 p1 : List A6u8) (l0 : p0.length ≤ 300) (l1 : p1.length ≤ 300) : loopD (fun s => F13_L1 p0 p1 s.1 s.2) ([], 0) = some (.inl (p0.filter (inS p1))) :=
  keep_gen (step := fun s => F13_L1 p0 p1 s.1 s.2) (R := List A6u8 × Int) p0 _ (by omega) (fun i o hi ho => by
    simp only
    unfold F13_L1
    rw [bif_t (by simp [bLt_eq]; omega), need_true (inb_nat hi), Int.toNat_natCast, F21_in p1 _ (by omega), Option.bind_some, need_true (inb_nat hi), wr_add1 hi (by omega), need_true (capb_iff.2 (by omega))]
    cases inS p1 (gd p0 i) <;> rfl) (fun o => by simp only; unfold F13_L1; rw [bif_f (by simp [bLt_eq])])
theorem meet_eq (p0 p1 : List A6u8) (b0 : AbL p0) (b1 : AbL p1) (l0 : p0.length ≤ 300) (l1 : p1.length ≤ 300) : ∃ v, F12 p0 p1 = some v ∧ F13 p0 p1 = some v ∧ v.1.length ≤ 256 := by
  have hM := F12_ok p0 p1 b0 b1 l0 l1
  unfold F13
  rcases two_ok p0 p1 b0 b1 l0 l1 (some ([], 8)) (lp (loopD (fun s => F13_L1 p0 p1 s.1 s.2) ([], 0)) (fun w1_3 => some (w1_3, (0 : Int))) some) with ⟨v0, v1, e⟩ | ⟨n, e⟩
  · rw [e, lp_inl (F13_loop p0 p1 l0 l1)]
    rcases hM with ⟨n, _⟩ | ⟨_, _, out, o1, o2, o3⟩
    · exact absurd ⟨v0, v1⟩ n
    · have e : out = p0.filter (inS p1) := srtk_ext nA o1 (pw_fil (k := nA) _ v0.1) fun x => by rw [o2, List.mem_filter, inS_iff]
      have hle : out.length ≤ p0.length := by rw [e]; exact List.length_filter_le _ _
      have h256 := v0.2
      rw [← e]
      rcases o3 with ⟨k', e6⟩ | ⟨k', e6⟩
      · omega
      · exact ⟨_, e6, rfl, k'⟩
  · rw [e]
    rcases hM with ⟨_, e⟩ | ⟨v0, v1, _⟩
    · exact ⟨_, e, rfl, by simp⟩
    · exact absurd ⟨v0, v1⟩ n
theorem same_self (l : List A6u8) (hl : l.length ≤ 1000) : F14 l l = some true := by
  unfold F14
  rw [bif_f (by simp [bEq_eq])]
  refine (lp_inl (run_gen (step := fun s : Int => F14_L1 l l s) (E := Unit) (R := Bool) l.length (fun i => (i : Int)) () (fun i hi => ?_) ?_))
  · unfold F14_L1
    rw [bif_t (by simp [bLt_eq]; omega), need_true (inb_nat hi), need_true (inb_nat hi), Int.toNat_natCast, wr_add1 hi (by omega), (eqA (gd l i) (gd l i)).2 rfl]
    rfl
  · unfold F14_L1; rw [bif_f (by simp [bLt_eq])]
theorem put_gen {step : List A6u8 × Int → Option (Lp (List A6u8 × Int) (Unit ⊕ Bool))} (a : A6u8) (l : List A6u8) (hl : l.length ≤ 1000) (hs : ∀ s, step s = bif (bLt s.2 (s.1.length : Nat)) then (need (inb s.2 s.1.length) <| some (.next (s.1.set s.2.toNat a, wr .i64 (s.2 + 1)))) else (some (.done (.inl ())))) : loopD step (l, 0) = some (.inl ()) := by
  obtain ⟨r, l1, l2⟩ := loop_inv (step := step) (fun s => ∃ x : Nat, s.2 = (x : Int) ∧ x ≤ l.length ∧ s.1.length = l.length) (fun r => r = .inl ()) (fun s => (l.length - s.2).toNat)
    (fun s hS => by
      obtain ⟨L, i⟩ := s
      obtain ⟨x, h1, h2, h3⟩ := hS
      simp only at h1 h3
      subst h1
      rw [hs]
      simp only
      by_cases hx : x < l.length
      · right
        rw [bif_t (by simp [bLt_eq]; omega), need_true (inb_nat (by omega)), wr_add1 hx (by omega)]
        exact ⟨_, rfl, ⟨x + 1, rfl, by omega, by simp [h3]⟩, by simp only; omega⟩
      · left
        rw [bif_f (by simp [bLt_eq]; omega)]
        exact ⟨_, rfl, rfl⟩) (l, 0) ⟨0, rfl, by omega, rfl⟩
  rw [l2] at l1
  exact l1
theorem law3 (p0 p1 : List A6u8) (p2 : A6u8) (b0 : AbL p0) (b1 : AbL p1) (b2 : Ab p2) : F3 p0 p1 p2 = some true := by
  unfold F3
  by_cases hl : p0.length ≤ 300 ∧ p1.length ≤ 300
  · obtain ⟨l0, l1⟩ := hl
    rw [bif_f (by simp [bLt_eq]; omega), need_true (capb_iff.2 (by omega))]
    obtain ⟨v, e1, e2, k1⟩ := add_eq p0 p2 b0 b2 l0
    obtain ⟨u, e3, e4, k2⟩ := rem_eq p0 p2 b0 b2 l0
    obtain ⟨w, e5, e6⟩ := has_eq p0 p2 b0 b2 l0
    obtain ⟨x, e7, e8, k3⟩ := union_eq p0 p1 b0 b1 l0 l1
    obtain ⟨y, e9, e10, k4⟩ := meet_eq p0 p1 b0 b1 l0 l1
    rw [e1, e2, e3, e4, e5, e6, e7, e8, e9, e10]
    simp only [Option.bind_some]
    rw [same_self v.1 (by omega), same_self u.1 (by omega), same_self x.1 (by omega), same_self y.1 (by omega)]
    simp only [Option.bind_some, gt_some, Option.isSome_some]
    rw [lp_inl (put_gen (step := fun s => F3_L1 p2 s.1 s.2) p2 x.1 (by omega) (fun _ => rfl)), lp_inl (put_gen (step := fun s => F3_L2 p2 s.1 s.2) p2 u.1 (by omega) (fun _ => rfl)), List.nil_append, same_self p0 (by omega)]
    have s1 : ∀ z : Int, bEq z z = true := fun z => by simp [bEq_eq]
    have s2 : ∀ z : Bool, bB z z = true := fun z => by cases z <;> rfl
    simp only [s1, s2, gt_some, Option.isSome_some, Bool.and_self, cond_true]
    rcases F15_ok p0 b0 (by omega) with ⟨v0, e0⟩ | ⟨v0, e0⟩ <;> rcases F16_ok p0 b0 (by omega) with ⟨v1, f0⟩ | ⟨v1, f0⟩
    · rw [e0, f0]; rfl
    · exact absurd v0 v1
    · exact absurd v1 v0
    · rw [e0, f0]; rfl
  · rw [bif_t]
    rw [Bool.or_eq_true, bLt_eq, bLt_eq, decide_eq_true_eq, decide_eq_true_eq]
    omega
end Go.Proofs.Ytohkhcljklndpaa
