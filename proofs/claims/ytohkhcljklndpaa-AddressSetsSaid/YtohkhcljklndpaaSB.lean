/-
  AddressSets: the sets' operations, of the program and of the reference.
-/
import Derived.Test.YtohkhcljklndpaaSA
namespace Go.Proofs.Ytohkhcljklndpaa
open Go.Am
set_option linter.unusedVariables false
set_option linter.unusedSimpArgs false
theorem eqA (a b : A6u8) : (bEq a.x0 b.x0 && (bEq a.x1 b.x1 && (bEq a.x2 b.x2 && (bEq a.x3 b.x3 && (bEq a.x4 b.x4 && bEq a.x5 b.x5))))) = true ↔ a = b := by
  obtain ⟨a0, a1, a2, a3, a4, a5⟩ := a
  obtain ⟨b0, b1, b2, b3, b4, b5⟩ := b
  simp [bEq_eq]
noncomputable def eA (a b : A6u8) : Bool := bEq a.x0 b.x0 && (bEq a.x1 b.x1 && (bEq a.x2 b.x2 && (bEq a.x3 b.x3 && (bEq a.x4 b.x4 && bEq a.x5 b.x5))))
theorem eA_iff {a b : A6u8} : eA a b = true ↔ a = b := eqA a b
theorem eA_self (a : A6u8) : eA a a = true := eA_iff.2 rfl
theorem eA_no {a b : A6u8} (h : a ≠ b) : eA a b = false := Bool.eq_false_iff.2 fun q => h (eA_iff.1 q)
theorem Vs_one (a : A6u8) : Vs [a] := ⟨List.pairwise_singleton .., by simp⟩
/-- What the program's merging gives. -/
def Mg (mem : Prop → Prop → Prop) (p0 p1 : List A6u8) (r : Option (List A6u8 × Int)) : Prop :=
  (¬ (Vs p0 ∧ Vs p1) ∧ r = some ([], 8)) ∨
  (Vs p0 ∧ Vs p1 ∧ ∃ out, Sr out ∧ (∀ x, x ∈ out ↔ mem (x ∈ p0) (x ∈ p1)) ∧ ((256 < out.length ∧ r = some ([], 22)) ∨ (out.length ≤ 256 ∧ r = some (out, 0))))
theorem merge_gen (kp : Bool → Bool → Bool) (f : Bool → Bool → Option Bool) (hf : ∀ a b, f a b = some (kp a b)) (mem : Prop → Prop → Prop)
    (hm : ∀ (P Q : Prop), ((P ∨ Q) ∧ ∃ p q : Bool, (p = true ↔ P) ∧ (q = true ↔ Q) ∧ kp p q = true) ↔ mem P Q)
    (p0 p1 : List A6u8) (b0 : AbL p0) (b1 : AbL p1) (l0 : p0.length ≤ 300) (l1 : p1.length ≤ 300) :
    Mg mem p0 p1 ((some [p0, p1]).bind fun w3 => need (inb 0 w3.length) <| (F15 (gd w3 0)).bind fun r6 => bif (!bEq r6 0) then (some ([], r6)) else (need (inb 1 w3.length) <| (F15 (gd w3 1)).bind fun r9 => bif (!bEq r9 0) then (some ([], r9)) else (lp (loopD (fun s => mgS f s.1 s.2.1 s.2.2) (p1, [], p0)) (fun w1_4 => bif (bLt 256 (w1_4.length : Nat)) then (some ([], 22)) else (some (w1_4, 0))) some))) := by
  unfold Mg
  have g0 : gd [p0, p1] 0 = p0 := rfl
  have g1 : gd [p0, p1] 1 = p1 := rfl
  rw [Option.bind_some, need_true (by rfl), need_true (by rfl), g0, g1]
  rcases F15_ok p0 b0 (by omega) with ⟨v0, e0⟩ | ⟨v0, e0⟩
  · rcases F15_ok p1 b1 (by omega) with ⟨v1, e1⟩ | ⟨v1, e1⟩
    · rw [e0, Option.bind_some, bif_f (by rfl), e1, Option.bind_some, bif_f (by rfl)]
      obtain ⟨out, l, o1, o2, o3⟩ := merge_ok kp f hf p0 p1 v0.1 v1.1 b0 b1 (by omega) (by omega)
      rw [lp_inl l]
      refine .inr ⟨v0, v1, out, o1, fun x => (o3 x).trans (hm _ _), ?_⟩
      by_cases h : 256 < out.length
      · exact .inl ⟨h, by rw [bif_t (by simp [bLt_eq]; omega)]⟩
      · exact .inr ⟨by omega, by rw [bif_f (by simp [bLt_eq]; omega)]⟩
    · refine .inl ⟨fun q => v1 q.2, ?_⟩
      rw [e0, Option.bind_some, bif_f (by rfl), e1, Option.bind_some, bif_t (by rfl)]
  · refine .inl ⟨fun q => v0 q.1, ?_⟩
    rw [e0, Option.bind_some, bif_t (by rfl)]
theorem F10_ok (p0 p1 : List A6u8) (b0 : AbL p0) (b1 : AbL p1) (l0 : p0.length ≤ 300) (l1 : p1.length ≤ 300) : Mg (fun P Q => P ∨ Q) p0 p1 (F10 p0 p1) := by
  have h := merge_gen (fun _ _ => true) F22 (fun _ _ => rfl) (fun P Q => P ∨ Q) (fun P Q => ⟨fun h => h.1, fun h => ⟨h, by classical exact ⟨decide P, decide Q, by simp, by simp, rfl⟩⟩⟩) p0 p1 b0 b1 l0 l1
  have e : F10 p0 p1 = F19_0 p0 p1 := by unfold F10; cases F19_0 p0 p1 <;> rfl
  rw [e]; exact h
theorem F19_1_ok (p0 p1 : List A6u8) (b0 : AbL p0) (b1 : AbL p1) (l0 : p0.length ≤ 300) (l1 : p1.length ≤ 300) : Mg (fun P Q => P ∧ ¬ Q) p0 p1 (F19_1 p0 p1) := by
  exact merge_gen (fun p q => p && !q) F20 (fun _ _ => rfl) (fun P Q => P ∧ ¬ Q) (fun P Q => by
    constructor
    · rintro ⟨_, p, q, h1, h2, h3⟩
      rw [Bool.and_eq_true, Bool.not_eq_true'] at h3
      exact ⟨h1.1 h3.1, fun k => by rw [h2.2 k] at h3; exact absurd h3.2 (by decide)⟩
    · rintro ⟨h1, h2⟩
      exact ⟨.inl h1, true, false, by simp [h1], by simp [h2], rfl⟩) p0 p1 b0 b1 l0 l1
theorem F12_ok (p0 p1 : List A6u8) (b0 : AbL p0) (b1 : AbL p1) (l0 : p0.length ≤ 300) (l1 : p1.length ≤ 300) : Mg (fun P Q => P ∧ Q) p0 p1 (F12 p0 p1) := by
  have h := merge_gen (fun p q => p && q) F23 (fun _ _ => rfl) (fun P Q => P ∧ Q) (fun P Q => by
    constructor
    · rintro ⟨_, p, q, h1, h2, h3⟩
      rw [Bool.and_eq_true] at h3
      exact ⟨h1.1 h3.1, h2.1 h3.2⟩
    · rintro ⟨h1, h2⟩
      exact ⟨.inl h1, true, true, by simp [h1], by simp [h2], rfl⟩) p0 p1 b0 b1 l0 l1
  have e : F12 p0 p1 = F19_2 p0 p1 := by unfold F12; cases F19_2 p0 p1 <;> rfl
  rw [e]; exact h
theorem F18_ok (l : List A6u8) (t : A6u8) (hl : l.length ≤ 1000) (hq : AbL l) (ht : Ab t) : F18 l t = some (wl (fun q => nA q - nA t) t l) := by
  have lo := run_gen (step := fun s : List A6u8 × Bool × Int => F18_L1 l t s.1 s.2.1 s.2.2) (E := List A6u8 × Bool) (R := List A6u8) l.length
    (fun i => (((l.take i).foldl (wt (fun q => nA q - nA t) t) ([], false)).1, ((l.take i).foldl (wt (fun q => nA q - nA t) t) ([], false)).2, (i : Int)))
    (l.foldl (wt (fun q => nA q - nA t) t) ([], false))
    (fun i hi => by
      have hw := wt_len (fun q : A6u8 => nA q - nA t) t (l.take i) ([], false)
      rw [List.length_take] at hw
      rw [fold_snoc _ _ _ hi]
      generalize (l.take i).foldl (wt (fun q => nA q - nA t) t) ([], false) = s at hw ⊢
      have hg := hq _ (gd_mem hi)
      have k1 := F25_ok t (gd l i) ht hg
      obtain ⟨L, d⟩ := s
      simp only [List.length_nil] at hw
      have ee : (bEq ((gd l i).x0) t.x0 && (bEq ((gd l i).x1) t.x1 && (bEq ((gd l i).x2) t.x2 && (bEq ((gd l i).x3) t.x3 && (bEq ((gd l i).x4) t.x4 && (bEq ((gd l i).x5) t.x5)))))) = decide (nA (gd l i) = nA t) := by
        rw [Bool.eq_iff_iff, eqA]
        simp only [decide_eq_true_eq]
        exact ⟨fun h => by rw [h], fun h => nA_inj hg ht h⟩
      have c1 : capb 6 (L.length + 1) = true := capb_iff.2 (by omega)
      have c2 : capb 6 (L.length + 1 + 1) = true := capb_iff.2 (by omega)
      unfold F18_L1
      simp only [Int.toNat_natCast]
      rw [bif_t (by simp [bLt_eq]; omega)]
      simp only [k1, gt_some, Option.isSome_some, ee, inb_nat hi, wr_add1 hi (show l.length < 4611686018427387904 by omega), c1, c2]
      unfold wt
      simp only
      rcases Int.lt_trichotomy (nA (gd l i)) (nA t) with k2 | k2 | k2
      · rw [cmpI_gt k2, if_neg (by omega), if_neg (by omega), decide_eq_false (show ¬ 0 ≤ nA (gd l i) - nA t by omega), decide_eq_false (show ¬ nA (gd l i) = nA t by omega)]
        cases d <;> simp [need, bLe_eq, c1, c2]
      · rw [cmpI_eq k2.symm, if_pos (by omega), decide_eq_true (show 0 ≤ nA (gd l i) - nA t by omega), decide_eq_true k2]
        cases d
        · rw [if_pos ⟨by omega, rfl⟩]; simp [need, bLe_eq, c1, c2]
        · rw [if_neg (by simp)]; simp [need, bLe_eq, c1, c2]
      · rw [cmpI_lt k2, if_neg (by omega), decide_eq_true (show 0 ≤ nA (gd l i) - nA t by omega), decide_eq_false (show ¬ nA (gd l i) = nA t by omega)]
        cases d
        · rw [if_pos ⟨by omega, rfl⟩]; simp [need, bLe_eq, c1, c2]
        · rw [if_neg (by simp)]; simp [need, bLe_eq, c1, c2])
    (by
      unfold F18_L1
      simp only [List.take_length]
      rw [bif_f (by simp [bLt_eq])])
  have l0 : loopD (fun s : List A6u8 × Bool × Int => F18_L1 l t s.1 s.2.1 s.2.2) ([], false, 0) = _ := lo
  unfold F18
  rw [lp_inl l0]
  have hw := wt_len (fun q : A6u8 => nA q - nA t) t l ([], false)
  simp only [List.length_nil] at hw
  rw [need_true (capb_iff.2 (by omega))]
  unfold wl
  cases (l.foldl (wt (fun q => nA q - nA t) t) ([], false)).2 <;> rfl
theorem wl_ok (l : List A6u8) (t : A6u8) (hs : Sr l) (hq : AbL l) (ht : Ab t) : Sr (wl (fun q => nA q - nA t) t l) ∧ (∀ x, x ∈ wl (fun q => nA q - nA t) t l ↔ x = t ∨ x ∈ l) :=
  wl_set nA t l hs fun q h e => nA_inj (hq q h) ht e
theorem wl_len1 (l : List A6u8) (t : A6u8) (hs : Sr l) : (wl (fun q => nA q - nA t) t l).length ≤ l.length + 1 := by
  obtain ⟨A, B, e, hA, h | ⟨b, B', rfl, h1, h2⟩⟩ := srt_split nA l (nA t) hs
  · rw [e, wl_new _ _ A B (fun q hq => by have := hA q hq; omega) (fun q hq => by have := h q hq; omega)]
    simp; omega
  · rw [e, wl_old _ _ A B' b (fun q hq => by have := hA q hq; omega) (by omega) (fun q hq => by have := h2 q hq; omega)]
    simp
theorem F17_ok (l : List A6u8) : (256 < l.length ∧ F17 l = some ([], 22)) ∨ (l.length ≤ 256 ∧ F17 l = some (l, 0)) := by
  unfold F17
  by_cases h : 256 < l.length
  · exact .inl ⟨h, by rw [bif_t (by simp [bLt_eq]; omega)]⟩
  · exact .inr ⟨by omega, by rw [bif_f (by simp [bLt_eq]; omega)]⟩
theorem add_eq (p0 : List A6u8) (a : A6u8) (b0 : AbL p0) (ha : Ab a) (l0 : p0.length ≤ 300) : ∃ v, F4 p0 a = some v ∧ F5 p0 a = some v ∧ v.1.length ≤ 256 := by
  have e4 : F4 p0 a = F10 p0 [a] := by unfold F4; cases F10 p0 [a] <;> rfl
  rw [e4]
  have hM := F10_ok p0 [a] b0 (fun q hq => by rw [List.mem_singleton.1 hq]; exact ha) l0 (by simp)
  unfold F5
  rcases F16_ok p0 b0 (by omega) with ⟨v0, e0⟩ | ⟨v0, e0⟩
  · rw [e0, Option.bind_some, bif_f (by rfl), F18_ok p0 a (by omega) b0 ha, Option.bind_some]
    obtain ⟨w1, w2⟩ := wl_ok p0 a v0.1 b0 ha
    rcases hM with ⟨n, _⟩ | ⟨_, _, out, o1, o2, o3⟩
    · exact absurd ⟨v0, Vs_one a⟩ n
    · have e : out = wl (fun q => nA q - nA a) a p0 := srtk_ext nA o1 w1 fun x => by rw [o2, w2, List.mem_singleton]; exact Or.comm
      rw [← e]
      rcases F17_ok out with ⟨k, e5⟩ | ⟨k, e5⟩ <;> rcases o3 with ⟨k', e6⟩ | ⟨k', e6⟩
      · exact ⟨_, e6, by rw [e5]; rfl, by simp⟩
      · omega
      · omega
      · exact ⟨_, e6, by rw [e5]; rfl, k⟩
  · rw [e0, Option.bind_some, bif_t (by rfl)]
    rcases hM with ⟨n, e⟩ | ⟨v, _⟩
    · exact ⟨_, e, rfl, by simp⟩
    · exact absurd v v0
theorem F21_ok (l : List A6u8) (a : A6u8) (hl : l.length ≤ 1000) : (a ∈ l ∧ F21 l a = some true) ∨ (a ∉ l ∧ F21 l a = some false) := by
  unfold F21
  rcases first_gen (step := fun s => F21_L1 l a s) (R := Bool) l.length (fun i => gd l i = a) (fun _ => true) () (fun i hi _ => by
      unfold F21_L1
      rw [bif_t (by simp [bLt_eq]; omega), need_true (inb_nat hi), Int.toNat_natCast, wr_add1 hi (by omega)]
      by_cases h : gd l i = a
      · exact .inr ⟨h, by rw [bif_t ((eqA _ _).2 h)]⟩
      · exact .inl ⟨h, by rw [bif_f (Bool.eq_false_iff.2 fun q => h ((eqA _ _).1 q))]⟩)
    (by unfold F21_L1; rw [bif_f (by simp [bLt_eq])]) with ⟨h1, h2⟩ | ⟨i, h1, h2, _, h3⟩
  · refine .inr ⟨fun q => ?_, lp_inl h2⟩
    obtain ⟨i, hi, e⟩ := mem_gd q
    exact h1 i hi e
  · exact .inl ⟨by rw [← h2]; exact gd_mem h1, lp_inr h3⟩
/-- A loop that keeps what passes a test. -/
theorem keep_gen {R : Type} {step : List A6u8 × Int → Option (Lp (List A6u8 × Int) (List A6u8 ⊕ R))} (l : List A6u8) (p : A6u8 → Bool) (hl : l.length ≤ 1000)
    (hs : ∀ (i : Nat) (o : List A6u8), i < l.length → o.length ≤ 1000 → step (o, (i : Int)) = some (.next (bif p (gd l i) then o ++ [gd l i] else o, ((i + 1 : Nat) : Int))))
    (he : ∀ o, step (o, (l.length : Int)) = some (.done (.inl o))) : loopD step ([], 0) = some (.inl (l.filter p)) := by
  have := run_gen (step := step) (E := List A6u8) (R := R) l.length (fun i => ((l.take i).filter p, (i : Int))) (l.filter p)
    (fun i hi => by
      rw [hs i _ hi (by have := List.length_filter_le p (l.take i); rw [List.length_take] at this; omega), take_fil p l hi])
    (by simp only [List.take_length]; exact he _)
  exact this
theorem F7_loop (l : List A6u8) (a : A6u8) (hl : l.length ≤ 1000) : loopD (fun s => F7_L1 l a s.1 s.2) ([], 0) = some (.inl (l.filter fun q => !eA q a)) :=
  keep_gen (step := fun s => F7_L1 l a s.1 s.2) (R := List A6u8 × Int) l _ hl (fun i o hi ho => by
    simp only
    unfold F7_L1
    rw [bif_t (by simp [bLt_eq]; omega), need_true (inb_nat hi), need_true (inb_nat hi), Int.toNat_natCast, wr_add1 hi (by omega), need_true (capb_iff.2 (by omega))]
    show (bif !eA (gd l i) a then _ else _) = _
    cases eA (gd l i) a <;> rfl) (fun o => by simp only; unfold F7_L1; rw [bif_f (by simp [bLt_eq])])
theorem rem_eq (p0 : List A6u8) (a : A6u8) (b0 : AbL p0) (ha : Ab a) (l0 : p0.length ≤ 300) : ∃ v, F6 p0 a = some v ∧ F7 p0 a = some v ∧ v.1.length ≤ 256 := by
  have hM := F19_1_ok p0 [a] b0 (fun q hq => by rw [List.mem_singleton.1 hq]; exact ha) l0 (by simp)
  unfold F6 F7
  rcases F16_ok p0 b0 (by omega) with ⟨v0, e0⟩ | ⟨v0, e0⟩
  · rcases hM with ⟨n, _⟩ | ⟨_, _, out, o1, o2, o3⟩
    · exact absurd ⟨v0, Vs_one a⟩ n
    · have e : out = p0.filter fun q => !eA q a := srtk_ext nA o1 (pw_fil (k := nA) _ v0.1) fun x => by
        rw [o2, List.mem_filter, List.mem_singleton, Bool.not_eq_true', ← Bool.not_eq_true, eA_iff]
      have hle : out.length ≤ p0.length := by rw [e]; exact List.length_filter_le _ _
      have h256 := v0.2
      rcases o3 with ⟨k', e6⟩ | ⟨k', e6⟩
      · omega
      · rw [e0, Option.bind_some, bif_f (c := !true) rfl, e6, Option.bind_some]
        rcases F21_ok p0 a (by omega) with ⟨hm, e2⟩ | ⟨hm, e2⟩
        · rw [e2, Option.bind_some, bif_f (c := !true) rfl, lp_inl (F7_loop p0 a (by omega)), ← e]
          have hlt : out.length < p0.length := by
            rcases Nat.lt_or_eq_of_le hle with h | h
            · exact h
            · rw [e] at h
              have := List.length_filter_eq_length_iff.1 h a hm
              rw [eA_self] at this; exact absurd this (by decide)
          refine ⟨(out, 0), ?_, rfl, k'⟩
          rw [bif_f (by simp [bEq_eq]; omega)]
        · rw [e2, Option.bind_some, bif_t (c := !false) rfl]
          have heq : out = p0 := by
            rw [e]
            exact List.filter_eq_self.2 fun q hq => by rw [eA_no fun h => hm (by rw [← h]; exact hq)]; rfl
          refine ⟨([], 6), ?_, rfl, by simp⟩
          rw [bif_t (by rw [heq]; simp [bEq_eq])]
  · rw [e0, Option.bind_some, bif_t (by rfl)]
    rcases hM with ⟨n, e⟩ | ⟨v, _⟩
    · rw [e, Option.bind_some]; exact ⟨_, by rw [bif_f (by rfl)], rfl, by simp⟩
    · exact absurd v v0
theorem has_eq (p0 : List A6u8) (a : A6u8) (b0 : AbL p0) (ha : Ab a) (l0 : p0.length ≤ 300) : ∃ v, F8 p0 a = some v ∧ F9 p0 a = some v := by
  have hM := F12_ok p0 [a] b0 (fun q hq => by rw [List.mem_singleton.1 hq]; exact ha) l0 (by simp)
  unfold F8 F9
  rcases F16_ok p0 b0 (by omega) with ⟨v0, e0⟩ | ⟨v0, e0⟩
  · rcases hM with ⟨n, _⟩ | ⟨_, _, out, o1, o2, o3⟩
    · exact absurd ⟨v0, Vs_one a⟩ n
    · have hmem : ∀ x, x ∈ out ↔ x ∈ p0 ∧ x = a := fun x => by rw [o2, List.mem_singleton]
      rw [e0, Option.bind_some, bif_f (by rfl)]
      have hle : out.length ≤ 1 := by
        rcases out with _ | ⟨x, _ | ⟨y, t⟩⟩
        · simp
        · simp
        · have h1 := ((hmem x).1 (by simp)).2
          have h2 := ((hmem y).1 (by simp)).2
          have := (List.pairwise_cons.1 o1).1 y (by simp)
          rw [h1, h2] at this; omega
      rcases o3 with ⟨k', e6⟩ | ⟨k', e6⟩
      · omega
      · rw [e6, Option.bind_some]
        rcases F21_ok p0 a (by omega) with ⟨hm, e2⟩ | ⟨hm, e2⟩
        · rw [e2, Option.bind_some]
          have : 0 < out.length := List.length_pos_of_mem ((hmem a).2 ⟨hm, rfl⟩)
          exact ⟨_, by rw [show bLt 0 (((out, (0 : Int)).1.length : Nat) : Int) = true from by simp only [bLt_eq, decide_eq_true_eq]; omega], rfl⟩
        · rw [e2, Option.bind_some]
          have : out.length = 0 := by
            rcases out with _ | ⟨x, t⟩
            · rfl
            · obtain ⟨q1, q2⟩ := (hmem x).1 (by simp)
              exact absurd (by rw [← q2]; exact q1) hm
          exact ⟨_, by rw [show bLt 0 (((out, (0 : Int)).1.length : Nat) : Int) = false from by simp only [bLt_eq, decide_eq_false_iff_not]; omega], rfl⟩
  · rw [e0, Option.bind_some, bif_t (by rfl)]
    rcases hM with ⟨n, e⟩ | ⟨v, _⟩
    · rw [e, Option.bind_some]; exact ⟨_, by rfl, rfl⟩
    · exact absurd v v0
end Go.Proofs.Ytohkhcljklndpaa
