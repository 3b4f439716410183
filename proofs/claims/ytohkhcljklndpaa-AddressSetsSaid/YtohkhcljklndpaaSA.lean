/-
  AddressSets: addresses as numbers, sets, merging.
-/
import Derived.Test.YtohkhcljklndpaaY3
import Derived.Test.YtohkhcljklndpaaLT
namespace Go.Proofs.Ytohkhcljklndpaa
open Go.Am
set_option linter.unusedVariables false
set_option linter.unusedSimpArgs false
def Ab (a : A6u8) : Prop := (0 ≤ a.x0 ∧ a.x0 ≤ 255) ∧ (0 ≤ a.x1 ∧ a.x1 ≤ 255) ∧ (0 ≤ a.x2 ∧ a.x2 ≤ 255) ∧ (0 ≤ a.x3 ∧ a.x3 ≤ 255) ∧ (0 ≤ a.x4 ∧ a.x4 ≤ 255) ∧ (0 ≤ a.x5 ∧ a.x5 ≤ 255)
def nA (a : A6u8) : Int := ((((a.x0 * 256 + a.x1) * 256 + a.x2) * 256 + a.x3) * 256 + a.x4) * 256 + a.x5
theorem Ab_u8 {a : A6u8} (h : Ab a) : u8A [a.x0, a.x1, a.x2, a.x3, a.x4, a.x5] = true := by
  unfold Ab at h
  refine u8A_iff.2 fun q hq => ?_
  simp only [List.mem_cons, List.not_mem_nil, or_false] at hq
  rcases hq with rfl | rfl | rfl | rfl | rfl | rfl <;> omega
theorem nA_inj {a b : A6u8} (ha : Ab a) (hb : Ab b) (h : nA a = nA b) : a = b := by
  obtain ⟨a0, a1, a2, a3, a4, a5⟩ := a
  obtain ⟨b0, b1, b2, b3, b4, b5⟩ := b
  simp only [Ab, nA] at ha hb h
  have e5 : a5 = b5 := by omega
  have e4 : a4 = b4 := by omega
  have e3 : a3 = b3 := by omega
  have e2 : a2 = b2 := by omega
  have e1 : a1 = b1 := by omega
  have e0 : a0 = b0 := by omega
  subst e0 e1 e2 e3 e4 e5
  rfl
theorem cmp_eq {x y : Int} (l m : List Int) (h : x = y) : cmpL (x :: l) (y :: m) = cmpL l m := by
  subst h; simp only [cmpL, Int.lt_irrefl, if_false]
theorem cmp_lt {x y : Int} (l m : List Int) (h : x < y) : cmpL (x :: l) (y :: m) = -1 := by simp only [cmpL, if_pos h]
theorem cmp_gt {x y : Int} (l m : List Int) (h : y < x) : cmpL (x :: l) (y :: m) = 1 := by
  have h2 : ¬ x < y := by omega
  simp only [cmpL, if_neg h2, if_pos h]
theorem F24_ok (a b : A6u8) (ha : Ab a) (hb : Ab b) : F24 a b = some (cmpI (nA a) (nA b)) := by
  have hu := Ab_u8 ha
  have hv := Ab_u8 hb
  unfold F24 F26
  rw [need_true hu, need_true hv, Option.bind_some]
  congr 1
  unfold Ab at ha hb
  rcases Int.lt_trichotomy a.x0 b.x0 with h0 | h0 | h0
  · rw [cmp_lt _ _ h0, cmpI_lt (by unfold nA; omega)]
  · rw [cmp_eq _ _ h0]
    rcases Int.lt_trichotomy a.x1 b.x1 with h1 | h1 | h1
    · rw [cmp_lt _ _ h1, cmpI_lt (by unfold nA; omega)]
    · rw [cmp_eq _ _ h1]
      rcases Int.lt_trichotomy a.x2 b.x2 with h2 | h2 | h2
      · rw [cmp_lt _ _ h2, cmpI_lt (by unfold nA; omega)]
      · rw [cmp_eq _ _ h2]
        rcases Int.lt_trichotomy a.x3 b.x3 with h3 | h3 | h3
        · rw [cmp_lt _ _ h3, cmpI_lt (by unfold nA; omega)]
        · rw [cmp_eq _ _ h3]
          rcases Int.lt_trichotomy a.x4 b.x4 with h4 | h4 | h4
          · rw [cmp_lt _ _ h4, cmpI_lt (by unfold nA; omega)]
          · rw [cmp_eq _ _ h4]
            rcases Int.lt_trichotomy a.x5 b.x5 with h5 | h5 | h5
            · rw [cmp_lt _ _ h5, cmpI_lt (by unfold nA; omega)]
            · rw [cmp_eq _ _ h5, cmpI_eq (by unfold nA; omega)]; simp [cmpL]
            · rw [cmp_gt _ _ h5, cmpI_gt (by unfold nA; omega)]
          · rw [cmp_gt _ _ h4, cmpI_gt (by unfold nA; omega)]
        · rw [cmp_gt _ _ h3, cmpI_gt (by unfold nA; omega)]
      · rw [cmp_gt _ _ h2, cmpI_gt (by unfold nA; omega)]
    · rw [cmp_gt _ _ h1, cmpI_gt (by unfold nA; omega)]
  · rw [cmp_gt _ _ h0, cmpI_gt (by unfold nA; omega)]
theorem F27_ok (a : A6u8) (h : Ab a) : F27 a = some (nA a) := by
  unfold Ab at h
  unfold F27 nA
  congr 1
  rw [wr_u64 (x := a.x0) (by omega), wr_u64 (x := a.x1) (by omega), wr_u64 (x := a.x2) (by omega), wr_u64 (x := a.x3) (by omega), wr_u64 (x := a.x4) (by omega), wr_u64 (x := a.x5) (by omega)]
  rw [wr_u64 (x := 0 + a.x0) (by omega), Int.zero_add, wr_u64 (x := a.x0 * 256) (by omega), wr_u64 (x := a.x0 * 256 + a.x1) (by omega), wr_u64 (x := (a.x0 * 256 + a.x1) * 256) (by omega), wr_u64 (x := (a.x0 * 256 + a.x1) * 256 + a.x2) (by omega), wr_u64 (x := ((a.x0 * 256 + a.x1) * 256 + a.x2) * 256) (by omega), wr_u64 (x := ((a.x0 * 256 + a.x1) * 256 + a.x2) * 256 + a.x3) (by omega), wr_u64 (x := (((a.x0 * 256 + a.x1) * 256 + a.x2) * 256 + a.x3) * 256) (by omega), wr_u64 (x := (((a.x0 * 256 + a.x1) * 256 + a.x2) * 256 + a.x3) * 256 + a.x4) (by omega), wr_u64 (x := ((((a.x0 * 256 + a.x1) * 256 + a.x2) * 256 + a.x3) * 256 + a.x4) * 256) (by omega), wr_u64 (by omega)]
theorem F25_ok (a b : A6u8) (ha : Ab a) (hb : Ab b) : F25 a b = some (cmpI (nA a) (nA b)) := by
  unfold F25 cmpI
  rw [F27_ok a ha, F27_ok b hb]
  simp only [Option.bind_some]
  by_cases h : nA a < nA b
  · rw [bif_t (by simp [bLt_eq, h]), if_pos h]
  · rw [bif_f (by simp [bLt_eq]; omega), if_neg h]
    by_cases h2 : nA b < nA a
    · rw [bif_t (by simp [bLt_eq, h2]), if_pos h2]
    · rw [bif_f (by simp [bLt_eq]; omega), if_neg h2]
def AbL (l : List A6u8) : Prop := ∀ q ∈ l, Ab q
def Sr (l : List A6u8) : Prop := l.Pairwise (fun a b => nA a < nA b)
def Vs (l : List A6u8) : Prop := Sr l ∧ l.length ≤ 256
/-- A check from the second element on that a list rises. -/
theorem up_gen {R : Type} {step : Int → Option (Lp Int (Unit ⊕ R))} (l : List A6u8) (hl : l.length ≤ 1000) (bad : R)
    (hs : ∀ i : Nat, i + 1 < l.length → (nA (gd l i) < nA (gd l (i + 1)) → step ((i + 1 : Nat) : Int) = some (.next ((i + 1 + 1 : Nat) : Int))) ∧ (¬ nA (gd l i) < nA (gd l (i + 1)) → step ((i + 1 : Nat) : Int) = some (.done (.inr bad))))
    (he : ∀ i : Nat, l.length ≤ i + 1 → step ((i + 1 : Nat) : Int) = some (.done (.inl ()))) :
    (Sr l ∧ loopD step 1 = some (.inl ())) ∨ (¬ Sr l ∧ loopD step 1 = some (.inr bad)) := by
  obtain ⟨b, l1, l2⟩ := loop_forS (step := step) (l.length - 1) (fun i => ((i + 1 : Nat) : Int)) (fun i => ∀ j, j < i → nA (gd l j) < nA (gd l (j + 1)))
    (fun b => (b = .inl () ∧ ∀ j, j < l.length - 1 → nA (gd l j) < nA (gd l (j + 1))) ∨ (b = .inr bad ∧ ∃ j, j + 1 < l.length ∧ ¬ nA (gd l j) < nA (gd l (j + 1)))) (fun j hj => absurd hj (by omega))
    (fun i hi hI => by
      obtain ⟨s1, s2⟩ := hs i (by omega)
      by_cases h : nA (gd l i) < nA (gd l (i + 1))
      · refine .inr ⟨s1 h, fun j hj => ?_⟩
        rcases Nat.lt_or_eq_of_le (Nat.le_of_lt_succ hj) with q | rfl
        · exact hI j q
        · exact h
      · exact .inl ⟨_, s2 h, .inr ⟨rfl, i, by omega, h⟩⟩)
    (fun hI => ⟨_, he _ (by omega), .inl ⟨rfl, hI⟩⟩)
  have l1' : loopD step 1 = some b := l1
  rcases l2 with ⟨rfl, h⟩ | ⟨rfl, j, h1, h2⟩
  · refine .inl ⟨adj_srt nA l fun i hi h0 => ?_, l1'⟩
    have := h (i - 1) (by omega)
    rwa [show i - 1 + 1 = i by omega] at this
  · exact .inr ⟨fun h => h2 (srt_gd nA h (Nat.lt_succ_self j) h1), l1'⟩
theorem pre1 {i : Nat} (h : i ≤ 1000) : wr .i64 (((i + 1 : Nat) : Int) - 1) = ((i : Nat) : Int) := by rw [wr_in (by omega)]; omega
theorem F15_ok (l : List A6u8) (hb : AbL l) (hl : l.length ≤ 1000) : (Vs l ∧ F15 l = some 0) ∨ (¬ Vs l ∧ F15 l = some 8) := by
  unfold F15
  rcases up_gen (step := fun s => F15_L1 l s) l hl (8 : Int) (fun i hi => by
      have e : F15_L1 l ((i + 1 : Nat) : Int) = bif (bLe 0 (cmpI (nA (gd l i)) (nA (gd l (i + 1))))) then (some (.done (.inr 8))) else (some (.next ((i + 1 + 1 : Nat) : Int))) := by
        unfold F15_L1
        rw [bif_t (c := bLt _ _) (by simp [bLt_eq]; omega), pre1 (by omega), need_true (inb_nat (by omega)), need_true (inb_nat hi), Int.toNat_natCast, Int.toNat_natCast, F24_ok _ _ (hb _ (gd_mem (by omega))) (hb _ (gd_mem hi)), Option.bind_some, wr_add1 hi (by omega)]
      refine ⟨fun h => ?_, fun h => ?_⟩
      · show F15_L1 l _ = _
        rw [e, cmpI_lt h]; rfl
      · show F15_L1 l _ = _
        rw [e]
        rcases Int.lt_or_eq_of_le (Int.not_lt.1 h) with q | q
        · rw [cmpI_gt q]; rfl
        · rw [cmpI_eq q.symm]; rfl)
    (fun i hi => by show F15_L1 l _ = _; unfold F15_L1; rw [bif_f (by simp [bLt_eq]; omega)]) with ⟨h, e⟩ | ⟨h, e⟩
  · rw [lp_inl e]
    by_cases h2 : l.length ≤ 256
    · exact .inl ⟨⟨h, h2⟩, by rw [bif_f (by simp [bLt_eq]; omega)]⟩
    · exact .inr ⟨fun q => h2 q.2, by rw [bif_t (by simp [bLt_eq]; omega)]⟩
  · rw [lp_inr e]; exact .inr ⟨fun q => h q.1, rfl⟩
theorem F16_ok (l : List A6u8) (hb : AbL l) (hl : l.length ≤ 1000) : (Vs l ∧ F16 l = some true) ∨ (¬ Vs l ∧ F16 l = some false) := by
  unfold F16
  rcases up_gen (step := fun s => F16_L1 l s) l hl false (fun i hi => by
      have e : F16_L1 l ((i + 1 : Nat) : Int) = bif (bLe 0 (cmpI (nA (gd l i)) (nA (gd l (i + 1))))) then (some (.done (.inr false))) else (some (.next ((i + 1 + 1 : Nat) : Int))) := by
        unfold F16_L1
        rw [bif_t (c := bLt _ _) (by simp [bLt_eq]; omega), pre1 (by omega), need_true (inb_nat (by omega)), need_true (inb_nat hi), Int.toNat_natCast, Int.toNat_natCast, F25_ok _ _ (hb _ (gd_mem (by omega))) (hb _ (gd_mem hi)), Option.bind_some, wr_add1 hi (by omega)]
      refine ⟨fun h => ?_, fun h => ?_⟩
      · show F16_L1 l _ = _
        rw [e, cmpI_lt h]; rfl
      · show F16_L1 l _ = _
        rw [e]
        rcases Int.lt_or_eq_of_le (Int.not_lt.1 h) with q | q
        · rw [cmpI_gt q]; rfl
        · rw [cmpI_eq q.symm]; rfl)
    (fun i hi => by show F16_L1 l _ = _; unfold F16_L1; rw [bif_f (by simp [bLt_eq]; omega)]) with ⟨h, e⟩ | ⟨h, e⟩
  · rw [lp_inl e]
    by_cases h2 : l.length ≤ 256
    · exact .inl ⟨⟨h, h2⟩, by rw [show bLe (l.length : Int) 256 = true from by simp [bLe_eq]; omega]⟩
    · exact .inr ⟨fun q => h2 q.2, by rw [show bLe (l.length : Int) 256 = false from by simp [bLe_eq]; omega]⟩
  · rw [lp_inr e]; exact .inr ⟨fun q => h q.1, rfl⟩
/-- One step of merging. -/
noncomputable def mgS (f : Bool → Bool → Option Bool) (v1_1 : List A6u8) (v1_2 : List A6u8) (v1_3 : List A6u8) : Option (Lp ((List A6u8) × (List A6u8) × (List A6u8)) ((List A6u8) ⊕ ((List A6u8) × Int))) :=
  bif ((bLt 0 (v1_3.length : Nat)) || (bLt 0 (v1_1.length : Nat))) then (bif (bEq (v1_3.length : Nat) 0) then (need (inb 0 v1_1.length) <| need (slb 1 (v1_1.length : Nat) v1_1.length) <| (f false true).bind fun r13 => bif r13 then (need (capb 6 (v1_2.length + 1)) <| some (.next ((v1_1.drop 1), (v1_2 ++ [(gd v1_1 0)]), v1_3))) else (some (.next ((v1_1.drop 1), v1_2, v1_3)))) else (bif (bEq (v1_1.length : Nat) 0) then (need (inb 0 v1_3.length) <| need (slb 1 (v1_3.length : Nat) v1_3.length) <| (f true false).bind fun r18 => bif r18 then (need (capb 6 (v1_2.length + 1)) <| some (.next (v1_1, (v1_2 ++ [(gd v1_3 0)]), (v1_3.drop 1)))) else (some (.next (v1_1, v1_2, (v1_3.drop 1))))) else (need (inb 0 v1_3.length) <| need (inb 0 v1_1.length) <| (F24 (gd v1_3 0) (gd v1_1 0)).bind fun r23 => bif (bLe r23 0) then (need (inb 0 v1_3.length) <| need (slb 1 (v1_3.length : Nat) v1_3.length) <| bif (bLe 0 r23) then (need (inb 0 v1_1.length) <| need (slb 1 (v1_1.length : Nat) v1_1.length) <| (f (bLe r23 0) (bLe 0 r23)).bind fun r29 => bif r29 then (need (capb 6 (v1_2.length + 1)) <| some (.next ((v1_1.drop 1), (v1_2 ++ [(gd v1_1 0)]), (v1_3.drop 1)))) else (some (.next ((v1_1.drop 1), v1_2, (v1_3.drop 1))))) else ((f (bLe r23 0) (bLe 0 r23)).bind fun r32 => bif r32 then (need (capb 6 (v1_2.length + 1)) <| some (.next (v1_1, (v1_2 ++ [(gd v1_3 0)]), (v1_3.drop 1)))) else (some (.next (v1_1, v1_2, (v1_3.drop 1)))))) else (bif (bLe 0 r23) then (need (inb 0 v1_1.length) <| need (slb 1 (v1_1.length : Nat) v1_1.length) <| (f (bLe r23 0) (bLe 0 r23)).bind fun r37 => bif r37 then (need (capb 6 (v1_2.length + 1)) <| some (.next ((v1_1.drop 1), (v1_2 ++ [(gd v1_1 0)]), v1_3))) else (some (.next ((v1_1.drop 1), v1_2, v1_3)))) else ((f (bLe r23 0) (bLe 0 r23)).bind fun r40 => bif r40 then (need (capb 6 (v1_2.length + 1)) <| some (.next (v1_1, (v1_2 ++ [(A6u8.mk 0 0 0 0 0 0)]), v1_3))) else (some (.next (v1_1, v1_2, v1_3)))))))) else (some (.done (.inl v1_2)))
/-- What has been merged: S and T are behind, s and t are left. -/
def MI (kp : Bool → Bool → Bool) (S T s t out : List A6u8) : Prop :=
  (∀ x, (x ∈ S ∨ x ∈ T) → ∀ y, (y ∈ s ∨ y ∈ t) → nA x < nA y) ∧ Sr out ∧ out.length ≤ S.length + T.length ∧
    (∀ x, x ∈ out ↔ (x ∈ S ∨ x ∈ T) ∧ ∃ p q : Bool, (p = true ↔ x ∈ S) ∧ (q = true ↔ x ∈ T) ∧ kp p q = true)
theorem MI_adv {kp : Bool → Bool → Bool} {S T s t out : List A6u8} (a : A6u8) (p q : Bool) (s2 t2 : List A6u8) (h : MI kp S T s t out) (hpq : p = true ∨ q = true)
    (ha : (p = true → a ∈ s) ∧ (q = true → a ∈ t)) (hs : ∀ y, (y ∈ s2 ∨ y ∈ t2) → nA a < nA y ∧ (y ∈ s ∨ y ∈ t)) :
    MI kp (if p then S ++ [a] else S) (if q then T ++ [a] else T) s2 t2 (bif kp p q then out ++ [a] else out) := by
  obtain ⟨h1, h2, h3, h4⟩ := h
  have hat : a ∈ s ∨ a ∈ t := hpq.elim (fun e => .inl (ha.1 e)) (fun e => .inr (ha.2 e))
  have hS : ∀ x, x ∈ (if p then S ++ [a] else S) ↔ x ∈ S ∨ (p = true ∧ x = a) := by intro x; cases p <;> simp
  have hT : ∀ x, x ∈ (if q then T ++ [a] else T) ↔ x ∈ T ∨ (q = true ∧ x = a) := by intro x; cases q <;> simp
  have hna : ¬ (a ∈ S ∨ a ∈ T) := fun e => by have := h1 a e a hat; omega
  have hlt : ∀ x, (x ∈ S ∨ x ∈ T) → nA x < nA a := fun x e => h1 x e a hat
  refine ⟨fun x hx y hy => ?_, ?_, ?_, fun x => ?_⟩
  · rw [hS, hT] at hx
    obtain ⟨q1, q2⟩ := hs y hy
    rcases hx with (e | ⟨_, e⟩) | (e | ⟨_, e⟩)
    · exact h1 x (.inl e) y q2
    · rw [e]; exact q1
    · exact h1 x (.inr e) y q2
    · rw [e]; exact q1
  · cases kp p q with
    | false => exact h2
    | true =>
      refine List.pairwise_append.2 ⟨h2, List.pairwise_singleton .., fun x hx y hy => ?_⟩
      rw [List.mem_singleton.1 hy]
      exact hlt x ((h4 x).1 hx).1
  · have : (if p then S ++ [a] else S).length + (if q then T ++ [a] else T).length ≥ S.length + T.length + 1 := by
      cases p <;> cases q <;> simp at hpq ⊢ <;> omega
    cases kp p q with
    | false => show out.length ≤ _; omega
    | true => show (out ++ [a]).length ≤ _; simp only [List.length_append, List.length_singleton]; omega
  · rw [hS, hT]
    have hout : x ∈ (bif kp p q then out ++ [a] else out) ↔ x ∈ out ∨ (kp p q = true ∧ x = a) := by cases kp p q <;> simp
    rw [hout, h4]
    constructor
    · rintro (⟨e, p', q', e1, e2, e3⟩ | ⟨e1, e2⟩)
      · have hxa : x ≠ a := fun q => hna (by rw [← q]; exact e)
        exact ⟨e.elim (fun e => .inl (.inl e)) (fun e => .inr (.inl e)), p', q', by rw [e1]; simp [hxa], by rw [e2]; simp [hxa], e3⟩
      · subst e2
        refine ⟨hpq.elim (fun e => .inl (.inr ⟨e, rfl⟩)) (fun e => .inr (.inr ⟨e, rfl⟩)), p, q, ?_, ?_, e1⟩
        · have : x ∉ S := fun e => hna (.inl e)
          simp [this]
        · have : x ∉ T := fun e => hna (.inr e)
          simp [this]
    · rintro ⟨e, p', q', e1, e2, e3⟩
      by_cases hxa : x = a
      · subst hxa
        have n1 : x ∉ S := fun e => hna (.inl e)
        have n2 : x ∉ T := fun e => hna (.inr e)
        have hp : p' = p := by rw [Bool.eq_iff_iff, e1]; simp [n1]
        have hq : q' = q := by rw [Bool.eq_iff_iff, e2]; simp [n2]
        rw [hp, hq] at e3
        exact .inr ⟨e3, rfl⟩
      · refine .inl ⟨?_, p', q', by rw [e1]; simp [hxa], by rw [e2]; simp [hxa], e3⟩
        rcases e with (e | ⟨_, e⟩) | (e | ⟨_, e⟩)
        · exact .inl e
        · exact absurd e hxa
        · exact .inr e
        · exact absurd e hxa
theorem merge_ok (kp : Bool → Bool → Bool) (f : Bool → Bool → Option Bool) (hf : ∀ a b, f a b = some (kp a b)) (s0 t0 : List A6u8) (hs : Sr s0) (ht : Sr t0) (bs : AbL s0) (bt : AbL t0) (ls : s0.length ≤ 1000) (lt : t0.length ≤ 1000) :
    ∃ out, loopD (fun s => mgS f s.1 s.2.1 s.2.2) (t0, [], s0) = some (.inl out) ∧ Sr out ∧ out.length ≤ s0.length + t0.length ∧
      (∀ x, x ∈ out ↔ (x ∈ s0 ∨ x ∈ t0) ∧ ∃ p q : Bool, (p = true ↔ x ∈ s0) ∧ (q = true ↔ x ∈ t0) ∧ kp p q = true) := by
  obtain ⟨r, l1, out, rfl, o1, o2, o3⟩ := loop_inv (step := fun s => mgS f s.1 s.2.1 s.2.2)
    (fun z => ∃ S T, s0 = S ++ z.2.2 ∧ t0 = T ++ z.1 ∧ MI kp S T z.2.2 z.1 z.2.1)
    (fun r => ∃ out, r = .inl out ∧ Sr out ∧ out.length ≤ s0.length + t0.length ∧ (∀ x, x ∈ out ↔ (x ∈ s0 ∨ x ∈ t0) ∧ ∃ p q : Bool, (p = true ↔ x ∈ s0) ∧ (q = true ↔ x ∈ t0) ∧ kp p q = true))
    (fun z => z.1.length + z.2.2.length)
    (fun z hz => by
      obtain ⟨t, out, s⟩ := z
      obtain ⟨S, T, hS, hT, hM⟩ := hz
      simp only at hS hT hM
      show (∃ b, mgS f t out s = _ ∧ _) ∨ ∃ s', mgS f t out s = _ ∧ _
      have hM' := hM
      obtain ⟨m1, m2, m3, m4⟩ := hM'
      have hlen : S.length + T.length + 0 ≤ 2000 := by
        have e1 := congrArg List.length hS; have e2 := congrArg List.length hT
        rw [List.length_append] at e1 e2; omega
      have cap1 : capb 6 (out.length + 1) = true := capb_iff.2 (by omega)
      unfold mgS
      simp only [hf, Option.bind_some, cap1, need_true]
      rcases s with _ | ⟨a, s2⟩
      · rcases t with _ | ⟨b, t2⟩
        · refine .inl ⟨_, by rfl, out, rfl, m2, ?_, ?_⟩
          · rw [hS, hT]; simpa using m3
          · rw [hS, hT]; simpa using m4
        · refine .inr ⟨(t2, (bif kp false true then out ++ [b] else out), []), ?_, ⟨S, T ++ [b], hS, by rw [hT]; simp, ?_⟩, by simp only [List.length_cons, List.length_nil]; omega⟩
          · rw [bif_t (by simp [bLt_eq]), bif_t (by rfl), need_true (by simp [inb_iff]), need_true (slb_iff.2 (by simp only [List.length_cons]; omega))]
            cases kp false true <;> rfl
          · have hsr := (List.pairwise_append.1 (by rw [← hT]; exact ht)).2.1
            exact MI_adv b false true [] t2 hM (.inr rfl) ⟨fun e => absurd e (by decide), fun _ => List.mem_cons_self ..⟩ fun y hy => by
              rcases hy with e | e
              · simp at e
              · exact ⟨(List.pairwise_cons.1 hsr).1 y e, .inr (List.mem_cons_of_mem _ e)⟩
      · have hsr := (List.pairwise_append.1 (by rw [← hS]; exact hs)).2.1
        rcases t with _ | ⟨b, t2⟩
        · refine .inr ⟨([], (bif kp true false then out ++ [a] else out), s2), ?_, ⟨S ++ [a], T, by rw [hS]; simp, hT, ?_⟩, by simp only [List.length_cons, List.length_nil]; omega⟩
          · rw [bif_t (by simp [bLt_eq]), bif_f (by simp [bEq_eq]; omega), bif_t (by rfl), need_true (by simp [inb_iff]), need_true (slb_iff.2 (by simp only [List.length_cons]; omega))]
            cases kp true false <;> rfl
          · exact MI_adv a true false s2 [] hM (.inl rfl) ⟨fun _ => List.mem_cons_self .., fun e => absurd e (by decide)⟩ fun y hy => by
              rcases hy with e | e
              · exact ⟨(List.pairwise_cons.1 hsr).1 y e, .inl (List.mem_cons_of_mem _ e)⟩
              · simp at e
        · have htr := (List.pairwise_append.1 (by rw [← hT]; exact ht)).2.1
          have ha : Ab a := bs a (by rw [hS]; simp)
          have hb : Ab b := bt b (by rw [hT]; simp)
          have g1 : gd (a :: s2) 0 = a := rfl
          have g2 : gd (b :: t2) 0 = b := rfl
          rw [bif_t (by simp [bLt_eq]), bif_f (by simp [bEq_eq]; omega), bif_f (by simp [bEq_eq]; omega), need_true (by simp [inb_iff]), need_true (by simp [inb_iff]), g1, g2, F24_ok a b ha hb, Option.bind_some]
          have sl1 : slb 1 ((a :: s2).length : Nat) (a :: s2).length = true := slb_iff.2 (by simp only [List.length_cons]; omega)
          have sl2 : slb 1 ((b :: t2).length : Nat) (b :: t2).length = true := slb_iff.2 (by simp only [List.length_cons]; omega)
          have i1 : inb 0 (a :: s2).length = true := by simp [inb_iff]
          have i2 : inb 0 (b :: t2).length = true := by simp [inb_iff]
          simp only [need_true, i1, i2, sl1, sl2, List.drop_succ_cons, List.drop_zero]
          rcases Int.lt_trichotomy (nA a) (nA b) with h | h | h
          · rw [cmpI_lt h]
            refine .inr ⟨(b :: t2, (bif kp true false then out ++ [a] else out), s2), ?_, ⟨S ++ [a], T, by rw [hS]; simp, hT, ?_⟩, by simp only [List.length_cons]; omega⟩
            · show (bif bLe (-1) 0 then _ else _) = _
              rw [bif_t (by rfl), bif_f (by rfl)]
              show (bif kp true false then _ else _) = _
              cases kp true false <;> rfl
            · exact MI_adv a true false s2 (b :: t2) hM (.inl rfl) ⟨fun _ => List.mem_cons_self .., fun e => absurd e (by decide)⟩ fun y hy => by
                rcases hy with e | e
                · exact ⟨(List.pairwise_cons.1 hsr).1 y e, .inl (List.mem_cons_of_mem _ e)⟩
                · refine ⟨?_, .inr e⟩
                  rcases List.mem_cons.1 e with e | e
                  · rw [e]; exact h
                  · have := (List.pairwise_cons.1 htr).1 y e; omega
          · have hab : a = b := nA_inj ha hb h
            subst hab
            rw [cmpI_eq rfl]
            refine .inr ⟨(t2, (bif kp true true then out ++ [a] else out), s2), ?_, ⟨S ++ [a], T ++ [a], by rw [hS]; simp, by rw [hT]; simp, ?_⟩, by simp only [List.length_cons]; omega⟩
            · show (bif bLe 0 0 then _ else _) = _
              rw [bif_t (by rfl), bif_t (by rfl)]
              show (bif kp true true then _ else _) = _
              cases kp true true <;> rfl
            · exact MI_adv a true true s2 t2 hM (.inl rfl) ⟨fun _ => List.mem_cons_self .., fun _ => List.mem_cons_self ..⟩ fun y hy => by
                rcases hy with e | e
                · exact ⟨(List.pairwise_cons.1 hsr).1 y e, .inl (List.mem_cons_of_mem _ e)⟩
                · exact ⟨(List.pairwise_cons.1 htr).1 y e, .inr (List.mem_cons_of_mem _ e)⟩
          · rw [cmpI_gt h]
            refine .inr ⟨(t2, (bif kp false true then out ++ [b] else out), a :: s2), ?_, ⟨S, T ++ [b], hS, by rw [hT]; simp, ?_⟩, by simp only [List.length_cons]; omega⟩
            · show (bif bLe 1 0 then _ else _) = _
              rw [bif_f (by rfl)]
              show (bif bLe 0 1 then _ else _) = _
              rw [bif_t (by rfl)]
              show (bif kp false true then _ else _) = _
              cases kp false true <;> rfl
            · exact MI_adv b false true (a :: s2) t2 hM (.inr rfl) ⟨fun e => absurd e (by decide), fun _ => List.mem_cons_self ..⟩ fun y hy => by
                rcases hy with e | e
                · refine ⟨?_, .inl e⟩
                  rcases List.mem_cons.1 e with e | e
                  · rw [e]; exact h
                  · have := (List.pairwise_cons.1 hsr).1 y e; omega
                · exact ⟨(List.pairwise_cons.1 htr).1 y e, .inr (List.mem_cons_of_mem _ e)⟩)
    (t0, [], s0) ⟨[], [], rfl, rfl, fun x hx => by simp at hx, List.Pairwise.nil, Nat.zero_le _, fun x => by simp⟩
  exact ⟨out, l1, o1, o2, o3⟩
end Go.Proofs.Ytohkhcljklndpaa
