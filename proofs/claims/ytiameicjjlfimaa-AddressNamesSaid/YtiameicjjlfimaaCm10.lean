/-
  A machine that computes, part 10: arguments seen by who only reads; code.
-/
import Derived.Test.YtiameicjjlfimaaCm9
import Derived.LoopN
namespace Go.Am
noncomputable section
set_option linter.unusedVariables false
set_option linter.unusedSimpArgs false
variable {P : Program}

/-! ### Views -/
theorem getL_map2 (g : CV → CV) (l : List CV) (y : Nat) : (getL (toAVL (l.map g)) y = .top) ∨ ∃ a, getL (toAVL l) y = toAV a ∧ getL (toAVL (l.map g)) y = toAV (g a) := by
  by_cases hy : y < l.length
  · refine .inr ⟨l[y], getL_toAVL (List.getElem?_eq_getElem hy), getL_toAVL ?_⟩
    rw [List.getElem?_map, List.getElem?_eq_getElem hy]; rfl
  · exact .inl (getL_ge (by rw [toAVL_length, List.length_map]; omega))
theorem rC_map2 (g : CV → CV) (d : List (List CV)) (x y : Nat) : (rC (toAVR (d.map fun a => a.map g)) x y = .top) ∨ ∃ a, rC (toAVR d) x y = toAV a ∧ rC (toAVR (d.map fun a => a.map g)) x y = toAV (g a) := by
  unfold rC
  induction d generalizing x with
  | nil => exact .inl rfl
  | cons a d ih => cases x with
    | zero => simp only [List.map_cons, toAVR, getR]; exact getL_map2 g a y
    | succ x => simp only [List.map_cons, toAVR, getR]; exact ih x
theorem croV_nref (n : Nat) (h : Hp) : ∀ (k : Nat) (v : CV), nref (toAV (croV n h k v)) := by
  intro k
  induction k with
  | zero => intro v; simp only [croV, toAV, nref]
  | succ k ih =>
    intro v
    have lst : ∀ l : List CV, nrefL (toAVL (l.map (croV n h k))) := by
      intro l
      induction l with
      | nil => simp only [List.map_nil, toAVL, nrefL]
      | cons a l il => simp only [List.map_cons, toAVL, nrefL]; exact ⟨ih a, il⟩
    unfold croV
    split
    · split
      · split
        · simp only [toAV, nref]
        · split <;> simp only [toAV, nref]
        · simp only [toAV, nref]
      · simp only [toAV, nref]
    · split
      · split
        · split <;> simp only [toAV, nref]
        · simp only [toAV, nref]
      · simp only [toAV, nref]
    · split <;> simp only [toAV, nref]
    · simp only [toAV, nref]; exact lst _
    · simp only [toAV, nref]; exact lst _
    · simp only [toAV, nref]; exact lst _
    · simp only [toAV, nref]
    · rename_i h1 h2 h3 h4 h5 h6 h7
      cases v with
      | ptr b es i j => exact absurd rfl (h1 _ _ _ _)
      | sl b es i m nl => exact absurd rfl (h2 _ _ _ _ _)
      | isl b es i j z m => exact absurd rfl (h3 _ _ _ _ _ _)
      | agg l => exact absurd rfl (h4 _)
      | tup l => exact absurd rfl (h5 _)
      | fn f l => exact absurd rfl (h6 _ _)
      | opt g v => exact absurd rfl (h7 _ _)
      | _ => simp only [toAV, nref]
theorem vw_ro {E : Env} {z n cap : Nat} {nl : Bool} {c : Nat → Nat → AV} {a : Option Addr} (hn : n ≤ cap) (hcm : cap ≤ maxLen) (hnl : nl = a.isNone) (hz : a = none → cap = 0)
    (main : 0 < n → ∃ k o, a = some ⟨k, o, none⟩ ∧ k < E.w.heap.size ∧ ∀ x y, x < n → y < z → ∃ u, E.w.cell? ⟨k, o + x * z + y, none⟩ = some u ∧ u.oneCell' = true ∧ VR E.view (c x y) u)
    (hrf : ∀ x y, x < n → y < z → nref (c x y)) : VR E.view (.ro z n nl c) (.slice a n cap) := by
  refine .ro z n nl c a cap hn hcm hnl hz (fun x y => cellOf E.w (x * z + y) a) (fun hp => ?_) (fun x y hx hy => ?_) (fun x y hx hy => ?_) hrf
  · obtain ⟨k, o, rfl, g2, g3⟩ := main hp
    refine ⟨k, o, rfl, g2, fun x y hx hy => ?_⟩
    obtain ⟨u, q1, _, _⟩ := g3 x y hx hy
    show E.w.cell? _ = _
    rw [q1, cellOf, show (⟨k, o, none⟩ : Addr).add (x * z + y) = ⟨k, o + x * z + y, none⟩ from by simp [Addr.add, Nat.add_assoc], q1]; rfl
  · obtain ⟨k, o, rfl, g2, g3⟩ := main (by omega)
    obtain ⟨u, q1, q2, _⟩ := g3 x y hx hy
    rw [cellOf, show (⟨k, o, none⟩ : Addr).add (x * z + y) = ⟨k, o + x * z + y, none⟩ from by simp [Addr.add, Nat.add_assoc], q1]; exact q2
  · obtain ⟨k, o, rfl, g2, g3⟩ := main (by omega)
    obtain ⟨u, q1, _, q3⟩ := g3 x y hx hy
    rw [cellOf, show (⟨k, o, none⟩ : Addr).add (x * z + y) = ⟨k, o + x * z + y, none⟩ from by simp [Addr.add, Nat.add_assoc], q1]; exact q3
theorem croV_ok {E : Env} {n : Nat} {h : Hp} (R : HR E (H n h)) : ∀ (k : Nat) (v : CV) (u : Value), VR E (toAV v) u → VR E.view (toAV (croV n h k v)) u := by
  have K := view_K R
  intro k
  induction k with
  | zero => intro v u hv; simp only [croV, toAV]; exact .top _
  | succ k ih =>
    intro v u hv
    have lst : ∀ (l : List CV) (vs : Array Value), (toAVL l).length = vs.size → (∀ (i : Nat) (a : AV) (v : Value), (toAVL l)[i]? = some a → vs[i]? = some v → VR E a v) →
        (toAVL (l.map (croV n h k))).length = vs.size ∧ ∀ (i : Nat) (a : AV) (v : Value), (toAVL (l.map (croV n h k)))[i]? = some a → vs[i]? = some v → VR E.view a v := by
      intro l vs hl hh
      refine ⟨by rw [toAVL_length, List.length_map, ← hl, toAVL_length], fun i a v ha hv => ?_⟩
      rw [toAVL_map, List.map_map, List.getElem?_map] at ha
      cases hi : l[i]? with
      | none => rw [hi] at ha; cases ha
      | some c =>
        rw [hi] at ha
        simp only [Option.map_some, Option.some.injEq, Function.comp] at ha
        subst ha
        exact ih c v (hh i (toAV c) v (by rw [toAVL_map, List.getElem?_map, hi]; rfl) hv)
    have cel : ∀ {c : AV} {a : CV} {u : Value}, VR E (toAV a) u → (c = .top ∨ c = toAV (croV n h k a)) → VR E.view c u := by
      rintro c a u hu (rfl | rfl)
      · exact .top _
      · exact ih a u hu
    have fix : nref (toAV v) → VR E.view (toAV v) u := fun hn => hv.view K hn
    unfold croV
    split
    · rename_i b es i j
      split
      · rename_i hb
        have hb := nblt.1 hb
        have hgt := H_get (f := h) hb
        simp only [toAV] at hv
        generalize hu : u = u0 at hv
        cases hv with
        | ptr b es i j kk o hσ =>
        split
        · rename_i e l hg
          rw [hg] at hgt
          simp only [toB] at hgt
          have hown := own_lit R hgt hσ
          have hlt : kk < E.w.heap.size := (R.blk b _ (geth_some (h := H n h) (b := b) (by rw [hgt]; simp))).lt (by rw [hgt]; simp) hσ
          simp only [toAV, toAVR, List.length_cons, List.length_nil]
          rw [show o + i * es + j = o + 0 * l.length + (i * es + j) from by omega]
          have h1 : ∀ y, y < l.length → ∃ u, E.w.cell? ⟨kk, o + y, none⟩ = some u ∧ u.oneCell' = true ∧ VR E.view (getL (toAVL (l.map (croV n h k))) y) u := by
            intro y hy
            obtain ⟨u, q1, q2, q3⟩ := hown y (by rw [toAVL_length]; exact hy)
            refine ⟨u, q1, q2, ?_⟩
            rcases getL_map2 (croV n h k) l y with h' | ⟨a, h1, h2⟩
            · rw [h']; exact .top _
            · rw [h2]; rw [h1] at q3; exact ih a u q3
          have hnr : ∀ y, nref (getL (toAVL (l.map (croV n h k))) y) := by
            intro y
            rcases getL_map2 (croV n h k) l y with h' | ⟨a, h1, h2⟩
            · rw [h']; simp only [nref]
            · rw [h2]; exact croV_nref n h k a
          refine .rptr l.length 1 0 (i * es + j) kk o _ (fun x y => (E.w.cell? ⟨kk, o + y, none⟩).getD undef) hlt (fun x y hx hy => ?_) (fun x y hx hy => ?_) (fun x y hx hy => ?_) (fun x y hx hy => ?_)
          · obtain ⟨u, q1, _, _⟩ := h1 y hy
            have hx : x = 0 := by omega
            subst hx
            rw [show o + 0 * l.length + y = o + y from by omega]
            show E.w.cell? _ = _
            rw [q1]; rfl
          · obtain ⟨u, q1, q2, _⟩ := h1 y hy
            rw [q1]; exact q2
          · obtain ⟨u, q1, _, q3⟩ := h1 y hy
            have hx : x = 0 := by omega
            subst hx
            rw [q1]; exact q3
          · have hx : x = 0 := by omega
            subst hx
            exact hnr y
        · rename_i e es' r hg
          split
          · rename_i he
            have he := nbeq_iff.1 he
            subst he
            rw [hg] at hgt
            simp only [toB] at hgt
            have hown := own_row R hgt hσ
            have hlt : kk < E.w.heap.size := (R.blk b _ (geth_some (h := H n h) (b := b) (by rw [hgt]; simp))).lt (by rw [hgt]; simp) hσ
            simp only [toAV, List.length_map]
            refine .rptr es' r.length i j kk o _ (fun x y => (E.w.cell? ⟨kk, o + x * es' + y, none⟩).getD undef) hlt (fun x y hx hy => ?_) (fun x y hx hy => ?_) (fun x y hx hy => ?_) (fun x y hx hy => ?_)
            · obtain ⟨u, q1, _, _⟩ := hown x y hx hy
              show E.w.cell? _ = _
              rw [q1]; rfl
            · obtain ⟨u, q1, q2, _⟩ := hown x y hx hy
              rw [q1]; exact q2
            · obtain ⟨u, q1, _, q3⟩ := hown x y hx hy
              rw [q1]
              rcases rC_map2 (croV n h k) r x y with h' | ⟨a, h1, h2⟩
              · rw [h']; exact .top _
              · rw [h2]; rw [h1] at q3; exact ih a u q3
            · rcases rC_map2 (croV n h k) r x y with h' | ⟨a, h1, h2⟩
              · rw [h']; simp only [nref]
              · rw [h2]; exact croV_nref n h k a
          · simp only [toAV]; exact .top _
        · simp only [toAV]; exact .top _
      · simp only [toAV]; exact .top _
    · rename_i b es i m nl
      split
      · rename_i hb
        have hb := nblt.1 hb
        have hgt := H_get (f := h) hb
        simp only [toAV] at hv
        cases hv with
        | sl b es i m nl a cap hn hcm hnl hz hc =>
        split
        · rename_i e es' r hg
          split
          · rename_i d he hd
            have he := nbeq_iff.1 he
            subst he
            rw [hg] at hgt
            simp only [toB] at hgt
            obtain ⟨p1, p2, p3⟩ := partR_ok hd
            simp only [toAV, List.length_map, p1]
            refine vw_ro hn hcm hnl hz (fun hp => ?_) (fun x y hx hy => ?_)
            · obtain ⟨kk, o, cs, e', g1, g2, g3, g4⟩ := hc (by omega)
              refine ⟨kk, o + i * es', g2, lt_of_some g3, fun x y hx hy => ?_⟩
              obtain ⟨u, q1, q2, q3⟩ := own_row R hgt g1 (i + x) y (by omega) hy
              refine ⟨u, by rw [← q1, Nat.add_mul]; congr 2; omega, q2, ?_⟩
              have e1 : rC (toAVR d) x y = rC (toAVR r) (i + x) y := by simp only [rC, p3 x hx]
              rcases rC_map2 (croV n h k) d x y with h' | ⟨a, h1, h2⟩
              · rw [h']; exact .top _
              · rw [h2]; rw [← e1, h1] at q3; exact ih a u q3
            · rcases rC_map2 (croV n h k) d x y with h' | ⟨a, h1, h2⟩
              · rw [h']; simp only [nref]
              · rw [h2]; exact croV_nref n h k a
          · simp only [toAV]; exact .top _
        · simp only [toAV]; exact .top _
      · simp only [toAV]; exact .top _
    · rename_i b es i j z m
      split
      · rename_i d hd
        simp only [toAV] at hv
        cases hv with
        | isl b es i j z m cap kk o hn hcm hσ =>
        unfold cSrc at hd
        simp only at hd
        split at hd
        · rename_i hk
          rw [Bool.and_eq_true, nblt, nbeq_iff] at hk
          obtain ⟨hb, _⟩ := hk
          have hgt := H_get (f := h) hb
          have fin : ∀ (d : List (List CV)), d.length = m → kk < E.w.heap.size → (∀ x y, x < m → y < z → ∃ u, E.w.cell? ⟨kk, o + i * es + j + x * z + y, none⟩ = some u ∧ u.oneCell' = true ∧ VR E (rC (toAVR d) x y) u) →
              VR E.view (toAV (.ro z false (d.map fun a => a.map (croV n h k)))) (.slice (some ⟨kk, o + i * es + j, none⟩) m cap) := by
            intro d hdl hkk hc
            simp only [toAV, List.length_map, hdl]
            refine vw_ro hn hcm rfl (fun h0 => by cases h0) (fun hp => ⟨kk, _, rfl, hkk, fun x y hx hy => ?_⟩) (fun x y hx hy => ?_)
            · obtain ⟨u, q1, q2, q3⟩ := hc x y hx hy
              refine ⟨u, q1, q2, ?_⟩
              rcases rC_map2 (croV n h k) d x y with h' | ⟨a, h1, h2⟩
              · rw [h']; exact .top _
              · rw [h2]; rw [h1] at q3; exact ih a u q3
            · rcases rC_map2 (croV n h k) d x y with h' | ⟨a, h1, h2⟩
              · rw [h']; simp only [nref]
              · rw [h2]; exact croV_nref n h k a
          split at hd
          · rename_i e l hg
            split at hd
            · rename_i dd hdd
              obtain ⟨rfl, d2⟩ := dropN_ok hdd
              obtain ⟨p1, p2, p3⟩ := chunkR_ok hd
              rw [hg] at hgt
              simp only [toB] at hgt
              have hlt : kk < E.w.heap.size := (R.blk b _ (geth_some (h := H n h) (b := b) (by rw [hgt]; simp))).lt (by rw [hgt]; simp) hσ
              refine fin d p1 hlt fun x y hx hy => ?_
              have h1 := split_lt hx hy
              rw [List.length_drop] at p2
              obtain ⟨u, q1, q2, q3⟩ := own_lit R hgt hσ (i * es + j + x * z + y) (by rw [toAVL_length]; omega)
              refine ⟨u, by rw [← q1]; congr 2; omega, q2, ?_⟩
              rw [p3 x y hx hy, getL_drop, show i * es + j + (x * z + y) = i * es + j + x * z + y from by omega]
              exact q3
            · cases hd
          · rename_i e es' r hg
            split at hd
            · rename_i he
              rw [Bool.and_eq_true, nbeq_iff, nble_iff] at he
              obtain ⟨rfl, he2⟩ := he
              split at hd
              · rename_i a ha
                split at hd
                · rename_i dd hdd
                  obtain ⟨rfl, d2⟩ := dropN_ok hdd
                  obtain ⟨p1, p2, p3⟩ := chunkR_ok hd
                  rw [hg] at hgt
                  simp only [toB] at hgt
                  have hlt : kk < E.w.heap.size := (R.blk b _ (geth_some (h := H n h) (b := b) (by rw [hgt]; simp))).lt (by rw [hgt]; simp) hσ
                  refine fin d p1 hlt fun x y hx hy => ?_
                  have h1 := split_lt hx hy
                  obtain ⟨u, q1, q2, q3⟩ := own_row R hgt hσ i (j + x * z + y) (rowAt_ok ha).1 (by omega)
                  refine ⟨u, by rw [← q1]; congr 2; omega, q2, ?_⟩
                  rw [rC_row ha] at q3
                  rw [p3 x y hx hy, getL_drop, show j + (x * z + y) = j + x * z + y from by omega]
                  exact q3
                · cases hd
              · cases hd
            · cases hd
          · cases hd
        · cases hd
      · simp only [toAV]; exact .top _
    · rename_i l
      simp only [toAV] at hv
      cases hv with
      | agg l vs hl h1 hh =>
      simp only [toAV]
      obtain ⟨q1, q2⟩ := lst _ _ hl hh
      exact .agg _ _ q1 h1 q2
    · rename_i l
      simp only [toAV] at hv
      cases hv with
      | tup l vs hl hh =>
      simp only [toAV]
      obtain ⟨q1, q2⟩ := lst _ _ hl hh
      exact .tup _ _ q1 q2
    · rename_i f l
      simp only [toAV] at hv
      cases hv with
      | fn f l vs hl hh =>
      simp only [toAV]
      obtain ⟨q1, q2⟩ := lst _ _ hl hh
      exact .fn f _ _ q1 q2
    · simp only [toAV]; exact .top _
    · have := croV_nref n h (k + 1) v
      rename_i h1 h2 h3 h4 h5 h6 h7
      refine fix ?_
      cases v with
      | ptr b es i j => exact absurd rfl (h1 _ _ _ _)
      | sl b es i m nl => exact absurd rfl (h2 _ _ _ _ _)
      | isl b es i j z m => exact absurd rfl (h3 _ _ _ _ _ _)
      | agg l => exact absurd rfl (h4 _)
      | tup l => exact absurd rfl (h5 _)
      | fn f l => exact absurd rfl (h6 _ _)
      | opt g v => exact absurd rfl (h7 _ _)
      | _ => simp only [toAV, nref]
theorem croL_ok {E : Env} {n : Nat} {h : Hp} (R : HR E (H n h)) (k : Nat) {l : List CV} {vs : Array Value} (F : FR E (toAVL l) vs) : FR E.view (toAVL (l.map (croV n h k))) vs := by
  refine ⟨by rw [toAVL_length, List.length_map, ← F.1, toAVL_length], fun i a v ha hv => ?_⟩
  rw [toAVL_map, List.map_map, List.getElem?_map] at ha
  cases hi : l[i]? with
  | none => rw [hi] at ha; cases ha
  | some c =>
    rw [hi] at ha
    simp only [Option.map_some, Option.some.injEq, Function.comp] at ha
    subst ha
    exact croV_ok R k c v (F.2 i (toAV c) v (by rw [toAVL_map, List.getElem?_map, hi]; rfl) hv)
end
end Go.Am
