/-
  A machine that computes, part 5: building, growing; all operations but calls.
-/
import Derived.Test.YtiameicjjlfimaaCm4
namespace Go.Am
noncomputable section
set_option linter.unusedVariables false
set_option linter.unusedSimpArgs false

theorem bwk_row {e : TypeId} {es n : Nat} {c d : Nat → Nat → AV} (h : ∀ x y, x < n → y < es → c x y = d x y) : BWk (.row e es n c) (.row e es n d) := by
  refine ⟨fun _ => by simp, fun E b hb => ?_⟩
  unfold BR at hb ⊢
  cases hs : E.σ b with
  | none => rw [hs] at hb; exact hb
  | some p =>
    rw [hs] at hb
    obtain ⟨cs, h2, h3, h4⟩ := hb
    exact ⟨cs, h2, h3, fun x y hx hy => by obtain ⟨v, q1, q2, q3⟩ := h4 x y hx hy; exact ⟨v, q1, q2, by rw [h x y hx hy]; exact q3⟩⟩
theorem hwk_push {h : List ABlk} {x y : ABlk} (hw : BWk x y) : HWk (h ++ [x]) (h ++ [y]) := by
  refine ⟨by simp, fun i hi => ?_⟩
  rw [geth_getD, geth_getD]
  rcases Nat.lt_or_ge i h.length with h' | h'
  · rw [List.getElem?_append_left h', List.getElem?_append_left h']; exact .refl _
  · have : i = h.length := by simp at hi; omega
    subst this
    simp only [List.getElem?_append_right (Nat.le_refl _), Nat.sub_self, List.getElem?_cons_zero, Option.getD_some]
    exact hw

/-! ### Building -/
abbrev Parts := List (Nat × Nat × CV)
def toP : Parts → List (Nat × Nat × AV)
  | [] => []
  | (o, z, v) :: r => (o, z, toAV v) :: toP r
def cfill : List CV → Parts → Option (List CV)
  | l, [] => some l
  | l, (off, z, v) :: r => match ccells v with
    | [] => none
    | c :: cs => match Nat.beq (c :: cs).length z && cvOk v with
      | true => match lput l off (c :: cs) with
        | some l' => cfill l' r
        | none => none
      | false => none
theorem cfill_ok : ∀ {ps : Parts} {l l' : List CV}, cfill l ps = some l' → fillOk l.length (toP ps) = true ∧ toAVL l' = fillA (toAVL l) (toP ps) := by
  intro ps
  induction ps with
  | nil => intro l l' h; simp only [cfill, Option.some.injEq] at h; subst h; exact ⟨rfl, rfl⟩
  | cons p ps ih =>
    intro l l' h
    obtain ⟨off, z, v⟩ := p
    simp only [cfill] at h
    split at h
    · cases h
    · rename_i c cs hcs
      split at h
      · rename_i hk
        rw [Bool.and_eq_true, nbeq_iff] at hk
        split at h
        · rename_i l2 hl
          obtain ⟨q1, q2, q3⟩ := lput_ok hl (by simp)
          obtain ⟨c1, c2⟩ := ccells_ok v
          obtain ⟨i1, i2⟩ := ih h
          rw [hcs] at c1
          refine ⟨?_, ?_⟩
          · simp only [toP, fillOk, c1, c2, toAVL_length, hk.1, hk.2, beq_self_eq_true, Bool.true_and, Bool.and_true]
            rw [← q3, i1, Bool.and_true, decide_eq_true_eq]
            rw [q3]; rw [hk.1] at q2; exact q2
          · simp only [toP, fillA, c1]
            rw [i2, q1]
        · cases h
      · cases h
def cplaceS (pl : List (Nat × Nat)) (n : Nat) (f : Fr) : List (Nat × Operand) → Option Parts
  | [] => some []
  | (i, x) :: r => match getP pl i, crho n f x with
    | some (off, z), some v => match cplaceS pl n f r with
      | some l => some ((off, z, v) :: l)
      | none => none
    | _, _ => none
theorem cplaceS_ok {pl : List (Nat × Nat)} {n : Nat} {f : Fr} : ∀ {l : List (Nat × Operand)} {ps : Parts}, cplaceS pl n f l = some ps → placeS pl (rho (T n f)) l = some (toP ps) ∧ ogP (T n f) l := by
  intro l
  induction l with
  | nil => intro ps h; simp only [cplaceS, Option.some.injEq] at h; subst h; exact ⟨rfl, trivial⟩
  | cons p l ih =>
    intro ps h
    obtain ⟨i, x⟩ := p
    simp only [cplaceS] at h
    split at h
    · rename_i off z v hp hv
      split at h
      · rename_i l' hl
        injection h with h; subst h
        obtain ⟨q1, q2⟩ := ih hl
        obtain ⟨r1, r2⟩ := crho_ok hv
        exact ⟨by simp only [placeS, hp, q1, r1, toP], r2, q2⟩
      · cases h
    · cases h
def cplaceA (z : Nat) (n : Nat) (f : Fr) : List (Nat × Operand) → Option Parts
  | [] => some []
  | (i, x) :: r => match crho n f x with
    | some v => match cplaceA z n f r with
      | some l => some ((i * z, z, v) :: l)
      | none => none
    | none => none
theorem cplaceA_ok {z : Nat} {n : Nat} {f : Fr} : ∀ {l : List (Nat × Operand)} {ps : Parts}, cplaceA z n f l = some ps → placeA z (rho (T n f)) l = toP ps ∧ ogP (T n f) l := by
  intro l
  induction l with
  | nil => intro ps h; simp only [cplaceA, Option.some.injEq] at h; subst h; exact ⟨rfl, trivial⟩
  | cons p l ih =>
    intro ps h
    obtain ⟨i, x⟩ := p
    simp only [cplaceA] at h
    split at h
    · rename_i v hv
      split at h
      · rename_i l' hl
        injection h with h; subst h
        obtain ⟨q1, q2⟩ := ih hl
        obtain ⟨r1, r2⟩ := crho_ok hv
        exact ⟨by simp only [placeA, q1, r1, toP], r2, q2⟩
      · cases h
    · cases h
def cBuild (pl : Option (List (Nat × Nat))) (ar : Option (Nat × TypeId)) (z : Option Nat) (zero : Option (List CV)) (n : Nat) (f : Fr) (ps : List (Nat × Operand)) : Option CV := match zero with
  | some l => match pl with
    | some pl => match cplaceS pl n f ps with
      | some q => match cfill l q with
        | some l' => some (.agg l')
        | none => none
      | none => none
    | none => match ar, z with
      | some _, some z => match cplaceA z n f ps with
        | some q => match cfill l q with
          | some l' => some (.agg l')
          | none => none
        | none => none
      | _, _ => none
  | none => none
theorem cBuild_ok {pl : Option (List (Nat × Nat))} {ar : Option (Nat × TypeId)} {z : Option Nat} {zero : Option (List CV)} {n : Nat} {f : Fr} {ps : List (Nat × Operand)} {v : CV} (h : cBuild pl ar z zero n f ps = some v) :
    ∃ ob, evBuild pl ar z (zero.map toAVL) (rho (T n f)) ps = .pure ob (toAV v) ∧ ob ∧ ogP (T n f) ps := by
  unfold cBuild at h
  split at h
  · rename_i l
    split at h
    · split at h
      · rename_i q hq
        split at h
        · rename_i l' hl
          injection h with h; subst h
          obtain ⟨q1, q2⟩ := cplaceS_ok hq
          obtain ⟨r1, r2⟩ := cfill_ok hl
          exact ⟨True, by simp only [evBuild, evBuildP, Option.map_some, q1, toAVL_length, r1, cond_true, toAV, r2], trivial, q2⟩
        · cases h
      · cases h
    · split at h
      · split at h
        · rename_i q hq
          split at h
          · rename_i l' hl
            injection h with h; subst h
            obtain ⟨q1, q2⟩ := cplaceA_ok hq
            obtain ⟨r1, r2⟩ := cfill_ok hl
            exact ⟨True, by simp only [evBuild, evBuildP, Option.map_some, q1, toAVL_length, r1, cond_true, toAV, r2], trivial, q2⟩
          · cases h
        · cases h
      · cases h
  · cases h
def crep (l : List CV) : Nat → List CV
  | 0 => []
  | n + 1 => l ++ crep l n
theorem crep_ok (l : List CV) (n : Nat) : toAVL (crep l n) = repL (toAVL l) n ∧ (crep l n).length = n * l.length := by
  induction n with
  | zero => simp [crep, repL, toAVL]
  | succ n ih => exact ⟨by simp only [crep, repL, toAVL_append, ih.1], by simp only [crep, List.length_append, ih.2, Nat.succ_mul]; omega⟩
def cBuildSlice (e : Option TypeId) (z : Option Nat) (zero : Option (List CV)) (len : Nat) (n : Nat) (f : Fr) (ps : List (Nat × Operand)) : Option (Nat × CB) := match e, z, zero with
  | some e, some z, some l => match Nat.beq l.length z && Nat.ble 1 z && Nat.ble (len * z) 4096 with
    | true => match cplaceA z n f ps with
      | some q => match cfill (crep l len) q with
        | some l' => match chunkR z len l' with
          | some r => some (z, .row e z r)
          | none => none
        | none => none
      | none => none
    | false => none
  | _, _, _ => none
theorem cBuildSlice_ok {e : Option TypeId} {z : Option Nat} {zero : Option (List CV)} {len : Nat} {n : Nat} {f : Fr} {ps : List (Nat × Operand)} {zz : Nat} {x : CB} (h : cBuildSlice e z zero len n f ps = some (zz, x)) (g : List ABlk) :
    ∃ ob y, evBuildSlice e z (zero.map toAVL) len (rho (T n f)) ps g = .heap ob (.sl g.length zz 0 len false) (g ++ [y]) ∧ ob ∧ ogP (T n f) ps ∧ BWk (toB x) y := by
  unfold cBuildSlice at h
  split at h
  · rename_i e z l
    split at h
    · rename_i hk
      simp only [Bool.and_eq_true, nbeq_iff, nble_iff] at hk
      obtain ⟨⟨h1, h2⟩, h3⟩ := hk
      split at h
      · rename_i q hq
        split at h
        · rename_i l' hl
          split at h
          · rename_i r hr
            injection h with h; cases h
            obtain ⟨q1, q2⟩ := cplaceA_ok hq
            obtain ⟨r1, r2⟩ := cfill_ok hl
            obtain ⟨c1, c2⟩ := crep_ok l len
            obtain ⟨s1, s2, s3⟩ := chunkR_ok hr
            refine ⟨True, .row e zz len (litC zz (fillA (repL (toAVL l) len) (toP q))), ?_, trivial, q2, ?_⟩
            · simp only [evBuildSlice, Option.map_some, toAVL_length, h1, beq_self_eq_true, q1, Bool.true_and]
              rw [show decide (1 ≤ zz) = true from by simpa using h2, show decide (len * zz ≤ 4096) = true from by simpa using h3]
              rw [c2, h1] at r1
              simp only [r1, Bool.true_and, cond_true]
            · simp only [toB, s1]
              refine bwk_row fun a y ha hy => ?_
              rw [s3 a y ha hy, r2, c1]
              rfl
          · cases h
        · cases h
      · cases h
    · cases h
  · cases h
def repRows (l : List CV) : Nat → List (List CV)
  | 0 => []
  | n + 1 => l :: repRows l n
theorem repRows_ok (l : List CV) (n : Nat) : (repRows l n).length = n ∧ ∀ x y, x < n → rC (toAVR (repRows l n)) x y = getL (toAVL l) y := by
  induction n with
  | zero => simp [repRows]
  | succ n ih =>
    refine ⟨by simp [repRows, ih.1], fun x y hx => ?_⟩
    cases x with
    | zero => simp only [rC, repRows, toAVR, getR]
    | succ x => simpa [rC, repRows, toAVR, getR] using ih.2 x y (by omega)
def cMake (e : Option TypeId) (z by_ : Option Nat) (zero : Option (List CV)) (m c : CV) : Option (Nat × Nat × CB) := match e, z, by_, zero, m, c with
  | some e, some z, some by_, some l, .int .i64 (.ofNat m), .int .i64 (.ofNat c) => match Nat.beq l.length z && Nat.ble 1 z && Nat.ble m c && Nat.ble (by_ * c) 140737488355328 && Nat.ble c 140737488355328 with
    | true => some (m, z, .row e z (repRows l m))
    | false => none
  | _, _, _, _, _, _ => none
theorem cMake_ok {e : Option TypeId} {z by_ : Option Nat} {zero : Option (List CV)} {m c : CV} {q zz : Nat} {x : CB} (h : cMake e z by_ zero m c = some (q, zz, x)) (g : List ABlk) :
    ∃ ob y, evMake e z by_ (zero.map toAVL) (toAV m) (toAV c) g = .heap ob (.sl g.length zz 0 q false) (g ++ [y]) ∧ ob ∧ BWk (toB x) y := by
  unfold cMake at h
  split at h
  · rename_i e z by_ l m c
    split at h
    · rename_i hk
      simp only [Bool.and_eq_true, nbeq_iff, nble_iff] at hk
      obtain ⟨⟨⟨⟨h1, h2⟩, h3⟩, h4⟩, h5⟩ := hk
      injection h with h; cases h
      obtain ⟨r1, r2⟩ := repRows_ok l q
      refine ⟨(0 : Int) ≤ (q : Int) ∧ (q : Int) ≤ (c : Int) ∧ (by_ : Int) * (c : Int) ≤ 140737488355328 ∧ (c : Int) ≤ 140737488355328, .row e zz q (fun _ y => getL (toAVL l) y), ?_, ?_, ?_⟩
      · simp only [evMake, Option.map_some, toAV, toAVL_length, h1, beq_self_eq_true, Bool.true_and, Int.ofNat_eq_natCast, Int.toNat_natCast]
        rw [show decide (1 ≤ zz) = true from by simpa using h2]
        simp only [cond_true]
      · refine ⟨Int.natCast_nonneg _, by omega, ?_, by omega⟩
        have : ((by_ * c : Nat) : Int) ≤ 140737488355328 := by omega
        simpa using this
      · simp only [toB, r1]
        exact bwk_row fun a y ha hy => r2 a y ha
    · cases h
  · cases h
/-- What 'append' gives: the slice, the new block, the block given up. -/
def cAppend (st : Option TypeId) (xi : Bool) (z by_ zn : Option Nat) (s x : CV) (n : Nat) (h : Hp) : Option (CV × Nat × Hp) := match st, z, by_, zn with
  | some e, some z, some by_, some zn => match xi && Nat.ble 1 z && Nat.beq zn z, cSrc z x n h with
    | true, some rows => match s with
      | .ro 0 true [] => match Nat.ble (rows.length * by_) 140737488355328 && Nat.ble rows.length 140737488355328 with
        | true => match cnew (.row e z rows) n h with
          | some h' => some (.sl n z 0 rows.length (Nat.beq rows.length 0), n + 1, h')
          | none => none
        | false => none
      | .emp => match Nat.ble (rows.length * by_) 140737488355328 && Nat.ble rows.length 140737488355328 && Nat.ble 1 rows.length with
        | true => match cnew (.row e z rows) n h with
          | some h' => some (.sl n z 0 rows.length false, n + 1, h')
          | none => none
        | false => none
      | .sl b es i k nl => match Nat.blt b n && Nat.ble n 4096 && Nat.beq es z with
        | true => match hget h b with
          | .row e' es' r => match Nat.beq e' e && Nat.beq es' z, partR i k r with
            | true, some r1 => match Nat.ble ((k + rows.length) * by_) 140737488355328 && Nat.ble (k + rows.length) 140737488355328 with
              | true => match cnew (.row e z (r1 ++ rows)) n (hset h b .dead) with
                | some h' => some (.sl n z 0 (k + rows.length) (nl && Nat.beq rows.length 0), n + 1, h')
                | none => none
              | false => none
            | _, _ => none
          | _ => none
        | false => none
      | _ => none
    | _, _ => none
  | _, _, _, _ => none
theorem mulInt {a b c : Nat} (h : a * b ≤ c) : (a : Int) * (b : Int) ≤ (c : Int) := by
  have : ((a * b : Nat) : Int) ≤ (c : Int) := by omega
  simpa using this
theorem cAppend_ok {st : Option TypeId} {xi : Bool} {z by_ zn : Option Nat} {s x v : CV} {n n' : Nat} {h h' : Hp} (hc : cAppend st xi z by_ zn s x n h = some (v, n', h')) :
    ∃ ob g, evAppend st xi z by_ zn (toAV s) (toAV x) (H n h) = .heap ob (toAV v) g ∧ ob ∧ HWk (H n' h') g := by
  unfold cAppend at hc
  split at hc
  · rename_i e z by_ zn
    split at hc
    · rename_i rows hk hs
      simp only [Bool.and_eq_true, nbeq_iff, nble_iff] at hk
      obtain ⟨⟨h1, h2⟩, h3⟩ := hk
      obtain ⟨so, sm, sc, s1, s2, s3, s4⟩ := cSrc_ok hs
      have hev : ∀ s', evAppend (some e) xi (some z) (some by_) (some zn) s' (toAV x) (H n h) = appRes e z by_ s' (some ⟨so, sm, sc⟩) (H n h) := by
        intro s'
        simp only [evAppend, h1, h3, beq_self_eq_true, s1, Bool.and_true, Bool.true_and]
        rw [show decide (1 ≤ z) = true from by simpa using h2]
        rfl
      subst s3
      split at hc
      · split at hc
        · rename_i hk
          simp only [Bool.and_eq_true, nble_iff] at hk
          split at hc
          · rename_i h2 hn
            injection hc with hc; cases hc
            refine ⟨so ∧ ((rows.length : Nat) : Int) * (by_ : Int) ≤ 140737488355328 ∧ rows.length ≤ 140737488355328, H n h ++ [.row e z rows.length sc], ?_, ⟨s2, mulInt hk.1, hk.2⟩, ?_⟩
            · rw [hev]
              simp only [toAV, appRes, toAVR, List.length_nil, H_length, nbeq]
            · rw [← cnew_ok hn]
              refine hwk_push ?_
              simp only [toB]
              exact bwk_row s4
          · cases hc
        · cases hc
      · split at hc
        · rename_i hk
          simp only [Bool.and_eq_true, nble_iff] at hk
          split at hc
          · rename_i h2 hn
            injection hc with hc; cases hc
            refine ⟨so ∧ ((rows.length : Nat) : Int) * (by_ : Int) ≤ 140737488355328 ∧ 0 < rows.length ∧ rows.length ≤ 140737488355328, H n h ++ [.row e z rows.length sc], ?_, ⟨s2, mulInt hk.1.1, hk.2, hk.1.2⟩, ?_⟩
            · rw [hev]
              simp only [toAV, appRes, H_length]
            · rw [← cnew_ok hn]
              refine hwk_push ?_
              simp only [toB]
              exact bwk_row s4
          · cases hc
        · cases hc
      · rename_i b es i k nl
        split at hc
        · rename_i hk
          simp only [Bool.and_eq_true, nble_iff, nblt, nbeq_iff] at hk
          obtain ⟨⟨k1, k2⟩, rfl⟩ := hk
          split at hc
          · rename_i e' es' r hg
            split at hc
            · rename_i r1 hk hp
              simp only [Bool.and_eq_true, nbeq_iff] at hk
              obtain ⟨rfl, rfl⟩ := hk
              obtain ⟨p1, p2, p3⟩ := partR_ok hp
              split at hc
              · rename_i hk
                simp only [Bool.and_eq_true, nble_iff] at hk
                split at hc
                · rename_i h2 hn
                  injection hc with hc; cases hc
                  refine ⟨so ∧ e' = e' ∧ es' = es' ∧ es' = es' ∧ i + k ≤ r.length ∧ ((k + rows.length : Nat) : Int) * (by_ : Int) ≤ 140737488355328 ∧ k + rows.length ≤ 140737488355328, seth (H n h) b .dead ++ [.row e' es' (k + rows.length) (appC k (subC i (rC (toAVR r))) sc)], ?_, ⟨s2, rfl, rfl, rfl, p2, mulInt hk.1, hk.2⟩, ?_⟩
                  · rw [hev]
                    simp only [toAV, appRes, H_length, H_get k1, hg, toB, nbeq]
                  · rw [← cnew_ok hn, ← H_set k2 k1]
                    simp only [toB]
                    refine hwk_push ?_
                    rw [List.length_append, p1]
                    refine bwk_row fun a y ha hy => ?_
                    simp only [rC, appC, toAVR_append]
                    by_cases hak : a < k
                    · rw [if_pos hak]
                      simp only [subC, rC]
                      rw [← p3 a hak, getR_get, getR_get, List.getElem?_append_left (by rw [toAVR_length, p1]; exact hak)]
                    · rw [if_neg hak, getR_get, List.getElem?_append_right (by rw [toAVR_length, p1]; omega), toAVR_length, p1]
                      have := s4 (a - k) y (by omega) hy
                      simp only [rC, getR_get] at this
                      exact this
                · cases hc
              · cases hc
            · cases hc
          · cases hc
        · cases hc
      · cases hc
    · cases hc
  · cases hc
def cLen (sl : Option TypeId) (st : Bool) (ar : Option (Nat × TypeId)) (x : CV) : Option CV := match ar with
  | some (n, _) => some (.int .i64 (.ofNat n))
  | none => match st with
    | true => match x with
      | .str s => some (.int .i64 (.ofNat s.length))
      | _ => none
    | false => match sl with
      | some _ => match x with
        | .sl _ _ _ n _ => some (.int .i64 (.ofNat n))
        | .isl _ _ _ _ _ n => some (.int .i64 (.ofNat n))
        | .ro _ _ r => some (.int .i64 (.ofNat r.length))
        | .emp => some (.int .i64 (.ofNat 0))
        | _ => none
      | none => none
theorem cLen_ok {sl : Option TypeId} {st : Bool} {ar : Option (Nat × TypeId)} {x v : CV} (h : cLen sl st ar x = some v) : ∃ ob, evLen2 sl st ar (toAV x) = .pure ob (toAV v) ∧ ob := by
  refine ⟨True, ?_, trivial⟩
  unfold cLen at h
  split at h
  · injection h with h; subst h; simp only [evLen2, toAV]; rfl
  · split at h
    · split at h
      · injection h with h; subst h; simp only [evLen2, toAV, mkB_size]; rfl
      · cases h
    · split at h
      · split at h <;> first | (injection h with h; subst h; simp only [evLen2, toAV]; first | done | rfl) | cases h
      · cases h
def cMin : List CV → Option CV
  | [.int k x, .int k' y] => match k == k' with
    | true => some (.int k (minI x y))
    | false => none
  | _ => none
def cMax : List CV → Option CV
  | [.int k x, .int k' y] => match k == k' with
    | true => some (.int k (maxI x y))
    | false => none
  | _ => none
theorem cMin_ok {l : List CV} {v : CV} (h : cMin l = some v) : ∃ ob, evMin (toAVL l) = .pure ob (toAV v) ∧ ob := by
  refine ⟨True, ?_, trivial⟩
  unfold cMin at h
  split at h
  · split at h
    · rename_i hk; injection h with h; subst h; simp only [toAVL, toAV, evMin, hk, cond_true]
    · cases h
  · cases h
theorem cMax_ok {l : List CV} {v : CV} (h : cMax l = some v) : ∃ ob, evMax (toAVL l) = .pure ob (toAV v) ∧ ob := by
  refine ⟨True, ?_, trivial⟩
  unfold cMax at h
  split at h
  · split at h
    · rename_i hk; injection h with h; subst h; simp only [toAVL, toAV, evMax, hk, cond_true]
    · cases h
  · cases h
end
end Go.Am
