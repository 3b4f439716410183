/-
  A machine that computes, part 11: what a result brings along; code; functions.
-/
import Derived.Test.YtiameicjjlfimaaCm10
import Derived.Test.YtiameicjjlfimaaAm28
namespace Go.Am
noncomputable section
set_option linter.unusedVariables false
set_option linter.unusedSimpArgs false
variable {P : Program}

/-! ### Renumbering what a callee returns -/
theorem posN_ok : ∀ {ν : List Nat} {b p : Nat}, posN b ν = some p → ν[p]? = some b
  | [], b, p, h => by cases h
  | a :: ν, b, p, h => by
    simp only [posN] at h
    split at h
    · rename_i hb; injection h with h; subst h; rw [nbeq_iff.1 hb]; rfl
    · split at h
      · rename_i q hq; injection h with h; subst h; simpa using posN_ok hq
      · cases h
def muOf (n : Nat) (ν : List Nat) : Mu := List.replicate n none ++ ν.map some
theorem getM_get : ∀ (μ : Mu) (b : Nat), getM μ b = (μ[b]?).join
  | [], b => by simp [getM]
  | a :: μ, 0 => by simp [getM]
  | a :: μ, b + 1 => by simp only [getM, List.getElem?_cons_succ]; exact getM_get μ b
theorem getM_mu {n : Nat} {ν : List Nat} (b : Nat) : getM (muOf n ν) b = if b < n then none else ν[b - n]? := by
  rw [getM_get]
  unfold muOf
  by_cases hb : b < n
  · rw [if_pos hb, List.getElem?_append_left (by simpa using hb), List.getElem?_replicate, if_pos hb]; rfl
  · rw [if_neg hb, List.getElem?_append_right (by simp; omega), List.length_replicate, List.getElem?_map]
    cases ν[b - n]? <;> rfl
theorem getM_pos {n : Nat} {ν : List Nat} {b p : Nat} (h : posN b ν = some p) : getM (muOf n ν) (n + p) = some b := by
  rw [getM_mu, if_neg (by omega), show n + p - n = p from by omega]
  exact posN_ok h
mutual
theorem cad_ok (ν : List Nat) (n : Nat) : ∀ (v v' : CV), cad ν n v = some v' → Cv (muOf n ν) (toAV v') (toAV v) ∧ noro (toAV v')
  | .ptr b es i j, v', h => by
    simp only [cad] at h
    split at h
    · rename_i p hp; injection h with h; subst h; simp only [toAV, Cv, noro]; exact ⟨⟨getM_pos hp, trivial, trivial, trivial⟩, trivial⟩
    · cases h
  | .sl b es i m nl, v', h => by
    simp only [cad] at h
    split at h
    · rename_i p hp; injection h with h; subst h; simp only [toAV, Cv, noro]; exact ⟨⟨getM_pos hp, trivial, trivial, trivial, trivial⟩, trivial⟩
    · cases h
  | .isl b es i j z m, v', h => by
    simp only [cad] at h
    split at h
    · rename_i p hp; injection h with h; subst h; simp only [toAV, Cv, noro]; exact ⟨⟨getM_pos hp, trivial, trivial, trivial, trivial, trivial⟩, trivial⟩
    · cases h
  | .ro es nl r, v', h => by
    simp only [cad] at h
    split at h
    · injection h with h; subst h; simp only [toAV, toAVR, Cv, noro, List.length_nil]; exact ⟨⟨.inl trivial, trivial, trivial, fun x y hx => absurd hx (by simp)⟩, trivial⟩
    · cases h
  | .rptr es i j r, v', h => by simp only [cad] at h; cases h
  | .agg l, v', h => by
    simp only [cad] at h
    split at h
    · rename_i l' hl; injection h with h; subst h; simp only [toAV, Cv, noro]; exact cadL_ok ν n l l' hl
    · cases h
  | .tup l, v', h => by
    simp only [cad] at h
    split at h
    · rename_i l' hl; injection h with h; subst h; simp only [toAV, Cv, noro]; exact cadL_ok ν n l l' hl
    · cases h
  | .fn f l, v', h => by
    simp only [cad] at h
    split at h
    · rename_i l' hl; injection h with h; subst h; simp only [toAV, Cv, noro]; exact ⟨⟨trivial, (cadL_ok ν n l l' hl).1⟩, (cadL_ok ν n l l' hl).2⟩
    · cases h
  | .opt g v, v', h => by
    simp only [cad] at h
    split at h
    · rename_i w hw; injection h with h; subst h; simp only [toAV, Cv, noro]; exact ⟨⟨trivial, fun _ => (cad_ok ν n v w hw).1⟩, (cad_ok ν n v w hw).2⟩
    · cases h
  | .top, v', h => by simp only [cad, Option.some.injEq] at h; subst h; simp only [toAV, Cv, noro]; exact ⟨trivial, trivial⟩
  | .bool b, v', h => by simp only [cad, Option.some.injEq] at h; subst h; simp only [toAV, Cv, noro]; exact ⟨trivial, trivial⟩
  | .int k m, v', h => by simp only [cad, Option.some.injEq] at h; subst h; simp only [toAV, Cv, noro]; exact ⟨⟨trivial, trivial⟩, trivial⟩
  | .str s, v', h => by simp only [cad, Option.some.injEq] at h; subst h; simp only [toAV, Cv, noro]; exact ⟨trivial, trivial⟩
  | .nilp, v', h => by simp only [cad, Option.some.injEq] at h; subst h; simp only [toAV, Cv, noro]; exact ⟨trivial, trivial⟩
  | .emp, v', h => by simp only [cad, Option.some.injEq] at h; subst h; simp only [toAV, Cv, noro]; exact ⟨trivial, trivial⟩
  | .nilf, v', h => by simp only [cad, Option.some.injEq] at h; subst h; simp only [toAV, Cv, noro]; exact ⟨trivial, trivial⟩
theorem cadL_ok (ν : List Nat) (n : Nat) : ∀ (l l' : List CV), cadL ν n l = some l' → CvL (muOf n ν) (toAVL l') (toAVL l) ∧ noroL (toAVL l')
  | [], l', h => by simp only [cadL, Option.some.injEq] at h; subst h; simp only [toAVL, CvL, noroL]; exact ⟨trivial, trivial⟩
  | a :: l, l', h => by
    simp only [cadL] at h
    split at h
    · rename_i a' ha
      split at h
      · rename_i l2 hl
        injection h with h; subst h
        obtain ⟨p1, p2⟩ := cad_ok ν n a a' ha
        obtain ⟨q1, q2⟩ := cadL_ok ν n l l2 hl
        simp only [toAVL, CvL, noroL]
        exact ⟨⟨p1, q1⟩, p2, q2⟩
      · cases h
    · cases h
end
theorem cadR_ok {ν : List Nat} {n : Nat} : ∀ {r r' : List (List CV)}, cadR ν n r = some r' → r'.length = r.length ∧ ∀ x y, Cv (muOf n ν) (rC (toAVR r') x y) (rC (toAVR r) x y) ∧ noro (rC (toAVR r') x y)
  | [], r', h => by
    simp only [cadR, Option.some.injEq] at h; subst h
    exact ⟨rfl, fun x y => by simp only [rC, toAVR, getR, getL, Cv, noro]; exact ⟨trivial, trivial⟩⟩
  | a :: r, r', h => by
    simp only [cadR] at h
    split at h
    · rename_i a' ha
      split at h
      · rename_i r2 hr
        injection h with h; subst h
        obtain ⟨p1, p2⟩ := cadL_ok ν n a a' ha
        obtain ⟨q1, q2⟩ := cadR_ok hr
        refine ⟨by simp [q1], fun x y => ?_⟩
        cases x with
        | zero =>
          simp only [rC, toAVR, getR]
          obtain ⟨c1, c2⟩ := CvL_get p1
          by_cases hy : y < (toAVL a').length
          · exact ⟨c2 y _ _ (getL_some hy) (getL_some (by omega)), noroL_get p2 (getL_some hy)⟩
          · rw [getL_ge (l := toAVL a') (by omega)]; simp only [Cv, noro]; exact ⟨trivial, trivial⟩
        | succ x => exact q2 x y
      · cases h
    · cases h
theorem rnN0 (b : Nat) : rnN 0 0 b = b := by simp [rnN]
mutual
theorem ren00 : ∀ a : AV, ren 0 0 a = a
  | .ptr b es i j => by simp only [ren, rnN0]
  | .sl b es i n nl => by simp only [ren, rnN0]
  | .isl b es i j z n => by simp only [ren, rnN0]
  | .agg l => by simp only [ren, renL00 l]
  | .tup l => by simp only [ren, renL00 l]
  | .fn f l => by simp only [ren, renL00 l]
  | .opt g v => by simp only [ren, ren00 v]
  | .rptr es n i j c => by simp only [ren]
  | .ro es n nl c => by simp only [ren]
  | .top => by simp only [ren]
  | .bool b => by simp only [ren]
  | .int k n => by simp only [ren]
  | .str s => by simp only [ren]
  | .nilp => by simp only [ren]
  | .emp => by simp only [ren]
  | .nilf => by simp only [ren]
theorem renL00 : ∀ l : List AV, renL 0 0 l = l
  | [] => by simp only [renL]
  | a :: l => by simp only [renL, ren00 a, renL00 l]
end
/-- A list of blocks without repetition. -/
def nodN : List Nat → Bool
  | [] => true
  | b :: l => match inN b l with
    | true => false
    | false => nodN l
theorem inN_iff {b : Nat} {l : List Nat} : inN b l = true ↔ b ∈ l := by
  induction l with
  | nil => simp [inN]
  | cons a l ih =>
    simp only [inN]
    cases hb : Nat.beq b a with
    | true => have := nbeq_iff.1 hb; simp [this]
    | false =>
      have : b ≠ a := by intro h; rw [nbeq_iff.2 h] at hb; cases hb
      simp [ih, this]
theorem reach_nodup (h : Hp) : ∀ (k : Nat) (todo acc : List Nat), acc.Nodup → (reach h k todo acc).Nodup := by
  intro k
  induction k with
  | zero => intro todo acc ha; exact ha
  | succ k ih =>
    intro todo acc ha
    cases todo with
    | nil => exact ha
    | cons b todo =>
      simp only [reach]
      cases hb : inN b acc with
      | true => exact ih todo acc ha
      | false =>
        refine ih _ _ ?_
        rw [List.nodup_append]
        refine ⟨ha, by simp, fun a h1 c h2 => ?_⟩
        simp only [List.mem_singleton] at h2
        subst h2
        rintro rfl
        rw [inN_iff.2 h1] at hb; cases hb
theorem layB_ok {ν : List Nat} {n0 : Nat} {h1 : Hp} : ∀ (l : List Nat) (i : Nat) (h h' : Hp), layB ν n0 h1 l i h = some h' →
    H (i + l.length) h' = H i h ++ l.map (fun b => toB ((cadB ν n0 (hget h1 b)).getD .dead)) ∧ ∀ b ∈ l, ∃ x, cadB ν n0 (hget h1 b) = some x := by
  intro l
  induction l with
  | nil => intro i h h' hr; simp only [layB, Option.some.injEq] at hr; subst hr; simp
  | cons b l ih =>
    intro i h h' hr
    simp only [layB] at hr
    split at hr
    · rename_i x hx
      split at hr
      · rename_i h2 hn
        obtain ⟨q1, q2⟩ := ih _ _ _ hr
        refine ⟨?_, fun c hc => ?_⟩
        · rw [List.length_cons, show i + (l.length + 1) = i + 1 + l.length from by omega, q1, ← cnew_ok hn]
          simp [hx]
        · cases hc with
          | head => exact ⟨x, hx⟩
          | tail _ hc => exact q2 c hc
      · cases hr
    · cases hr
theorem adopt {E E1 : Env} {n n1 : Nat} {h h1 h' : Hp} {v v' : CV} {u : Value} {ν : List Nat} (R : HR E (H n h)) (X1 : Ext E.view [] E1 (H n1 h1)) (R1 : HR E1 (H n1 h1)) (hV : VR E1 (toAV v) u)
    (hnd : ν.Nodup) (hlt : ∀ b ∈ ν, b < n1) (hc : cad ν n v = some v') (hl : layB ν n h1 ν n h = some h') :
    ∃ E2 : Env, E2.w = E1.w ∧ Ext E (H n h) E2 (H (n + ν.length) h') ∧ HR E2 (H (n + ν.length) h') ∧ VR E2 (toAV v') u := by
  obtain ⟨l1, l2⟩ := layB_ok _ _ _ _ hl
  rw [l1]
  generalize hns : ν.map (fun b => toB ((cadB ν n (hget h1 b)).getD .dead)) = ns
  have hnl : ns.length = ν.length := by rw [← hns]; simp
  have nsg : ∀ (j : Nat) (x : ABlk), ns[j]? = some x → ∃ b c, ν[j]? = some b ∧ cadB ν n (hget h1 b) = some c ∧ x = toB c := by
    intro j x hj
    rw [← hns, List.getElem?_map] at hj
    cases hb : ν[j]? with
    | none => rw [hb] at hj; cases hj
    | some b =>
      rw [hb] at hj
      simp only [Option.map_some, Option.some.injEq] at hj
      obtain ⟨c, hcb⟩ := l2 b (List.mem_of_getElem? hb)
      exact ⟨b, c, rfl, hcb, by rw [← hj, hcb]; rfl⟩
  generalize hg : H n h = g at *
  have hgl : g.length = n := by rw [← hg, H_length]
  let σ2 : Nat → Option (Nat × Nat) := fun b => if b < n then E.σ b else (ν[b - n]?).bind E1.σ
  let E2 : Env := ⟨E1.w, σ2, E.prot⟩
  have s1 : ∀ b, b < n → E2.σ b = E.σ b := fun b hb => if_pos hb
  have s2 : ∀ b, ¬ b < n → E2.σ b = (ν[b - n]?).bind E1.σ := fun b hb => if_neg hb
  have hlt' : ∀ b x, E.σ b = some x → b < n := by
    intro b x hb
    rcases Nat.lt_or_ge b n with h' | h'
    · exact h'
    · rw [R.fresh b (by omega)] at hb; cases hb
  have hold : ∀ k, k < E.w.heap.size → E1.w.heap[k]? = E.w.heap[k]? := fun k hk => X1.frame k hk (by rintro ⟨b, x, o, hb, _⟩; simp at hb)
  have hown1 : ∀ k, Own E1 (H n1 h1) k → E.w.heap.size ≤ k := fun k hk => by
    rcases X1.own k hk with h' | h'
    · obtain ⟨b, x, o, hb, _⟩ := h'; simp at hb
    · exact h'
  have K2 : Keep E E2 := ⟨fun b x hb => by rw [s1 b (hlt' b x hb)]; exact hb, fun _ h => h, fun k hk => hold k (R.prot k hk).1, fun k cs e hk => ⟨cs, (hold k (lt_of_some hk)).trans hk, rfl⟩⟩
  have V2 : ∀ {a a' : AV} {u : Value}, VR E1 a u → Cv (muOf n ν) a' a → noro a' → VR E2 a' u := by
    intro a a' u hv hcv hno
    have h3 := Cv_sound hv a' hcv
    have h4 := VR.exp (E := E1.via (muOf n ν)) (E' := E2) (L := 0) (s := 0) rfl (fun b x hb => by
      rw [rnN0]
      have hb' : (getM (muOf n ν) b).bind E1.σ = some x := hb
      rw [getM_mu] at hb'
      by_cases hbn : b < n
      · rw [if_pos hbn] at hb'; cases hb'
      · rw [if_neg hbn] at hb'; rw [s2 b hbn]; exact hb') h3 hno
    rwa [ren00] at h4
  have hgt : ∀ {b : Nat} {x : ABlk}, (g ++ ns)[b]? = some x → (b < n ∧ g[b]? = some x) ∨ (¬ b < n ∧ ns[b - n]? = some x) := by
    intro b x hb
    by_cases hbl : b < n
    · rw [List.getElem?_append_left (by omega)] at hb; exact .inl ⟨hbl, hb⟩
    · rw [List.getElem?_append_right (by omega), hgl] at hb; exact .inr ⟨hbl, hb⟩
  have hns2 : ∀ {j : Nat} {x : ABlk} {k o : Nat}, ns[j]? = some x → x ≠ .dead → E2.σ (n + j) = some (k, o) → ∃ b y, ν[j]? = some b ∧ (H n1 h1)[b]? = some y ∧ y ≠ .dead ∧ E1.σ b = some (k, o) := by
    intro j x k o hj hx hs
    obtain ⟨b, c, hb, hcb, rfl⟩ := nsg j x hj
    rw [s2 _ (by omega), show n + j - n = j from by omega, hb] at hs
    have hbn := hlt b (List.mem_of_getElem? hb)
    have hne : toB (hget h1 b) ≠ .dead := by
      intro hd
      cases hh : hget h1 b with
      | dead => rw [hh] at hcb; cases hcb
      | lit e l => rw [hh] at hd; cases hd
      | row e es r => rw [hh] at hd; cases hd
    refine ⟨b, toB (hget h1 b), hb, ?_, hne, hs⟩
    have := H_get (f := h1) hbn
    rw [← this]
    exact geth_some (by rw [this]; exact hne)
  have hown : ∀ k, Own E2 (g ++ ns) k → Own E g k ∨ E.w.heap.size ≤ k := by
    rintro k ⟨b, x, o, q1, q2, q3⟩
    rcases hgt q1 with ⟨hb, q1⟩ | ⟨hb, q1⟩
    · rw [s1 b hb] at q3; exact .inl ⟨b, x, o, q1, q2, q3⟩
    · obtain ⟨c, y, r1, r2, r3, r4⟩ := hns2 q1 q2 (by rw [show n + (b - n) = b from by omega]; exact q3)
      exact .inr (hown1 k ⟨c, y, o, r2, r3, r4⟩)
  refine ⟨E2, rfl, ⟨X1.os, X1.tape, X1.output, K2.σ, fun _ h => h, X1.size, K2.kind, fun k hk _ => hold k hk, hown, by simp, fun b hb => s1 b (by omega), rfl⟩, ⟨fun b x hb => ?_, fun b b' x x' k o o' h1' h2 h3 h4 h5 h6 => ?_, fun k hk => ?_, fun b hb => ?_⟩, ?_⟩
  · by_cases hd : x = .dead
    · subst hd; trivial
    rcases hgt hb with ⟨hbl, hb'⟩ | ⟨hbl, hb'⟩
    · exact (R.blk b x hb').mono K2 (s1 b hbl) fun k o hk => hold k ((R.blk b x hb').lt hd hk)
    · obtain ⟨c, q, hcν, hcb, rfl⟩ := nsg _ _ hb'
      have hcn := hlt c (List.mem_of_getElem? hcν)
      have hcg := H_get (f := h1) hcn
      have hs : E2.σ b = E1.σ c := by rw [s2 b hbl, hcν]; rfl
      cases hh : hget h1 c with
      | dead => rw [hh] at hcb; cases hcb
      | lit e l =>
        rw [hh] at hcb hcg
        simp only [cadB] at hcb
        split at hcb
        · rename_i l' hl'
          injection hcb with hcb; subst hcb
          have hB := R1.blk c _ (geth_some (h := H n1 h1) (b := c) (by rw [hcg]; simp [toB]))
          rw [hcg] at hB
          simp only [toB] at hB ⊢
          obtain ⟨k, o, cs, r1, r2, r3, r4⟩ := hB
          obtain ⟨p1, p2⟩ := cadL_ok ν n l l' hl'
          obtain ⟨c1, c2⟩ := CvL_get p1
          refine ⟨k, o, cs, hs.trans r1, r2, by rw [c1]; exact r3, fun j a hj => ?_⟩
          have hjl : j < (toAVL l).length := by
            rw [← c1]
            rcases Nat.lt_or_ge j (toAVL l').length with h' | h'
            · exact h'
            · rw [List.getElem?_eq_none h'] at hj; cases hj
          obtain ⟨v, y1, y2, y3⟩ := r4 j _ (List.getElem?_eq_getElem hjl)
          exact ⟨v, y1, y2, V2 y3 (c2 j a _ hj (List.getElem?_eq_getElem hjl)) (noroL_get p2 hj)⟩
        · cases hcb
      | row e es r =>
        rw [hh] at hcb hcg
        simp only [cadB] at hcb
        split at hcb
        · rename_i r' hr'
          injection hcb with hcb; subst hcb
          have hB := R1.blk c _ (geth_some (h := H n1 h1) (b := c) (by rw [hcg]; simp [toB]))
          rw [hcg] at hB
          simp only [toB] at hB ⊢
          obtain ⟨p1, p2⟩ := cadR_ok hr'
          unfold BR at hB ⊢
          rw [hs]
          cases hσ : E1.σ c with
          | none => rw [hσ] at hB; rw [p1]; exact hB
          | some p =>
            rw [hσ] at hB
            obtain ⟨cs, r1, r2, r3⟩ := hB
            exact ⟨cs, r1, by rw [p1]; exact r2, fun x y hx hy => by
              rw [p1] at hx
              obtain ⟨v, y1, y2, y3⟩ := r3 x y hx hy
              exact ⟨v, y1, y2, V2 y3 (p2 x y).1 (p2 x y).2⟩⟩
        · cases hcb
  · rcases hgt h1' with ⟨b1, m1⟩ | ⟨b1, m1⟩ <;> rcases hgt h3 with ⟨b3, m3⟩ | ⟨b3, m3⟩
    · rw [s1 b b1] at h5; rw [s1 b' b3] at h6; exact R.inj b b' x x' k o o' m1 h2 m3 h4 h5 h6
    · rw [s1 b b1] at h5
      obtain ⟨c, y, r1, r2, r3, r4⟩ := hns2 m3 h4 (by rw [show n + (b' - n) = b' from by omega]; exact h6)
      have := (R.blk b x m1).lt h2 h5
      have := hown1 k ⟨c, y, o', r2, r3, r4⟩
      omega
    · rw [s1 b' b3] at h6
      obtain ⟨c, y, r1, r2, r3, r4⟩ := hns2 m1 h2 (by rw [show n + (b - n) = b from by omega]; exact h5)
      have := (R.blk b' x' m3).lt h4 h6
      have := hown1 k ⟨c, y, o, r2, r3, r4⟩
      omega
    · obtain ⟨c, y, r1, r2, r3, r4⟩ := hns2 m1 h2 (by rw [show n + (b - n) = b from by omega]; exact h5)
      obtain ⟨c', y', r1', r2', r3', r4'⟩ := hns2 m3 h4 (by rw [show n + (b' - n) = b' from by omega]; exact h6)
      have hcc := R1.inj c c' y y' k o o' r2 r3 r2' r3' r4 r4'
      subst hcc
      have hj1 : b - n < ν.length := (List.getElem?_eq_some_iff.1 r1).1
      have := (List.getElem?_inj hj1 hnd).1 (r1.trans r1'.symm)
      omega
  · obtain ⟨p1, p2⟩ := R.prot k hk
    refine ⟨Nat.lt_of_lt_of_le p1 X1.size, fun ho => ?_⟩
    rcases hown k ho with h' | h'
    · exact p2 h'
    · omega
  · have hb1 : ¬ b < n := by simp at hb; omega
    rw [s2 b hb1, List.getElem?_eq_none (by simp at hb; omega)]; rfl
  · obtain ⟨p1, p2⟩ := cad_ok ν n v v' hc
    exact V2 hV p1 p2

/-! ### Code -/
def SaysC (P : Program) (m : Nat) (code : Code) (f : Fr) (n : Nat) (h : Hp) (ex : Ex) (f' : Fr) (n' : Nat) (h' : Hp) : Prop :=
  n ≤ n' ∧ Mean P code (fun e t g => e = ex ∧ t = T m f' ∧ g = H n' h') (T m f) (H n h)
def SaysL (P : Program) (m : Nat) (k : Nat) (c : Code) (f : Fr) (n : Nat) (h : Hp) (ex : Ex) (f' : Fr) (n' : Nat) (h' : Hp) : Prop :=
  n ≤ n' ∧ ∀ (E : Env) (a : Act) (Q : Exit → Act → World → Prop), HR E (H n h) → FR E (T m f) a.tmps → a.defers = [] →
    (∀ (E' : Env) (a' : Act), Ext E (H n h) E' (H n' h') → HR E' (H n' h') → FR E' (T m f') a'.tmps → a'.defers = [] → Q ex.ex a' E'.w) → Code.rounds P c Q k a E.w
theorem cC_succ (sh : TypeId → Option (List Leaf)) (cl : Cl) (m k : Nat) (code : Code) (f : Fr) (n : Nat) (h : Hp) : cC P sh cl m (k + 1) code f n h = kCode P sh cl m (cC P sh cl m k) code f n h := rCode_eq P sh cl m (cC P sh cl m k) code f n h
theorem cC_ok {sh : TypeId → Option (List Leaf)} (S : ShOk P sh) {cl : Cl} (C : ClOk P cl) (hmo : P.follows .mixedOrders = true) {m : Nat} (hm : m ≤ 1024) : ∀ (k : Nat),
    (∀ (code : Code) (f : Fr) (n : Nat) (h : Hp) (ex : Ex) (f' : Fr) (n' : Nat) (h' : Hp), cC P sh cl m k code f n h = some (ex, f', n', h') → SaysC P m code f n h ex f' n' h') ∧
    (∀ (c : Code) (f : Fr) (n : Nat) (h : Hp) (ex : Ex) (f' : Fr) (n' : Nat) (h' : Hp), cC P sh cl m k (.loop c) f n h = some (ex, f', n', h') → SaysL P m k c f n h ex f' n' h') := by
  intro k
  induction k with
  | zero => exact ⟨fun code f n h ex f' n' h' hr => (by cases hr), fun c f n h ex f' n' h' hr => (by cases hr)⟩
  | succ k ih =>
    obtain ⟨ihA, ihB⟩ := ih
    have one : ∀ {code : Code} {f : Fr} {n : Nat} {h : Hp} {ex : Ex}, (∀ (E : Env) (a : Act) (Q : Exit → Act → World → Prop), Q ex.ex a E.w → code.wp P Q a E.w) → SaysC P m code f n h ex f n h := by
      intro code f n h ex hw
      exact ⟨Nat.le_refl _, fun E a Q R F hd hQ => hw E a Q (hQ ex E a _ _ ⟨rfl, rfl, rfl⟩ (Ext.refl _ _) R F hd)⟩
    have loopB : ∀ (c : Code) (f : Fr) (n : Nat) (h : Hp) (ex : Ex) (f' : Fr) (n' : Nat) (h' : Hp), cC P sh cl m (k + 1) (.loop c) f n h = some (ex, f', n', h') → SaysL P m (k + 1) c f n h ex f' n' h' := by
      intro c f n h ex f' n' h' hr
      rw [cC_succ] at hr
      simp only [kCode, kSeq2] at hr
      split at hr
      · rename_i f1 n1 h1 hc
        obtain ⟨a1, aM⟩ := ihA _ _ _ _ _ _ _ _ hc
        obtain ⟨b1, bM⟩ := ihB _ _ _ _ _ _ _ _ hr
        refine ⟨Nat.le_trans a1 b1, fun E a Q R F hd hQ => ?_⟩
        rw [rounds_succ]
        refine aM E a _ R F hd fun e E2 a2 t2 h2 hk X2 R2 F2 hd2 => ?_
        obtain ⟨rfl, rfl, rfl⟩ := hk
        exact bM E2 a2 Q R2 F2 hd2 fun E3 a3 X3 R3 F3 hd3 => hQ E3 a3 (X2.trans X3) R3 F3 hd3
      · rename_i hne
        obtain ⟨a1, aM⟩ := ihA _ _ _ _ _ _ _ _ hr
        refine ⟨a1, fun E a Q R F hd hQ => ?_⟩
        rw [rounds_succ]
        refine aM E a _ R F hd fun e E2 a2 t2 h2 hk X2 R2 F2 hd2 => ?_
        obtain ⟨rfl, rfl, rfl⟩ := hk
        have := hQ E2 a2 X2 R2 F2 hd2
        cases e with
        | normal => exact absurd hr (hne _ _ _)
        | exit id => exact this
        | ret => exact this
        | goto l => exact this
    refine ⟨fun code f n h ex f' n' h' hr => ?_, loopB⟩
    cases code with
    | loop c =>
      obtain ⟨b1, bM⟩ := loopB c f n h ex f' n' h' hr
      refine ⟨b1, fun E a Q R F hd hQ => wp_loop_rounds (k + 1) (bM E a Q R F hd fun E2 a2 X2 R2 F2 hd2 => hQ ex E2 a2 _ _ ⟨rfl, rfl, rfl⟩ X2 R2 F2 hd2)⟩
    | skip =>
      rw [cC_succ] at hr
      simp only [kCode, Option.some.injEq, Prod.mk.injEq] at hr
      obtain ⟨rfl, rfl, rfl, rfl⟩ := hr
      exact one fun E a Q h => wp_skip h
    | label l =>
      rw [cC_succ] at hr
      simp only [kCode, Option.some.injEq, Prod.mk.injEq] at hr
      obtain ⟨rfl, rfl, rfl, rfl⟩ := hr
      exact one fun E a Q h => wp_label h
    | exit id =>
      rw [cC_succ] at hr
      simp only [kCode, Option.some.injEq, Prod.mk.injEq] at hr
      obtain ⟨rfl, rfl, rfl, rfl⟩ := hr
      exact one fun E a Q h => wp_exit h
    | ret =>
      rw [cC_succ] at hr
      simp only [kCode, Option.some.injEq, Prod.mk.injEq] at hr
      obtain ⟨rfl, rfl, rfl, rfl⟩ := hr
      exact one fun E a Q h => wp_ret h
    | goto l =>
      rw [cC_succ] at hr
      simp only [kCode, Option.some.injEq, Prod.mk.injEq] at hr
      obtain ⟨rfl, rfl, rfl, rfl⟩ := hr
      exact one fun E a Q h => wp_goto h
    | region id ops draw =>
      rw [cC_succ] at hr
      simp only [kCode, kReg] at hr
      cases draw with
      | false =>
        simp only at hr
        cases hc : cOps P sh cl ops.toList m ops.toList f n h with
        | none => rw [hc] at hr; cases hr
        | some s =>
          obtain ⟨f1, n1, h1⟩ := s
          rw [hc] at hr
          simp only [kNorm, Option.some.injEq, Prod.mk.injEq] at hr
          obtain ⟨rfl, rfl, rfl, rfl⟩ := hr
          refine ⟨cOps_le S C _ _ _ _ _ _ _ hc, fun E a Q R F hd hQ => wp_region_list ?_⟩
          exact (cOps_ok S C hm _ _ _ _ _ _ _ hc E a R F hd fun E' a' X' R' F' hd' => hQ .normal E' a' _ _ ⟨rfl, rfl, rfl⟩ X' R' F' hd').2
      | true =>
        simp only at hr
        cases hc : cDraw P sh cl ops m f n h with
        | none => rw [hc] at hr; cases hr
        | some s =>
          obtain ⟨f1, n1, h1⟩ := s
          rw [hc] at hr
          simp only [kNorm, Option.some.injEq, Prod.mk.injEq] at hr
          obtain ⟨rfl, rfl, rfl, rfl⟩ := hr
          exact cDraw_ok S C hmo hm hc
    | seq x y =>
      rw [cC_succ] at hr
      simp only [kCode, kSeq2] at hr
      split at hr
      · rename_i f1 n1 h1 hc
        obtain ⟨a1, aM⟩ := ihA _ _ _ _ _ _ _ _ hc
        obtain ⟨b1, bM⟩ := ihA _ _ _ _ _ _ _ _ hr
        refine ⟨Nat.le_trans a1 b1, fun E a Q R F hd hQ => wp_seq (aM E a _ R F hd fun e E2 a2 t2 h2 hk X2 R2 F2 hd2 => ?_)⟩
        obtain ⟨rfl, rfl, rfl⟩ := hk
        exact bM E2 a2 Q R2 F2 hd2 fun e3 E3 a3 t3 h3 hk3 X3 R3 F3 hd3 => hQ e3 E3 a3 t3 h3 hk3 (X2.trans X3) R3 F3 hd3
      · rename_i hne
        obtain ⟨a1, aM⟩ := ihA _ _ _ _ _ _ _ _ hr
        refine ⟨a1, fun E a Q R F hd hQ => wp_seq (aM E a _ R F hd fun e E2 a2 t2 h2 hk X2 R2 F2 hd2 => ?_)⟩
        have hk' := hk
        obtain ⟨rfl, rfl, rfl⟩ := hk
        have := hQ e E2 a2 _ _ hk' X2 R2 F2 hd2
        cases e with
        | normal => exact absurd hr (hne _ _ _)
        | exit id => exact this
        | ret => exact this
        | goto l => exact this
    | cond c x y =>
      rw [cC_succ] at hr
      simp only [kCode, kRho_eq, kCond] at hr
      split at hr
      · rename_i hc
        obtain ⟨q1, q2⟩ := crho_ok hc
        obtain ⟨a1, aM⟩ := ihA _ _ _ _ _ _ _ _ hr
        refine ⟨a1, fun E a Q R F hd hQ => ?_⟩
        have hv := rho_sound F q2
        rw [q1] at hv
        simp only [toAV] at hv
        exact wp_cond_true (VR_bool hv) (aM E a Q R F hd hQ)
      · rename_i hc
        obtain ⟨q1, q2⟩ := crho_ok hc
        obtain ⟨a1, aM⟩ := ihA _ _ _ _ _ _ _ _ hr
        refine ⟨a1, fun E a Q R F hd hQ => ?_⟩
        have hv := rho_sound F q2
        rw [q1] at hv
        simp only [toAV] at hv
        exact wp_cond_false (VR_bool hv) (aM E a Q R F hd hQ)
      · cases hr
    | block id c =>
      rw [cC_succ] at hr
      simp only [kCode, kBlk2] at hr
      split at hr
      · rename_i id' s hc
        obtain ⟨f1, n1, h1⟩ := s
        obtain ⟨a1, aM⟩ := ihA _ _ _ _ _ _ _ _ hc
        split at hr
        · rename_i hid
          have hid := nbeq_iff.1 hid
          subst hid
          simp only [Option.some.injEq, Prod.mk.injEq] at hr
          obtain ⟨rfl, rfl, rfl, rfl⟩ := hr
          refine ⟨a1, fun E a Q R F hd hQ => wp_block (aM E a _ R F hd fun e E2 a2 t2 h2 hk X2 R2 F2 hd2 => ?_)⟩
          obtain ⟨rfl, rfl, rfl⟩ := hk
          simp only [Ex.ex, Exit.inBlock, if_true]
          exact hQ .normal E2 a2 _ _ ⟨rfl, rfl, rfl⟩ X2 R2 F2 hd2
        · rename_i hid
          have hne : id' ≠ id := by rintro rfl; rw [nbeq_iff.2 rfl] at hid; cases hid
          simp only [Option.some.injEq, Prod.mk.injEq] at hr
          obtain ⟨rfl, rfl, rfl, rfl⟩ := hr
          refine ⟨a1, fun E a Q R F hd hQ => wp_block (aM E a _ R F hd fun e E2 a2 t2 h2 hk X2 R2 F2 hd2 => ?_)⟩
          obtain ⟨rfl, rfl, rfl⟩ := hk
          simp only [Ex.ex, Exit.inBlock, if_neg hne]
          exact hQ (.exit id') E2 a2 _ _ ⟨rfl, rfl, rfl⟩ X2 R2 F2 hd2
      · rename_i hne
        obtain ⟨a1, aM⟩ := ihA _ _ _ _ _ _ _ _ hr
        refine ⟨a1, fun E a Q R F hd hQ => wp_block (aM E a _ R F hd fun e E2 a2 t2 h2 hk X2 R2 F2 hd2 => ?_)⟩
        have hk' := hk
        obtain ⟨rfl, rfl, rfl⟩ := hk
        have := hQ e E2 a2 _ _ hk' X2 R2 F2 hd2
        cases e with
        | normal => exact this
        | exit id => exact absurd hr (hne _ _)
        | ret => exact this
        | goto l => exact this
    | _ => rw [cC_succ] at hr; simp only [kCode] at hr; cases hr
end
end Go.Am
