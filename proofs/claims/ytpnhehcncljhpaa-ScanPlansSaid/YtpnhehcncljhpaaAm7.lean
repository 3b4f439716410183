/-
  The abstract machine, part 7: literals, makes, tests, and small operations.
-/
import Derived.Test.YtpnhehcncljhpaaAm6
namespace Go.Am
set_option linter.unusedVariables false
section
variable {P : Program} {E : Env} {h : List ABlk}

/-! ### Parts put together -/
/-- An array of cells, told by a list. -/
def CR (E : Env) (l : List AV) (cs : Array Value) : Prop := l.length = cs.size ∧ ∀ (i : Nat) (a : AV) (v : Value), l[i]? = some a → cs[i]? = some v → v.oneCell' = true ∧ VR E a v

theorem putL_length (l : List AV) (k : Nat) (vs : List AV) : (putL l k vs).length = l.length := by
  induction vs generalizing l k with
  | nil => rfl
  | cons v r ih => simp only [putL, ih, setL_set, List.length_set]
theorem putL_get (l : List AV) (k : Nat) (vs : List AV) (i : Nat) (hi : i < l.length) : (putL l k vs)[i]? = if k ≤ i ∧ i < k + vs.length then vs[i - k]? else l[i]? := by
  induction vs generalizing l k with
  | nil => simp only [putL]; rw [if_neg (by simp only [List.length_nil]; omega)]
  | cons v r ih =>
    simp only [putL]
    rw [ih _ _ (by rw [setL_set, List.length_set]; exact hi), setL_set]
    by_cases h1 : i = k
    · subst h1
      rw [if_neg (by omega), if_pos (by simp), List.getElem?_set_self hi]
      simp
    · rw [List.getElem?_set_ne (Ne.symm h1)]
      by_cases h2 : k + 1 ≤ i ∧ i < k + 1 + r.length
      · rw [if_pos h2, if_pos (by simp; omega)]
        rw [show i - k = (i - (k + 1)) + 1 from by omega, List.getElem?_cons_succ]
      · rw [if_neg h2, if_neg (by simp; omega)]

def putA (off : Nat) (cs : Array Value) (vs : List Value) (j : Nat) : Array Value := (vs.zipIdx j).foldl (fun cs (c, j) => cs.setIfInBounds (off + j) c) cs
theorem putA_get (off : Nat) : ∀ (vs : List Value) (j : Nat) (cs : Array Value), (putA off cs vs j).size = cs.size ∧ ∀ i, i < cs.size → (putA off cs vs j)[i]? = if off + j ≤ i ∧ i < off + j + vs.length then vs[i - (off + j)]? else cs[i]?
  | [], j, cs => by
    refine ⟨rfl, fun i hi => ?_⟩
    rw [if_neg (by simp only [List.length_nil]; omega)]; rfl
  | v :: r, j, cs => by
    obtain ⟨h1, h2⟩ := putA_get off r (j + 1) (cs.setIfInBounds (off + j) v)
    have e : putA off cs (v :: r) j = putA off (cs.setIfInBounds (off + j) v) r (j + 1) := rfl
    rw [e]
    refine ⟨by rw [h1]; simp, fun i hi => ?_⟩
    rw [h2 i (by simpa using hi)]
    by_cases h3 : i = off + j
    · subst h3
      rw [if_neg (by omega), if_pos (by simp), Array.getElem?_setIfInBounds_self_of_lt hi]
      simp
    · rw [Array.getElem?_setIfInBounds_ne (Ne.symm h3)]
      by_cases h4 : off + (j + 1) ≤ i ∧ i < off + (j + 1) + r.length
      · rw [if_pos h4, if_pos (by simp; omega)]
        rw [show i - (off + j) = (i - (off + (j + 1))) + 1 from by omega, List.getElem?_cons_succ]
      · rw [if_neg h4, if_neg (by simp; omega)]

theorem CR_put {l : List AV} {cs : Array Value} {off : Nat} {a : AV} {v : Value} (hc : CR E l cs) (ha : vcOk a = true) (hv : VR E a v) : CR E (putL l off (vcells a)) (putA off cs v.cells.toList 0) := by
  obtain ⟨h1, h2⟩ := VR_cells ha hv
  obtain ⟨g1, g2⟩ := putA_get off v.cells.toList 0 cs
  refine ⟨by rw [putL_length, g1]; exact hc.1, fun i x u hx hu => ?_⟩
  have hi : i < l.length := by
    rcases Nat.lt_or_ge i l.length with h' | h'
    · exact h'
    · rw [List.getElem?_eq_none (by rw [putL_length]; exact h')] at hx; cases hx
  rw [putL_get _ _ _ _ hi] at hx
  rw [g2 i (by rw [← hc.1]; exact hi)] at hu
  rw [Nat.add_zero, Array.length_toList, h1] at hu
  by_cases hb : off ≤ i ∧ i < off + (vcells a).length
  · rw [if_pos hb] at hx hu
    obtain ⟨u', q1, q2, q3⟩ := h2 (i - off) x hx
    rw [Array.getElem?_toList, q1] at hu
    injection hu with hu; subst hu
    exact ⟨q2, q3⟩
  · rw [if_neg hb] at hx hu
    exact hc.2 i x u hx hu

/-- Parts with their places: on both sides. -/
inductive PR (E : Env) (place : Nat → Option (Nat × Nat)) : List (Nat × Nat × AV) → List (Nat × Value) → Prop
  | nil : PR E place [] []
  | cons (off z i : Nat) (a : AV) (v : Value) (l : List (Nat × Nat × AV)) (m : List (Nat × Value)) (hp : place i = some (off, z)) (hv : VR E a v) (h : PR E place l m) : PR E place ((off, z, a) :: l) ((i, v) :: m)

theorem fill_sound {place : Nat → Option (Nat × Nat)} {ps : List (Nat × Nat × AV)} {pv : List (Nat × Value)} (hp : PR E place ps pv) {l : List AV} {cs : Array Value} (hc : CR E l cs) (hok : fillOk l.length ps = true) :
    ∃ cs', Instr.fill place cs pv = some cs' ∧ CR E (fillA l ps) cs' := by
  induction hp generalizing l cs with
  | nil => exact ⟨cs, rfl, hc⟩
  | cons off z i a v r m hpl hv hr ih =>
    simp only [fillOk, Bool.and_eq_true, beq_iff_eq, decide_eq_true_eq] at hok
    obtain ⟨⟨⟨hz, ha⟩, hb⟩, hok⟩ := hok
    obtain ⟨h1, _⟩ := VR_cells ha hv
    obtain ⟨cs', q1, q2⟩ := ih (CR_put (off := off) hc ha hv) (by rw [putL_length]; exact hok)
    refine ⟨cs', ?_, q2⟩
    simp only [Instr.fill, hpl]
    have hsz : v.cells.size = z := h1.trans hz
    have hle : off + v.cells.size ≤ cs.size := by rw [hsz, ← hc.1]; exact hb
    rw [if_neg (by simp [hsz]; omega)]
    rw [← q1]
    congr 1
    unfold putA
    rw [← Array.toList_zipIdx, ← Array.foldl_toList]

theorem absL_CR {vs : List Value} {m : List AV} (hl : absL vs = some m) : CR E m vs.toArray := by
  obtain ⟨h1, h2⟩ := absL_sound (E := E) hl
  refine ⟨by simpa using h1, fun i a v ha hv => ?_⟩
  obtain ⟨q1, q2⟩ := h2 i a v ha (by simpa using hv)
  exact ⟨VR_one q2 q1, q1⟩

theorem CR_agg {l : List AV} {cs : Array Value} (hc : CR E l cs) : VR E (.agg l) (.agg cs) := by
  refine .agg l cs hc.1 (fun i v hv => ?_) (fun i a v ha hv => (hc.2 i a v ha hv).2)
  have hi : i < l.length := by
    rw [hc.1]
    rcases Nat.lt_or_ge i cs.size with h' | h'
    · exact h'
    · rw [Array.getElem?_eq_none h'] at hv; cases hv
  exact (hc.2 i _ v (List.getElem?_eq_getElem hi) hv).1

theorem getP_get (l : List (Nat × Nat)) (i : Nat) : getP l i = l[i]? := by
  induction l generalizing i with
  | nil => rfl
  | cons a l ih => cases i with
    | zero => rfl
    | succ i => simp only [getP, List.getElem?_cons_succ, ih]

theorem mapM_places {fs : List Field} {pl : List (Nat × Nat)} (hp : tplacesL P fs = some pl) (w : World) :
    (fs.mapM fun f => do pure (f.offset, ← sizeOf f.type) : Sem (List (Nat × Nat))).run P w = .ok pl w := by
  induction fs generalizing pl with
  | nil => simp only [tplacesL] at hp; injection hp with hp; subst hp; rfl
  | cons f r ih =>
    simp only [tplacesL] at hp
    split at hp
    · rename_i z l hz hl
      injection hp with hp; subst hp
      rw [List.mapM_cons]
      simp only [Sem.run_bind, run_sizeOf hz, Result.andThen_ok, Sem.run_pure, ih hl]
    · cases hp

/-- The frame's values, as operands are read. -/
structure Rho (E : Env) (ρ : Operand → AV) (η : Operand → Value) : Prop where
  vr : ∀ x, VR E (ρ x) (η x)

theorem PR_A {z : Nat} {ρ : Operand → AV} {η : Operand → Value} : ∀ (ps : List (Nat × Operand)), (∀ p ∈ ps, VR E (ρ p.2) (η p.2)) →
    PR E (fun i => some (i * z, z)) (placeA z ρ ps) (ps.map fun (i, x) => (i, η x))
  | [], _ => .nil
  | (i, x) :: r, hv => .cons _ _ _ _ _ _ _ rfl (hv (i, x) (by simp)) (PR_A r fun p hp => hv p (by simp [hp]))
theorem PR_S {pl : List (Nat × Nat)} {ρ : Operand → AV} {η : Operand → Value} : ∀ (ps : List (Nat × Operand)) {qs : List (Nat × Nat × AV)}, placeS pl ρ ps = some qs → (∀ p ∈ ps, VR E (ρ p.2) (η p.2)) →
    PR E (fun i => (pl.toArray)[i]?) qs (ps.map fun (i, x) => (i, η x))
  | [], qs, hq, _ => by simp only [placeS] at hq; injection hq with hq; subst hq; exact .nil
  | (i, x) :: r, qs, hq, hv => by
    simp only [placeS] at hq
    split at hq
    · rename_i off z l h1 h2
      injection hq with hq; subst hq
      exact .cons _ _ _ _ _ _ _ (by rw [List.getElem?_toArray, ← getP_get]; exact h1) (hv (i, x) (by simp)) (PR_S r h2 fun p hp => hv p (by simp [hp]))
    · cases hq

theorem build_sound {t : TypeId} {ps : Array (Nat × Operand)} {ρ : Operand → AV} {η : Operand → Value} {ob : Prop} {v : AV} (hv : ∀ p ∈ ps.toList, VR E (ρ p.2) (η p.2))
    (hr : evBuild (tplaces P t) (tarr P t) ((tarr P t).bind fun q => tsz P q.2) (tzero P t) ρ ps.toList = .pure ob v) :
    ∃ r, (∀ W, (Instr.build t (ps.map fun (i, x) => (i, η x))).run P W = .ok r W) ∧ VR E v r := by
  have hmap : (ps.map fun (i, x) => (i, η x)).toList = ps.toList.map fun (i, x) => (i, η x) := by simp
  cases hz : tzero P t with
  | none =>
    rw [hz] at hr
    unfold evBuild at hr
    split at hr <;> first | (cases hr; done) | (simp only [evBuildP] at hr; cases hr)
  | some l =>
    rw [hz] at hr
    obtain ⟨i, z, hi, hzv, hl⟩ := zero_of hz
    have hc : CR E l z.cells := by simpa using absL_CR (E := E) hl
    cases hpl : tplaces P t with
    | some pl =>
      rw [hpl] at hr
      simp only [evBuild] at hr
      cases hq : placeS pl ρ ps.toList with
      | none => rw [hq] at hr; simp only [evBuildP] at hr; cases hr
      | some qs =>
        rw [hq] at hr
        simp only [evBuildP] at hr
        cases hok : fillOk l.length qs with
        | false => rw [hok] at hr; cases hr
        | true =>
          rw [hok] at hr
          simp only [cond_true, AR.pure.injEq] at hr
          obtain ⟨_, rfl⟩ := hr
          obtain ⟨cs', q1, q2⟩ := fill_sound (PR_S ps.toList hq hv) hc hok
          unfold tplaces at hpl
          split at hpl
          · rename_i fs hu
            refine ⟨.agg cs', fun W => ?_, CR_agg q2⟩
            have hm := mapM_places hpl W
            simp only [Instr.build, Sem.run_bind, run_zeroValue hi hzv, Result.andThen_ok, run_underlying hu]
            rw [Array.mapM_eq_mapM_toList]
            simp only [Sem.run_map, hm, Result.andThen_ok, hmap]
            rw [show (fun (x : Nat) => pl.toArray[x]?) = (fun i => (pl.toArray)[i]?) from rfl, q1]
            rfl
          · cases hpl
    | none =>
      rw [hpl] at hr
      cases ha : tarr P t with
      | none => rw [ha] at hr; cases hr
      | some q =>
        obtain ⟨len, e⟩ := q
        rw [ha] at hr
        simp only [Option.bind_some] at hr
        cases hsz : tsz P e with
        | none => rw [hsz] at hr; simp only [evBuild] at hr; cases hr
        | some sz =>
          rw [hsz] at hr
          simp only [evBuild, evBuildP] at hr
          cases hok : fillOk l.length (placeA sz ρ ps.toList) with
          | false => rw [hok] at hr; cases hr
          | true =>
            rw [hok] at hr
            simp only [cond_true, AR.pure.injEq] at hr
            obtain ⟨_, rfl⟩ := hr
            obtain ⟨cs', q1, q2⟩ := fill_sound (PR_A (z := sz) ps.toList hv) hc hok
            refine ⟨.agg cs', fun W => ?_, CR_agg q2⟩
            have hu := und_of_tarr ha
            simp only [Instr.build, Sem.run_bind, run_zeroValue hi hzv, Result.andThen_ok, run_underlying hu, run_sizeOf hsz, hmap]
            rw [q1]
            rfl

theorem repL_length (l : List AV) (n : Nat) : (repL l n).length = n * l.length := by
  induction n with
  | zero => simp [repL]
  | succ n ih => simp only [repL, List.length_append, ih, Nat.succ_mul]; omega
theorem repL_get (l : List AV) (n i : Nat) (hl : 0 < l.length) (hi : i < n * l.length) : (repL l n)[i]? = l[i % l.length]? := by
  induction n generalizing i with
  | zero => omega
  | succ n ih =>
    simp only [repL]
    by_cases h1 : i < l.length
    · rw [List.getElem?_append_left h1, Nat.mod_eq_of_lt h1]
    · rw [List.getElem?_append_right (by omega), ih _ (by rw [Nat.succ_mul] at hi; omega)]
      congr 1
      rw [Nat.mod_eq_sub_mod (by omega : i ≥ l.length)]

theorem rep_CR {l : List AV} {zs : Array Value} (hc : CR E l zs) (n m : Nat) (hm : m = n * l.length) (hl : 0 < l.length) : CR E (repL l n) ((Array.range m).map fun i => zs[i % zs.size]!) := by
  subst hm
  refine ⟨by simp [repL_length], fun i a v ha hv => ?_⟩
  have hi : i < n * l.length := by
    rcases Nat.lt_or_ge i (n * l.length) with h' | h'
    · exact h'
    · rw [List.getElem?_eq_none (by rw [repL_length]; exact h')] at ha; cases ha
  rw [repL_get l n i hl hi] at ha
  have hlt : i % l.length < zs.size := by rw [← hc.1]; exact Nat.mod_lt _ hl
  have hv' : v = zs[i % l.length] := by
    rw [Array.getElem?_map, Array.getElem?_range, if_pos hi] at hv
    simp only [Option.map_some, Option.some.injEq] at hv
    rw [← hv, ← hc.1, getElem!_pos zs _ hlt]
  exact hc.2 _ a v ha (by rw [hv']; exact Array.getElem?_eq_getElem hlt)

theorem row_of_CR {l : List AV} {cs : Array Value} {z n : Nat} (hc : CR E l cs) (hl : l.length = n * z) :
    n * z ≤ cs.size ∧ ∀ x y, x < n → y < z → ∃ v, cs[x * z + y]? = some v ∧ v.oneCell' = true ∧ VR E (litC z l x y) v := by
  refine ⟨by rw [← hl, hc.1]; exact Nat.le_refl _, fun x y hx hy => ?_⟩
  have h1 := split_lt hx hy
  have h2 : x * z + y < l.length := by omega
  have h3 : x * z + y < cs.size := by rw [← hc.1]; exact h2
  obtain ⟨q1, q2⟩ := hc.2 _ _ _ (getL_some h2) (Array.getElem?_eq_getElem h3)
  exact ⟨_, Array.getElem?_eq_getElem h3, q1, q2⟩

theorem fillA_length (l : List AV) (ps : List (Nat × Nat × AV)) : (fillA l ps).length = l.length := by
  induction ps generalizing l with
  | nil => rfl
  | cons p r ih => obtain ⟨off, z, a⟩ := p; simp only [fillA, ih, putL_length]

theorem newRow_HR {e z n : Nat} {c : Nat → Nat → AV} {cs : Array Value} (H : HR E h) (hs : n * z ≤ cs.size) (hc : ∀ x y, x < n → y < z → ∃ v, cs[x * z + y]? = some v ∧ v.oneCell' = true ∧ VR E (c x y) v) :
    HR (E.push h (.cells cs e)) (h ++ [.row e z n c]) ∧ Ext E h (E.push h (.cells cs e)) (h ++ [.row e z n c]) := by
  refine push_HR H cs e _ ?_
  unfold BR
  rw [show (E.push h (Obj.cells cs e)).σ h.length = some (E.w.heap.size, 0) from upd_same _ _ _]
  refine ⟨cs, heap_alloc_new _ _, by omega, fun x y hx hy => ?_⟩
  obtain ⟨v, q1, q2, q3⟩ := hc x y hx hy
  exact ⟨v, by rw [Nat.zero_add]; exact q1, q2, q3.mono (keep_push H _)⟩

theorem buildSlice_sound {t : TypeId} {len : Nat} {ps : Array (Nat × Operand)} {ρ : Operand → AV} {η : Operand → Value} {ob : Prop} {v : AV} {h' : List ABlk} (H : HR E h) (hv : ∀ p ∈ ps.toList, VR E (ρ p.2) (η p.2))
    (hr : evBuildSlice (tslice P t) ((tslice P t).bind (tsz P)) ((tslice P t).bind (tzero P)) len ρ ps.toList h = .heap ob v h') :
    ∃ r E', (Instr.buildSlice t len (ps.map fun (i, x) => (i, η x))).run P E.w = .ok r E'.w ∧ Ext E h E' h' ∧ HR E' h' ∧ VR E' v r := by
  have hmap : (ps.map fun (i, x) => (i, η x)).toList = ps.toList.map fun (i, x) => (i, η x) := by simp
  cases ht : tslice P t with
  | none => rw [ht] at hr; cases hr
  | some e =>
  rw [ht] at hr
  simp only [Option.bind_some] at hr
  cases hz : tsz P e with
  | none => rw [hz] at hr; cases hr
  | some z =>
  cases hl : tzero P e with
  | none => rw [hz, hl] at hr; cases hr
  | some l =>
  rw [hz, hl] at hr
  simp only [evBuildSlice] at hr
  cases hok : (l.length == z && decide (1 ≤ z) && decide (len * z ≤ 4096) && fillOk (len * z) (placeA z ρ ps.toList)) with
  | false => rw [hok] at hr; cases hr
  | true =>
  rw [hok] at hr
  simp only [cond_true, AR.heap.injEq] at hr
  obtain ⟨_, rfl, rfl⟩ := hr
  simp only [Bool.and_eq_true, beq_iff_eq, decide_eq_true_eq] at hok
  obtain ⟨⟨⟨rfl, hz1⟩, hlen⟩, hfill⟩ := hok
  obtain ⟨i, zv, hi, hzv, habs⟩ := zero_of hl
  have hu := und_of_tslice ht
  have hc : CR E l zv.cells := by simpa using absL_CR (E := E) habs
  have hrep := rep_CR hc len (len * l.length) rfl (by omega)
  obtain ⟨cs', q1, q2⟩ := fill_sound (PR_A (z := l.length) ps.toList hv) hrep (by rw [repL_length]; exact hfill)
  have hlenF : (fillA (repL l len) (placeA l.length ρ ps.toList)).length = len * l.length := by rw [fillA_length, repL_length]
  obtain ⟨r1, r2⟩ := row_of_CR q2 hlenF
  obtain ⟨H1, X1⟩ := newRow_HR (e := e) H r1 r2
  have hbig : ¬ (len * l.length > 16777216) := by omega
  refine ⟨.slice (some ⟨E.w.heap.size, 0, none⟩) len len, _, ?_, X1, H1, VR_new_sl rfl (by rw [← q2.1, hlenF]) (Nat.le_refl _) (maxLen_4096 ?_) rfl⟩
  · by_cases h0 : len * l.length = 0
    · have hcs : Instr.fill (fun i => some (i * l.length, l.length)) ((Array.range (len * l.length)).map fun i => (#[] : Array Value)[i % (#[] : Array Value).size]!) (ps.toList.map fun (i, x) => (i, η x)) = some cs' := by
        rw [← q1, h0]; congr 1
        apply Array.ext
        · simp
        · intro i hi; simp at hi
      simp only [Instr.buildSlice, Sem.run_bind, run_underlying hu, Result.andThen_ok, run_sizeOf hz, if_neg hbig, if_pos h0, Sem.run_pure, hmap, hcs]
      rfl
    · simp only [Instr.buildSlice, Sem.run_bind, run_underlying hu, Result.andThen_ok, run_sizeOf hz, if_neg hbig, if_neg h0, run_zeroValue hi hzv, Sem.run_pure, hmap, q1]
      rfl
  · have := Nat.le_mul_of_pos_right len (show 0 < l.length from by omega)
    omega

theorem make_sound {t : TypeId} {n c v : AV} {un uc : Value} {ob : Prop} {h' : List ABlk} (H : HR E h) (hn : VR E n un) (hc : VR E c uc)
    (hr : evMake (tslice P t) ((tslice P t).bind (tsz P)) ((tslice P t).bind (tby P)) ((tslice P t).bind (tzero P)) n c h = .heap ob v h') (hob : ob) :
    ∃ r E', (Instr.makeSlice t un uc).run P E.w = .ok r E'.w ∧ Ext E h E' h' ∧ HR E' h' ∧ VR E' v r := by
  cases ht : tslice P t with
  | none => rw [ht] at hr; cases hr
  | some e =>
  rw [ht] at hr
  simp only [Option.bind_some] at hr
  cases hz : tsz P e with
  | none => rw [hz] at hr; cases hr
  | some z =>
  cases hb : tby P e with
  | none => rw [hz, hb] at hr; cases hr
  | some by_ =>
  cases hl : tzero P e with
  | none => rw [hz, hb, hl] at hr; cases hr
  | some l =>
  rw [hz, hb, hl] at hr
  unfold evMake at hr
  split at hr
  · rename_i e' z' b' l' n c h1 h2 h3 h4
    injection h1 with h1; injection h2 with h2; injection h3 with h3; injection h4 with h4
    subst h1 h2 h3 h4
    cases hok : (l.length == z && decide (1 ≤ z)) with
    | false => rw [hok] at hr; cases hr
    | true =>
    rw [hok] at hr
    simp only [cond_true, AR.heap.injEq] at hr
    obtain ⟨rfl, rfl, rfl⟩ := hr
    obtain ⟨o1, o2, o3, o4⟩ := hob
    simp only [Bool.and_eq_true, beq_iff_eq, decide_eq_true_eq] at hok
    obtain ⟨rfl, hz1⟩ := hok
    obtain rfl := VR_int hn
    obtain rfl := VR_int hc
    obtain ⟨i, zv, hi, hzv, habs⟩ := zero_of hl
    obtain ⟨i', hi', hby⟩ := info_of_tby hb
    rw [hi] at hi'; cases hi'
    have hu := und_of_tslice ht
    have hcz : CR E l zv.cells := by simpa using absL_CR (E := E) habs
    have hrep := rep_CR hcz c.toNat (c.toNat * l.length) rfl (by omega)
    have wn : IntKind.i64.wrap n = n := IntWalk.i64_in _ (by omega)
    have wc : IntKind.i64.wrap c = c := IntWalk.i64_in _ (by omega)
    have hrow : n.toNat * l.length ≤ ((Array.range (c.toNat * l.length)).map fun i => zv.cells[i % zv.cells.size]!).size ∧ ∀ x y, x < n.toNat → y < l.length → ∃ v, ((Array.range (c.toNat * l.length)).map fun i => zv.cells[i % zv.cells.size]!)[x * l.length + y]? = some v ∧ v.oneCell' = true ∧ VR E (getL l y) v := by
      refine ⟨by rw [← hrep.1, repL_length]; exact Nat.mul_le_mul_right _ (by omega), fun x y hx hy => ?_⟩
      have h1 := split_lt (show x < c.toNat from by omega) hy
      have h3 : x * l.length + y < ((Array.range (c.toNat * l.length)).map fun i => zv.cells[i % zv.cells.size]!).size := by rw [← hrep.1, repL_length]; exact h1
      obtain ⟨q1, q2⟩ := hrep.2 (x * l.length + y) (getL l y) _ (by
        rw [repL_get _ _ _ (by omega) h1, Nat.mul_comm x, Nat.mul_add_mod, Nat.mod_eq_of_lt hy, getL_some hy]) (Array.getElem?_eq_getElem h3)
      exact ⟨_, Array.getElem?_eq_getElem h3, q1, q2⟩
    obtain ⟨H1, X1⟩ := newRow_HR (e := e) (z := l.length) (n := n.toNat) (c := fun _ y => getL l y) H hrow.1 hrow.2
    refine ⟨.slice (some ⟨E.w.heap.size, 0, none⟩) n.toNat c.toNat, _, ?_, X1, H1, VR_new_sl rfl (by rw [← hrep.1, repL_length]) (by omega) (by unfold maxLen; omega) rfl⟩
    have m1 : ¬ c < 0 := by omega
    have m2 : ¬ (281474976710656 < (i.bytes : Int) * c) := by rw [hby]; omega
    have m3 : ¬ n < 0 := by omega
    have m4 : ¬ c < n := by omega
    have m5 : ¬ (140737488355328 < c.toNat * i.bytes) := by
      rw [hby]
      have e1 : ((c.toNat * by_ : Nat) : Int) = (by_ : Int) * c := by rw [Int.natCast_mul, Int.toNat_of_nonneg (by omega), Int.mul_comm]
      omega
    have ms : i.size = l.length := by
      have := run_sizeOf (w := E.w) hz
      simpa [sizeOf, typeInfo, hi] using this
    have hx : c.toNat * l.length = 0 → ((Array.range (c.toNat * l.length)).map fun _ => (default : Value)) = ((Array.range (c.toNat * l.length)).map fun i => zv.cells[i % zv.cells.size]!) := by
      intro h0
      apply Array.ext
      · simp
      · intro i hi; simp [h0] at hi
    by_cases h0 : c.toNat * l.length = 0
    · have hx := hx h0
      rw [h0] at hx
      simp [Instr.makeSlice, run_underlying hu, asInt, asIntOf, typeInfo, hi, sizeOf, ms, wn, wc, m1, m2, m3, m4, h0, newRow, askRoom, roomBytes, Env.push, hx]
    · simp [Instr.makeSlice, run_underlying hu, asInt, asIntOf, typeInfo, hi, sizeOf, ms, zeroValue, hzv, wn, wc, m1, m2, m3, m4, newRow, askRoom, roomBytes, Env.push]
      intro h1
      rw [hx h1]
  · cases hr
end
end Go.Am
