/-
  A machine that computes, part 9: regions that draw their order.
-/
import Derived.Test.YtiameicjjlfimaaCm8
namespace Go.Am
noncomputable section
set_option linter.unusedVariables false
set_option linter.unusedSimpArgs false
variable {P : Program}

theorem fget_e (m i : Nat) : fget m .e i = .top := by
  unfold fget
  cases Nat.ble m 64 <;> rfl
theorem hget_e (i : Nat) : hget .e i = .dead := by
  unfold hget
  cases Nat.blt i 64 <;> rfl
theorem hget_set {f : Hp} {d i : Nat} {v : CB} (hd : d < 4096) (hi : i < 4096) : hget (hset f d v) i = if d = i then v else hget f i := hget_set0 f d i v hd hi
theorem keepF_get {m : Nat} {f : Fr} (hm : m ≤ 1024) (ds : List Nat) : ∀ (g : Fr) (i : Nat), i < m → fget m (keepF m f ds g) i = if i ∈ ds then fget m f i else fget m g i := by
  induction ds with
  | nil => intro g i hi; simp [keepF]
  | cons d r ih =>
    intro g i hi
    simp only [keepF]
    split
    · rename_i hd
      rw [ih _ i hi, fget_set m g d i _ hm (nblt.1 hd) hi]
      by_cases h1 : i ∈ r
      · simp [h1]
      · by_cases h2 : d = i
        · subst h2; simp [h1]
        · rw [if_neg h1, if_neg h2, if_neg (by simp [h1]; exact fun e => h2 e.symm)]
    · rename_i hd
      have hne : i ≠ d := by rintro rfl; rw [nblt.2 hi] at hd; cases hd
      rw [ih _ i hi]
      by_cases h1 : i ∈ r
      · simp [h1]
      · rw [if_neg h1, if_neg (by simp [h1, hne])]
theorem keepF_T {m : Nat} {f : Fr} (hm : m ≤ 1024) (ds : List Nat) : T m (keepF m f ds .e) = keepT ds (T m f) := by
  unfold keepT
  rw [T_length]
  conv => lhs; unfold T
  apply List.map_congr_left
  intro i hi
  rw [List.mem_range] at hi
  rw [keepF_get hm ds .e i hi, T_get hi, fget_e]
  by_cases h1 : i ∈ ds
  · rw [if_pos h1, inL_mem.2 h1]; rfl
  · rw [if_neg h1]
    have : inL i ds = false := by rw [← Bool.not_eq_true, inL_mem]; exact h1
    rw [this]; simp [toAV]
theorem keepH_get {n : Nat} {h : Hp} (hn : n ≤ 4096) (ds : List Nat) : ∀ (g : Hp) (i : Nat), i < n → hget (keepH n h ds g) i = if i ∈ ds then hget h i else hget g i := by
  induction ds with
  | nil => intro g i hi; simp [keepH]
  | cons d r ih =>
    intro g i hi
    simp only [keepH]
    split
    · rename_i hd
      rw [ih _ i hi, hget_set (by have := nblt.1 hd; omega) (by omega)]
      by_cases h1 : i ∈ r
      · simp [h1]
      · by_cases h2 : d = i
        · subst h2; simp [h1]
        · rw [if_neg h1, if_neg h2, if_neg (by simp [h1]; exact fun e => h2 e.symm)]
    · rename_i hd
      have hne : i ≠ d := by rintro rfl; rw [nblt.2 hi] at hd; cases hd
      rw [ih _ i hi]
      by_cases h1 : i ∈ r
      · simp [h1]
      · rw [if_neg h1, if_neg (by simp [h1, hne])]
theorem keepH_H {n : Nat} {h : Hp} (hn : n ≤ 4096) (ds : List Nat) : H n (keepH n h ds .e) = mask ds (H n h) := by
  apply List.ext_getElem?
  intro i
  rw [mask_get]
  unfold H
  rw [mapRange_get, mapRange_get]
  by_cases hi : i < n
  · rw [if_pos hi, if_pos hi, keepH_get hn ds .e i hi]
    simp only [Option.map_some, Option.some.injEq]
    by_cases h1 : i ∈ ds
    · rw [if_pos h1, inL_mem.2 h1]; rfl
    · rw [if_neg h1]
      have : inL i ds = false := by rw [← Bool.not_eq_true, inL_mem]; exact h1
      rw [this, hget_e]; rfl
  · rw [if_neg hi, if_neg hi]; rfl
theorem keepH_wk {n : Nat} {h : Hp} (hn : n ≤ 4096) (ds : List Nat) : HWk (H n (keepH n h ds .e)) (H n h) := by
  refine ⟨by rw [H_length, H_length], fun i hi => ?_⟩
  rw [H_length] at hi
  rw [H_get hi, H_get hi, keepH_get hn ds .e i hi]
  by_cases h1 : i ∈ ds
  · rw [if_pos h1]; exact .refl _
  · rw [if_neg h1, hget_e]
    exact ⟨fun hc => absurd rfl hc, fun _ _ _ => trivial⟩
theorem plcH_get {hh : Hp} (rs : List Nat) (hrs : ∀ b ∈ rs, b < 4096) : ∀ (h : Hp) (i : Nat), i < 4096 → hget (plcH hh rs h) i = if i ∈ rs then hget hh i else hget h i := by
  induction rs with
  | nil => intro h i hi; simp [plcH]
  | cons b r ih =>
    intro h i hi
    simp only [plcH]
    rw [ih (fun b hb => hrs b (List.mem_cons_of_mem _ hb)) _ i hi, hget_set (hrs b (List.mem_cons_self ..)) hi]
    by_cases h1 : i ∈ r
    · simp [h1]
    · by_cases h2 : b = i
      · subst h2; simp [h1]
      · rw [if_neg h1, if_neg h2, if_neg (by simp [h1]; exact fun e => h2 e.symm)]
theorem plcN_get {hh : Hp} {L : Nat} : ∀ (k i s : Nat) (h : Hp) (j : Nat), s + k ≤ 4096 → j < 4096 → hget (plcN hh L k i s h) j = if s ≤ j ∧ j < s + k then hget hh (L + (i + (j - s))) else hget h j := by
  intro k
  induction k with
  | zero => intro i s h j hs hj; simp only [plcN]; rw [if_neg (by omega)]
  | succ k ih =>
    intro i s h j hs hj
    simp only [plcN]
    rw [ih (i + 1) (s + 1) _ j (by omega) hj, hget_set (by omega) hj]
    by_cases h1 : s + 1 ≤ j ∧ j < s + 1 + k
    · rw [if_pos h1, if_pos (by omega)]; congr 2; omega
    · rw [if_neg h1]
      by_cases h2 : s = j
      · subst h2; rw [if_pos rfl, if_pos (by omega)]; congr 2; omega
      · rw [if_neg h2, if_neg (by omega)]
theorem ltAll_iff {n : Nat} {l : List Nat} : ltAll n l = true ↔ ∀ b ∈ l, b < n := by
  induction l with
  | nil => simp [ltAll]
  | cons b l ih =>
    simp only [ltAll]
    cases hb : Nat.blt b n with
    | true => simp only [ih]; have := nblt.1 hb; simp [this]
    | false =>
      have : ¬ b < n := by rw [← nblt, hb]; simp
      simp [this]
theorem plc_H {hh h : Hp} {L n' s : Nat} {rs : List Nat} (hL : L ≤ 4096) (hn : L ≤ n') (hs : s + (n' - L) ≤ L) (hrs : ∀ b ∈ rs, b < L) :
    H L (plcN hh L (n' - L) 0 s (plcH hh rs h)) = place rs s (H n' hh) (H L h) := by
  apply List.ext_getElem?
  intro i
  rw [place_get, H_length, H_length]
  by_cases hi : i < L
  · have e1 : (H L (plcN hh L (n' - L) 0 s (plcH hh rs h)))[i]? = some (toB (hget (plcN hh L (n' - L) 0 s (plcH hh rs h)) i)) := by
      unfold H; rw [mapRange_get, if_pos hi]
    have e2 : (H L h)[i]? = some (toB (hget h i)) := by unfold H; rw [mapRange_get, if_pos hi]
    rw [e1, e2, plcN_get _ _ _ _ _ (by omega) (by omega), plcH_get rs (fun b hb => by have := hrs b hb; omega) _ _ (by omega)]
    simp only [Option.map_some, Option.some.injEq]
    by_cases h1 : s ≤ i ∧ i < s + (n' - L)
    · rw [if_pos h1, show (decide (s ≤ i) && decide (i < s + (n' - L))) = true from by simp [h1.1, h1.2]]
      simp only [cond_true]
      rw [H_get (by omega)]
      congr 2; omega
    · rw [if_neg h1, show (decide (s ≤ i) && decide (i < s + (n' - L))) = false from by rw [← Bool.not_eq_true, Bool.and_eq_true, decide_eq_true_eq, decide_eq_true_eq]; exact h1]
      simp only [cond_false]
      by_cases h2 : i ∈ rs
      · rw [if_pos h2, inL_mem.2 h2]; simp only [cond_true]; rw [H_get (by omega)]
      · rw [if_neg h2]
        have : inL i rs = false := by rw [← Bool.not_eq_true, inL_mem]; exact h2
        rw [this]; rfl
  · rw [List.getElem?_eq_none (by rw [H_length]; omega), List.getElem?_eq_none (by rw [H_length]; omega)]; rfl
theorem rnN_blt (L s b : Nat) : (match Nat.blt b L with | true => b | false => s + (b - L)) = rnN L s b := by
  unfold rnN
  cases hb : Nat.blt b L with
  | true => rw [show decide (b < L) = true from by simpa using nblt.1 hb]; rfl
  | false => rw [show decide (b < L) = false from by rw [decide_eq_false_iff_not, ← nblt, hb]; simp]; rfl
mutual
theorem crn_ren (L s : Nat) : ∀ v : CV, toAV (crn L s v) = ren L s (toAV v)
  | .ptr b es i j => by simp only [crn, toAV, ren]; congr 1; exact rnN_blt L s b
  | .sl b es i n nl => by simp only [crn, toAV, ren]; congr 1; exact rnN_blt L s b
  | .isl b es i j z n => by simp only [crn, toAV, ren]; congr 1; exact rnN_blt L s b
  | .agg l => by simp only [crn, toAV, ren, crnL_ren L s l]
  | .tup l => by simp only [crn, toAV, ren, crnL_ren L s l]
  | .fn f l => by simp only [crn, toAV, ren, crnL_ren L s l]
  | .opt g v => by simp only [crn, toAV, ren, crn_ren L s v]
  | .top => by simp only [crn, toAV, ren]
  | .bool b => by simp only [crn, toAV, ren]
  | .int k n => by simp only [crn, toAV, ren]
  | .str x => by simp only [crn, toAV, ren]
  | .nilp => by simp only [crn, toAV, ren]
  | .rptr es i j r => by simp only [crn, toAV, ren]
  | .ro es nl r => by simp only [crn, toAV, ren]
  | .emp => by simp only [crn, toAV, ren]
  | .nilf => by simp only [crn, toAV, ren]
theorem crnL_ren (L s : Nat) : ∀ l : List CV, toAVL (crnL L s l) = renL L s (toAVL l)
  | [] => by simp only [crnL, toAVL, renL]
  | a :: l => by simp only [crnL, toAVL, renL, crn_ren L s a, crnL_ren L s l]
end
theorem crefsL_cons (a : CV) (l : List CV) : crefsL (a :: l) = crefs a ++ crefsL l := by
  simp only [crefsL]
  split <;> simp_all
theorem crefsR_cons (a : List CV) (l : List (List CV)) : crefsR (a :: l) = crefsL a ++ crefsR l := by
  simp only [crefsR]
  split <;> simp_all
mutual
theorem nr_crefs (L : Nat) : ∀ v : CV, (∀ b ∈ crefs v, b < L) → nr L (toAV v)
  | .ptr b es i j, h => by simp only [toAV, nr]; exact h b (by simp [crefs])
  | .sl b es i n nl, h => by simp only [toAV, nr]; exact h b (by simp [crefs])
  | .isl b es i j z n, h => by simp only [toAV, nr]; exact h b (by simp [crefs])
  | .agg l, h => by simp only [toAV, nr]; exact nrL_crefs L l (by simpa only [crefs] using h)
  | .tup l, h => by simp only [toAV, nr]; exact nrL_crefs L l (by simpa only [crefs] using h)
  | .fn f l, h => by simp only [toAV, nr]; exact nrL_crefs L l (by simpa only [crefs] using h)
  | .opt g v, h => by simp only [toAV, nr]; exact nr_crefs L v (by simpa only [crefs] using h)
  | .top, h => by simp only [toAV, nr]
  | .bool b, h => by simp only [toAV, nr]
  | .int k n, h => by simp only [toAV, nr]
  | .str x, h => by simp only [toAV, nr]
  | .nilp, h => by simp only [toAV, nr]
  | .rptr es i j r, h => by simp only [toAV, nr]
  | .ro es nl r, h => by simp only [toAV, nr]
  | .emp, h => by simp only [toAV, nr]
  | .nilf, h => by simp only [toAV, nr]
theorem nrL_crefs (L : Nat) : ∀ l : List CV, (∀ b ∈ crefsL l, b < L) → nrL L (toAVL l)
  | [], h => by simp only [toAVL, nrL]
  | a :: l, h => by
    rw [crefsL_cons] at h
    simp only [toAVL, nrL]
    exact ⟨nr_crefs L a fun b hb => h b (List.mem_append_left _ hb), nrL_crefs L l fun b hb => h b (List.mem_append_right _ hb)⟩
end
theorem nr_getL {L : Nat} {l : List AV} (h : nrL L l) (y : Nat) : nr L (getL l y) := by
  by_cases hy : y < l.length
  · exact nrL_get h (getL_some hy)
  · rw [getL_ge (by omega)]; simp only [nr]
theorem nrB_crefs {L : Nat} {x : CB} (h : ∀ b ∈ crefsB x, b < L) : nrB L (toB x) := by
  cases x with
  | dead => trivial
  | lit e l => exact nrL_crefs L l h
  | row e es r =>
    simp only [toB, nrB, crefsB] at h ⊢
    intro x y hx hy
    have key : ∀ (r : List (List CV)) (x : Nat), (∀ b ∈ crefsR r, b < L) → nr L (getL (getR (toAVR r) x) y) := by
      intro r
      induction r with
      | nil => intro x _; simp only [toAVR, getR, getL, nr]
      | cons a r ih =>
        intro x hr
        rw [crefsR_cons] at hr
        cases x with
        | zero => simp only [toAVR, getR]; exact nr_getL (nrL_crefs L a fun b hb => hr b (List.mem_append_left _ hb)) y
        | succ x => simp only [toAVR, getR]; exact ih x fun b hb => hr b (List.mem_append_right _ hb)
    exact key r x h
theorem nrC_iff {L : Nat} {hh : Hp} {l : List Nat} (h : nrC L hh l = true) : ∀ b ∈ l, nrB L (toB (hget hh b)) := by
  induction l with
  | nil => intro b hb; cases hb
  | cons a l ih =>
    simp only [nrC] at h
    split at h
    · rename_i ha
      intro b hb
      cases hb with
      | head => exact nrB_crefs (ltAll_iff.1 ha)
      | tail _ hb => exact ih h b hb
    · cases h
theorem nrH_of {L : Nat} {l : List ABlk} (h : ∀ (i : Nat) (x : ABlk), l[i]? = some x → nrB L x) : nrH L l := by
  induction l with
  | nil => trivial
  | cons a l ih => exact ⟨h 0 a rfl, ih fun i x hx => h (i + 1) x (by simpa using hx)⟩

/-! ### The trace -/
def TrA (P : Program) (ops : Array Oper) (an : List (List Nat)) (L : Nat) (l : List Oper) (i : Nat) (log : List LogE) (s : Nat) (t : List AV) (h : List ABlk) (tF : List AV) (hF : List ABlk) : Prop :=
  ∃ (tt : Nat → List AV) (hh : Nat → List ABlk) (ss : Nat → Nat) (rs tg : Nat → List Nat), tt i = t ∧ hh i = h ∧ ss i = s ∧
    (∀ (j : Nat) (o : Oper), l[j]? = some o → StepS P ops L o (tt (i + j)) (hh (i + j)) (ss (i + j)) (tt (i + j + 1)) (hh (i + j + 1)) (ss (i + j + 1)) (rs (i + j)) (tg (i + j))) ∧
    (∀ j, j < l.length → ∀ e ∈ log, tg (i + j) = [] ∧ rs (i + j) = [] ∨ pairOk an (i + j) (rs (i + j)) (tg (i + j)) e = true) ∧
    (∀ j1 j2, j1 < j2 → j2 < l.length → tg (i + j2) = [] ∧ rs (i + j2) = [] ∨ pairOk an (i + j2) (rs (i + j2)) (tg (i + j2)) (i + j1, rs (i + j1), tg (i + j1)) = true) ∧
    ss (i + l.length) ≤ L ∧ tt (i + l.length) = tF ∧ hh (i + l.length) = hF
theorem TrA_cons {ops : Array Oper} {an : List (List Nat)} {L : Nat} {o : Oper} {l : List Oper} {i : Nat} {log log' : List LogE} {s s' : Nat} {t t' : List AV} {h h' : List ABlk} {tF : List AV} {hF : List ABlk} {rs0 tg0 : List Nat}
    (st : StepS P ops L o t h s t' h' s' rs0 tg0) (hlog : tg0 = [] ∧ rs0 = [] ∨ okLog an i rs0 tg0 log = true) (hl1 : ∀ e ∈ log, e ∈ log') (hl2 : (i, rs0, tg0) ∈ log' ∨ tg0 = [] ∧ rs0 = [])
    (hr : TrA P ops an L l (i + 1) log' s' t' h' tF hF) : TrA P ops an L (o :: l) i log s t h tF hF := by
  obtain ⟨tt, hh, ss, rs, tg, e1, e2, e3, g1, g2, g3, g4, g5, g6⟩ := hr
  refine ⟨fun j => if j = i then t else tt j, fun j => if j = i then h else hh j, fun j => if j = i then s else ss j, fun j => if j = i then rs0 else rs j, fun j => if j = i then tg0 else tg j, by simp, by simp, by simp, fun j o' hj => ?_, fun j hj e he => ?_, fun j1 j2 h12 hj => ?_, ?_, ?_, ?_⟩
  · cases j with
    | zero =>
      simp only [List.getElem?_cons_zero, Option.some.injEq] at hj
      subst hj
      simp only [Nat.add_zero, if_true, show ¬ (i + 1 = i) from by omega, if_false, e1, e2, e3]
      exact st
    | succ j =>
      have := g1 j o' (by simpa using hj)
      simp only [show ¬ (i + (j + 1) = i) from by omega, show ¬ (i + (j + 1) + 1 = i) from by omega, if_false]
      rw [show i + (j + 1) = i + 1 + j from by omega]
      exact this
  · cases j with
    | zero =>
      simp only [Nat.add_zero, if_true]
      rcases hlog with hl | hl
      · exact .inl hl
      · exact .inr (okLog_mem hl e he)
    | succ j =>
      simp only [show ¬ (i + (j + 1) = i) from by omega, if_false]
      rw [show i + (j + 1) = i + 1 + j from by omega]
      exact g2 j (by simpa using hj) e (hl1 e he)
  · cases j2 with
    | zero => omega
    | succ j2 =>
      simp only [show ¬ (i + (j2 + 1) = i) from by omega, if_false]
      rw [show i + (j2 + 1) = i + 1 + j2 from by omega]
      cases j1 with
      | zero =>
        simp only [Nat.add_zero, if_true]
        rcases hl2 with hl2 | ⟨rfl, rfl⟩
        · exact g2 j2 (by simpa using hj) _ hl2
        · refine .inr ?_
          simp [pairOk, hit, hit_nil]
      | succ j1 =>
        simp only [show ¬ (i + (j1 + 1) = i) from by omega, if_false]
        rw [show i + (j1 + 1) = i + 1 + j1 from by omega]
        exact g3 j1 j2 (by omega) (by simpa using hj)
  · simp only [List.length_cons, show ¬ (i + (l.length + 1) = i) from by omega, if_false]
    rw [show i + (l.length + 1) = i + 1 + l.length from by omega]; exact g4
  · simp only [List.length_cons, show ¬ (i + (l.length + 1) = i) from by omega, if_false]
    rw [show i + (l.length + 1) = i + 1 + l.length from by omega]; exact g5
  · simp only [List.length_cons, show ¬ (i + (l.length + 1) = i) from by omega, if_false]
    rw [show i + (l.length + 1) = i + 1 + l.length from by omega]; exact g6
theorem Trip.wk {o : Oper} {t : List AV} {g hh hh' : List ABlk} {v : AV} (h : Trip P o t g v hh) (hw : HWk hh' hh) : Trip P o t g v hh' := by
  intro E a K Q R F next
  exact h E a K Q R F fun r E' X R' V => next r E' (hw.ext X) (hw.hr R') V
theorem slot_look {ops : Array Oper} {o : Oper} {d : Nat} (h : Operand.tmp d ∈ o.op.operands.toList) : d ∈ o.looksAt ops :=
  List.mem_append_left _ (List.mem_filterMap.2 ⟨.tmp d, by simpa using h, rfl⟩)
theorem crho_keep {m : Nat} {f : Fr} (hm : m ≤ 1024) {ds : List Nat} {x : Operand} (hx : ∀ d, x = .tmp d → d ∈ ds) : crho m (keepF m f ds .e) x = crho m f x := by
  cases x with
  | tmp i =>
    simp only [crho]
    split
    · rename_i hi
      rw [keepF_get hm ds .e i (nblt.1 hi), if_pos (hx i rfl)]
    · rfl
  | _ => rfl
theorem cLoad_keep {ag : Option Bool} {z : Option Nat} {p : CV} {n : Nat} {h : Hp} (hn : n ≤ 4096) {rs : List Nat} (hr : ∀ b ∈ crefs p, b ∈ rs) : cLoad ag z p n (keepH n h rs .e) = cLoad ag z p n h := by
  unfold cLoad
  split
  · rename_i ag m b es i j
    split
    · rename_i hb
      rw [keepH_get hn rs .e b (nblt.1 hb), if_pos (hr b (by simp [crefs]))]
    · rfl
  · rfl
  · rfl
theorem read_keep {sh : TypeId → Option (List Leaf)} {cl : Cl} {ops : Array Oper} {m L : Nat} (hm : m ≤ 1024) (hL : L ≤ 4096) {o : Oper} {f : Fr} {h : Hp} (hr : readOp o.op = true) :
    cX P sh cl m (keepF m f (o.looksAt ops) .e) L (keepH L h (crs m f h o.op) .e) o.op = cX P sh cl m f L h o.op := by
  have key : ∀ x, x ∈ o.op.operands.toList → crho m (keepF m f (o.looksAt ops) .e) x = crho m f x := fun x hx => crho_keep hm fun d hd => slot_look (by rw [← hd]; exact hx)
  have keyO : ∀ (x : Option Operand), (∀ y, x = some y → y ∈ o.op.operands.toList) → crhoO m (keepF m f (o.looksAt ops) .e) x = crhoO m f x := by
    intro x hx
    cases x with
    | none => rfl
    | some y => simp only [crhoO, key y (hx y rfl)]
  generalize ho : o.op = op at *
  cases op <;> first | (simp only [readOp] at hr; cases hr; done) | skip
  case move x => simp only [cX, cO, key x (by simp [Op.operands])]
  case assign x => simp only [cX, cO, key x (by simp [Op.operands])]
  case pick c a b => simp only [cX, cO, key c (by simp [Op.operands]), key a (by simp [Op.operands]), key b (by simp [Op.operands])]
  case load y a =>
    simp only [cX, cO, key a (by simp [Op.operands])]
    cases ha : crho m f a with
    | none => rfl
    | some p =>
      simp only [c1]
      rw [cLoad_keep hL]
      intro b hb
      simp only [crs, crefsO, ha]
      exact List.mem_append_left _ hb
  case nilCheck x => simp only [cX, cO, key x (by simp [Op.operands])]
  case binOp op y a b yt => simp only [cX, cO, key a (by simp [Op.operands]), key b (by simp [Op.operands])]
  case unOp op y x => simp only [cX, cO, key x (by simp [Op.operands])]
  case slice y x lo hi mx =>
    simp only [cX, cO, key x (by simp [Op.operands]), keyO lo (by intro y h; subst h; simp [Op.operands]), keyO hi (by intro y h; subst h; simp [Op.operands]), keyO mx (by intro y h; subst h; simp [Op.operands])]
  case fieldAddr s x k => simp only [cX, cO, key x (by simp [Op.operands])]
  case field s x k => simp only [cX, cO, key x (by simp [Op.operands])]
  case indexAddr y a b => simp only [cX, cO, key a (by simp [Op.operands]), key b (by simp [Op.operands])]
  case index y a b => simp only [cX, cO, key a (by simp [Op.operands]), key b (by simp [Op.operands])]
  case extract x i => simp only [cX, cO, key x (by simp [Op.operands])]
theorem stepX_ok {sh : TypeId → Option (List Leaf)} (S : ShOk P sh) {cl : Cl} (C : ClOk P cl) {ops : Array Oper} {m L : Nat} (hm : m ≤ 1024) (hL : L ≤ 4096) (o : Oper) (f : Fr) (h : Hp) :
    CRok P o (keepT (o.looksAt ops) (T m f)) L (keepH L h (crs m f h o.op) .e) (stepX P sh cl ops L m o f h (crs m f h o.op) (readOp o.op)) := by
  have hx := cX_ok S C m (keepF m f (o.looksAt ops) .e) L (keepH L h (crs m f h o.op) .e) o
  rw [keepF_T hm] at hx
  unfold stepX
  split
  · rename_i hb
    rw [read_keep hm hL hb] at hx
    rw [kX_eq]
    split
    · rename_i v hv
      rw [hv] at hx
      exact hx
    · trivial
  · rw [kX_eq]; exact hx
theorem cDr_ok {sh : TypeId → Option (List Leaf)} (S : ShOk P sh) {cl : Cl} (C : ClOk P cl) {ops : Array Oper} {an : List (List Nat)} {L m : Nat} (hm : m ≤ 1024) (hL : L ≤ 4096) : ∀ (l : List Oper) (i : Nat) (log : List LogE) (s : Nat) (f : Fr) (h : Hp) (f' : Fr) (h' : Hp),
    cDr P sh cl ops an L m l i log s f h = some (f', h') → TrA P ops an L l i log s (T m f) (H L h) (T m f') (H L h') := by
  intro l
  induction l with
  | nil =>
    intro i log s f h f' h' hr
    simp only [cDr] at hr
    split at hr
    · rename_i hs
      injection hr with hr; cases hr
      exact ⟨fun _ => T m f, fun _ => H L h, fun _ => s, fun _ => [], fun _ => [], rfl, rfl, rfl, fun j o hj => by simp at hj, fun j hj => by simp at hj, fun j1 j2 _ hj => by simp at hj, nble_iff.1 hs, rfl, rfl⟩
    · cases hr
  | cons o l ih =>
    intro i log s f h f' h' hr
    obtain ⟨g1, g2⟩ := cGuard_ok (all := ops.toList) (m := m) (f := f) (g := o.guard)
    simp only [cDr] at hr
    split at hr
    · cases hr
    · rename_i hg
      split at hr
      · rename_i f1 hf
        refine TrA_cons (rs0 := []) (tg0 := []) (.inl ⟨rfl, rfl, rfl, g2 _ hg, toAV (.bool false), ?_⟩) (.inl ⟨rfl, rfl⟩) (fun e he => he) (.inr ⟨rfl, rfl⟩) (ih _ _ _ _ _ _ _ hr)
        rw [← cset_ok hm hf]
        simp only [toAV]
      · cases hr
    · rename_i g hgf hg
      have gv : ∀ (v v' : CV) (wv : AV), toAV (wrapG g v) = wv → (gval (T m f) ops.toList o.guard = .none ∧ wv = toAV v ∨ gval (T m f) ops.toList o.guard = .g true ∧ wv = .opt true (toAV v)) := by
        intro v v' wv hwv
        cases g with
        | none => exact .inl ⟨g1 hg, hwv.symm⟩
        | some b =>
          cases b with
          | true => exact .inr ⟨g2 _ hg, by rw [← hwv]; simp only [wrapG, toAV]⟩
          | false => exact absurd rfl hgf
      have hx := stepX_ok S C (ops := ops) hm hL o f h
      split at hr
      · cases hr
      · rename_i v hv
        rw [hv] at hx
        split at hr
        · rename_i f1 hk hf
          have hx : Trip P o (keepT (o.looksAt ops) (T m f)) (H L (keepH L h (crs m f h o.op) .e)) (toAV v) (H L (keepH L h (crs m f h o.op) .e)) := hx
          rw [keepH_H hL] at hx
          have hst : StepS P ops L o (T m f) (H L h) s (T m f1) (H L h) s (crs m f h o.op) [] :=
            .inr (.inl ⟨rfl, rfl, rfl, toAV v, toAV (wrapG g v), gv v v _ rfl, hx, (cset_ok hm hf).symm⟩)
          cases hrs : crs m f h o.op with
          | nil =>
            rw [hrs] at hr hst hk
            exact TrA_cons hst (.inr hk) (fun e he => he) (.inr ⟨rfl, rfl⟩) (ih _ _ _ _ _ _ _ hr)
          | cons b rs =>
            rw [hrs] at hr hst hk
            exact TrA_cons hst (.inr hk) (fun e he => List.mem_cons_of_mem _ he) (.inl (List.mem_cons_self ..)) (ih _ _ _ _ _ _ _ hr)
        · cases hr
      · rename_i v n' hh hv
        rw [hv] at hx
        split at hr
        · rename_i f1 hk hf
          simp only [Bool.and_eq_true, nble_iff] at hk
          obtain ⟨⟨⟨k1, k2⟩, k3⟩, k4⟩ := hk
          have k4 := ltAll_iff.1 k4
          obtain ⟨hn, hx⟩ := (show L ≤ n' ∧ Trip P o (keepT (o.looksAt ops) (T m f)) (H L (keepH L h (crs m f h o.op) .e)) (toAV v) (H n' hh) from hx)
          rw [keepH_H hL] at hx
          generalize hrs : crs m f h o.op = rs at *
          -- n' may be large: the new blocks are few
          have hn' : n' ≤ 2 * L := by omega
          let hF : List ABlk := (List.range n').map fun b => bif decide (L ≤ b) || inL b rs then toB (hget hh b) else .dead
          have hFg : ∀ b, b < n' → geth hF b = bif decide (L ≤ b) || inL b rs then toB (hget hh b) else .dead := fun b hb => geth_map _ _ _ hb
          have hFl : hF.length = n' := by simp [hF]
          have hw : HWk hF (H n' hh) := by
            refine ⟨by rw [hFl, H_length], fun b hb => ?_⟩
            rw [H_length] at hb
            rw [hFg b hb, H_get hb]
            cases (decide (L ≤ b) || inL b rs) with
            | true => exact .refl _
            | false => exact ⟨fun hc => absurd rfl hc, fun _ _ _ => trivial⟩
          have hnr : nrH L hF := by
            refine nrH_of fun b x hb => ?_
            obtain ⟨q1, q2⟩ := geth_of hb
            rw [hFl] at q2
            rw [hFg b q2] at q1
            subst q1
            cases hc : (decide (L ≤ b) || inL b rs) with
            | false => trivial
            | true =>
              refine nrC_iff k2 b ?_
              rw [Bool.or_eq_true, decide_eq_true_eq] at hc
              rcases hc with hc | hc
              · refine List.mem_append_right _ (inL_mem.1 ?_)
                rw [inL_slots]; simp; omega
              · exact List.mem_append_left _ (inL_mem.1 hc)
          have hpl : H L (plcN hh L (n' - L) 0 s (plcH hh rs h)) = place rs s hF (H L h) := by
            rw [plc_H hL hn k3 k4]
            apply List.ext_getElem?
            intro b
            rw [place_get, place_get, H_length, H_length, hFl]
            by_cases hb : b < L
            · have e2 : (H L h)[b]? = some (toB (hget h b)) := by unfold H; rw [mapRange_get, if_pos hb]
              rw [e2]
              simp only [Option.map_some, Option.some.injEq]
              cases hc : (decide (s ≤ b) && decide (b < s + (n' - L))) with
              | true =>
                simp only [cond_true]
                rw [Bool.and_eq_true, decide_eq_true_eq, decide_eq_true_eq] at hc
                rw [hFg _ (by omega), H_get (by omega), show decide (L ≤ L + (b - s)) = true from by simp]
                rfl
              | false =>
                simp only [cond_false]
                cases hr2 : inL b rs with
                | true => simp only [cond_true]; rw [hFg _ (by omega), H_get (by omega), hr2, Bool.or_true]; rfl
                | false => rfl
            · rw [List.getElem?_eq_none (by rw [H_length]; omega)]; rfl
          have hst : StepS P ops L o (T m f) (H L h) s (T m f1) (H L (plcN hh L (n' - L) 0 s (plcH hh rs h))) (s + (n' - L)) rs (rs ++ slotsF s (n' - L)) := by
            refine .inr (.inr ⟨toAV v, hF, toAV (wrapG g (crn L s v)), ?_, hx.wk hw, fun _ => hnr, by rw [hFl], hpl, by rw [hFl], (cset_ok hm hf).symm⟩)
            have := gv (crn L s v) v _ rfl
            rw [crn_ren] at this
            exact this
          exact TrA_cons hst (.inr k1) (fun e he => List.mem_cons_of_mem _ he) (.inl (List.mem_cons_self ..)) (ih _ _ _ _ _ _ _ hr)
        · cases hr
theorem deadH_get (k : Nat) : ∀ (n : Nat) (h : Hp) (i : Nat), n + k ≤ 4096 → i < 4096 → hget (deadH k n h) i = if n ≤ i ∧ i < n + k then .dead else hget h i := by
  induction k with
  | zero => intro n h i hn hi; simp only [deadH]; rw [if_neg (by omega)]
  | succ k ih =>
    intro n h i hn hi
    simp only [deadH]
    rw [ih (n + 1) _ i (by omega) hi, hget_set (by omega) hi]
    by_cases h1 : n + 1 ≤ i ∧ i < n + 1 + k
    · rw [if_pos h1, if_pos (by omega)]
    · rw [if_neg h1]
      by_cases h2 : n = i
      · subst h2; rw [if_pos rfl, if_pos (by omega)]
      · rw [if_neg h2, if_neg (by omega)]
theorem H_grow {n k : Nat} {h : Hp} (hk : n + k ≤ 4096) : H (n + k) (deadH k n h) = H n h ++ List.replicate k .dead := by
  apply List.ext_getElem?
  intro i
  by_cases hi : i < n
  · rw [List.getElem?_append_left (by rw [H_length]; exact hi)]
    unfold H
    rw [mapRange_get, if_pos (by omega), mapRange_get, if_pos hi, deadH_get k n h i hk (by omega), if_neg (by omega)]
  · rw [List.getElem?_append_right (by rw [H_length]; omega), H_length, List.getElem?_replicate]
    unfold H
    rw [mapRange_get]
    by_cases h2 : i < n + k
    · rw [if_pos h2, if_pos (by omega), deadH_get k n h i hk (by omega), if_pos (by omega)]; rfl
    · rw [if_neg h2, if_neg (by omega)]
theorem cDraw0_ok {sh : TypeId → Option (List Leaf)} (S : ShOk P sh) {cl : Cl} (C : ClOk P cl) (hmo : P.follows .mixedOrders = true) {ops : Array Oper} {m : Nat} (hm : m ≤ 1024) {f f' : Fr} {n n' : Nat} {h h' : Hp} {id kk : Nat} (hB : drawB ops (ancL ops) = true)
    (hr : cDraw0 P sh cl ops m f n h kk = some (f', n', h')) : n ≤ n' ∧ Mean P (.region id ops true) (fun e t g => e = .normal ∧ t = T m f' ∧ g = H n' h') (T m f) (H n h) := by
  unfold cDraw0 at hr
  simp only at hr
  split at hr
  · rename_i f1 h1 hL hd
    injection hr with hr; cases hr
    have hL := nble_iff.1 hL
    refine ⟨by omega, ?_⟩
    have tr := cDr_ok S C hm hL _ _ _ _ _ _ _ _ hd
    obtain ⟨tt, hh, ss, rs, tg, e1, e2, e3, q1, q2, q3, q4, q5, q6⟩ := tr
    simp only [Nat.zero_add, Array.length_toList] at q1 q3 q4 q5 q6
    refine draw_trip kk hmo hB ⟨tt, hh, ss, rs, tg, e1, ?_, ?_, fun j o hj => by rw [H_length]; exact q1 j o (by rw [Array.getElem?_toList]; exact hj), q3, ?_, ?_⟩
    · rw [e2, H_grow hL]
    · rw [e3, H_length]
    · rw [H_length]; exact q4
    · exact ⟨rfl, q5, q6⟩
  · cases hr
theorem cDraw_ok {sh : TypeId → Option (List Leaf)} (S : ShOk P sh) {cl : Cl} (C : ClOk P cl) (hmo : P.follows .mixedOrders = true) {ops : Array Oper} {m : Nat} (hm : m ≤ 1024) {f f' : Fr} {n n' : Nat} {h h' : Hp} {id : Nat}
    (hr : cDraw P sh cl ops m f n h = some (f', n', h')) : n ≤ n' ∧ Mean P (.region id ops true) (fun e t g => e = .normal ∧ t = T m f' ∧ g = H n' h') (T m f) (H n h) := by
  unfold cDraw at hr
  split at hr
  · rename_i hB
    split at hr
    · rename_i r hd
      injection hr with hr; subst hr
      exact cDraw0_ok S C hmo hm hB hd
    · exact cDraw0_ok S C hmo hm hB hr
  · cases hr
end
end Go.Am
