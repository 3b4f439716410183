/-
  A machine that computes, part 2: operands; what single operations give.
-/
import Derived.Test.YtiameicjjlfimaaCm1
namespace Go.Am
noncomputable section
set_option linter.unusedVariables false
set_option linter.unusedSimpArgs false

/-! ### Constants, operands -/
def ofS : Value → Option CV
  | .bool b => some (.bool b)
  | .int k n => some (.int k n)
  | .string s => some (.str (s.data.toList.map UInt8.toNat))
  | .pointer none => some .nilp
  | .slice none 0 0 => some (.ro 0 true [])
  | .nilFunc => some .nilf
  | _ => none
def ofL : List Value → Option (List CV)
  | [] => some []
  | v :: r => match ofS v, ofL r with
    | some a, some l => some (a :: l)
    | _, _ => none
def ofC (v : Value) : CV := match v with
  | .agg cs => match ofL cs.toList with
    | some l => .agg l
    | none => .top
  | v => (ofS v).getD .top
theorem mkB_toNat (s : ByteArray) : mkB (s.data.toList.map UInt8.toNat) = s := by
  unfold mkB
  rw [List.map_map]
  have : (Nat.toUInt8 ∘ UInt8.toNat) = id := by funext x; simp
  rw [this, List.map_id]
theorem ofS_abs (v : Value) : (ofS v).map toAV = absV v := by
  unfold ofS absV
  split
  all_goals first
    | rfl
    | (simp only [Option.map_some, toAV, mkB_toNat])
    | (simp only [Option.map_some, toAV, toAVR, List.length_nil]; rfl)
    | skip
  rfl
theorem ofL_abs (l : List Value) : (ofL l).map toAVL = absL l := by
  induction l with
  | nil => simp [ofL, absL, toAVL]
  | cons v l ih =>
    unfold ofL absL
    rw [← ofS_abs v, ← ih]
    cases ofS v <;> cases ofL l <;> simp [toAVL]
theorem ofC_abs (v : Value) : toAV (ofC v) = absC v := by
  have one : ∀ v, toAV ((ofS v).getD .top) = (absV v).getD .top := by
    intro v
    rw [← ofS_abs v]
    cases ofS v <;> simp [toAV]
  unfold ofC absC
  split
  · rename_i cs
    simp only
    rw [← ofL_abs]
    cases ofL cs.toList <;> simp [toAV]
  · rename_i hn
    split
    · exact absurd rfl (hn _)
    · exact one _
def czero (P : Program) (t : TypeId) : Option (List CV) := match P.info? t with
  | some i => match i.zero with
    | some z => ofL z.cells.toList
    | none => none
  | none => none
theorem czero_abs (P : Program) (t : TypeId) : (czero P t).map toAVL = tzero P t := by
  unfold czero tzero
  cases P.info? t with
  | none => rfl
  | some i =>
    simp only
    cases i.zero with
    | none => rfl
    | some z => exact ofL_abs _

def cstrip : CV → Option CV
  | .opt true v => some v
  | .opt false _ => none
  | v => some v
theorem cstrip_ok {v c : CV} (hc : cstrip v = some c) : strip (toAV v) = toAV c ∧ optOk (toAV v) := by
  unfold cstrip at hc
  split at hc
  · injection hc with hc; subst hc; simp [toAV, strip, optOk]
  · cases hc
  · rename_i h1 h2
    injection hc with hc; subst hc
    cases v with
    | opt g v => cases g with
      | true => exact absurd rfl (h1 v)
      | false => exact absurd rfl (h2 v)
    | _ => simp [toAV, strip, optOk]
def crho (n : Nat) (f : Fr) : Operand → Option CV
  | .tmp i => match Nat.blt i n with
    | true => cstrip (fget n f i)
    | false => none
  | .const v => some (ofC v)
  | .global _ => none
  | .func f => some (.fn f [])
theorem nblt {a b : Nat} : Nat.blt a b = true ↔ a < b := by simp [Nat.blt, Nat.ble_eq, Nat.succ_le_iff]
theorem crho_ok {n : Nat} {f : Fr} {x : Operand} {c : CV} (hc : crho n f x = some c) : rho (T n f) x = toAV c ∧ og (T n f) x := by
  cases x with
  | tmp i =>
    simp only [crho] at hc
    split at hc
    · rename_i hi
      have := cstrip_ok hc
      simp only [rho, og, T_get (nblt.1 hi)]
      exact this
    · cases hc
  | const v => simp only [crho, Option.some.injEq] at hc; subst hc; exact ⟨(ofC_abs v).symm, trivial⟩
  | global g => cases hc
  | func f => simp only [crho, Option.some.injEq] at hc; subst hc; exact ⟨by simp [rho, toAV, toAVL], trivial⟩
def crhoL (n : Nat) (f : Fr) : List Operand → Option (List CV)
  | [] => some []
  | x :: r => match crho n f x with
    | some a => match crhoL n f r with
      | some l => some (a :: l)
      | none => none
    | none => none
theorem crhoL_ok {n : Nat} {f : Fr} {l : List Operand} : ∀ {c : List CV}, crhoL n f l = some c → mapR (T n f) l = toAVL c ∧ ogL (T n f) l := by
  induction l with
  | nil => intro c hc; simp only [crhoL, Option.some.injEq] at hc; subst hc; exact ⟨by simp [mapR, toAVL], trivial⟩
  | cons x r ih =>
    intro c hc
    simp only [crhoL] at hc
    split at hc
    · rename_i a ha
      split at hc
      · rename_i l hl
        injection hc with hc; subst hc
        obtain ⟨q1, q2⟩ := crho_ok ha
        obtain ⟨q3, q4⟩ := ih hl
        exact ⟨by simp only [mapR, toAVL, q1, q3], q2, q4⟩
      · cases hc
    · cases hc
def crhoO (n : Nat) (f : Fr) : Option Operand → Option (Option CV)
  | none => some none
  | some x => match crho n f x with
    | some a => some (some a)
    | none => none
theorem crhoO_ok {n : Nat} {f : Fr} {x : Option Operand} {c : Option CV} (hc : crhoO n f x = some c) : rhoO (T n f) x = c.map toAV ∧ ogO (T n f) x := by
  cases x with
  | none => simp only [crhoO, Option.some.injEq] at hc; subst hc; exact ⟨rfl, trivial⟩
  | some x =>
    simp only [crhoO] at hc
    split at hc
    · rename_i a ha
      injection hc with hc; subst hc
      obtain ⟨q1, q2⟩ := crho_ok ha
      exact ⟨by simp only [rhoO, q1, Option.map_some], q2⟩
    · cases hc

/-! ### Cells -/
def dropN : Nat → List CV → Option (List CV)
  | 0, l => some l
  | k + 1, _ :: l => dropN k l
  | _ + 1, [] => none
def takeN : Nat → List CV → Option (List CV)
  | 0, _ => some []
  | k + 1, a :: l => match takeN k l with
    | some r => some (a :: r)
    | none => none
  | _ + 1, [] => none
theorem dropN_ok : ∀ {k : Nat} {l d : List CV}, dropN k l = some d → d = l.drop k ∧ k ≤ l.length
  | 0, l, d, h => by simp only [dropN, Option.some.injEq] at h; subst h; simp
  | k + 1, a :: l, d, h => by
    have := dropN_ok (k := k) h
    simp [this.1, this.2]
  | k + 1, [], d, h => by cases h
theorem takeN_ok : ∀ {k : Nat} {l d : List CV}, takeN k l = some d → d = l.take k ∧ k ≤ l.length
  | 0, l, d, h => by simp only [takeN, Option.some.injEq] at h; subst h; simp
  | k + 1, a :: l, d, h => by
    simp only [takeN] at h
    split at h
    · rename_i r hr
      injection h with h; subst h
      have := takeN_ok hr
      simp [this.1, this.2]
    · cases h
  | k + 1, [], d, h => by cases h
theorem getL_toAVL {l : List CV} {i : Nat} {a : CV} (h : l[i]? = some a) : getL (toAVL l) i = toAV a := getL_eq (by rw [toAVL_map, List.getElem?_map, h]; rfl)
theorem tab_take {l : List CV} {k m : Nat} (h : k + m ≤ l.length) : tabF (getL (toAVL l)) k m = toAVL ((l.drop k).take m) := by
  apply List.ext_getElem?
  intro i
  by_cases hi : i < m
  · rw [tabF_get _ _ _ _ hi, toAVL_map, toAVL_map, List.getElem?_map, List.getElem?_take_of_lt hi, List.getElem?_drop]
    have h2 : k + i < l.length := by omega
    rw [List.getElem?_eq_getElem h2]
    simp only [Option.map_some, Option.some.injEq]
    exact getL_eq (by rw [List.getElem?_map, List.getElem?_eq_getElem h2]; rfl)
  · rw [List.getElem?_eq_none (by rw [tabF_length]; omega), List.getElem?_eq_none (by rw [toAVL_length, List.length_take]; omega)]
def cells (ag : Bool) (m k : Nat) (l : List CV) : Option CV := match dropN k l with
  | some d => match ag with
    | true => match takeN m d with
      | some r => some (.agg r)
      | none => none
    | false => match d with
      | a :: _ => some a
      | [] => none
  | none => none
theorem cells_ok {ag : Bool} {m k : Nat} {l : List CV} {v : CV} (h : cells ag m k l = some v) :
    (ag = true → toAV v = .agg (tabF (getL (toAVL l)) k m) ∧ k + m ≤ l.length) ∧ (ag = false → toAV v = getL (toAVL l) k ∧ k < l.length) := by
  unfold cells at h
  split at h
  · rename_i d hd
    obtain ⟨rfl, q2⟩ := dropN_ok hd
    cases ag with
    | true =>
      simp only at h
      split at h
      · rename_i r hr
        injection h with h; subst h
        obtain ⟨rfl, q4⟩ := takeN_ok hr
        rw [List.length_drop] at q4
        refine ⟨fun _ => ⟨?_, by omega⟩, fun h => by cases h⟩
        rw [tab_take (by omega)]; simp [toAV]
      · cases h
    | false =>
      simp only at h
      split at h
      · rename_i a r hr
        injection h with h; subst h
        refine ⟨fun h => (by cases h), fun _ => ?_⟩
        have h3 : k < l.length := by
          rcases Nat.lt_or_ge k l.length with h' | h'
          · exact h'
          · rw [List.drop_eq_nil_of_le h'] at hr; cases hr
        refine ⟨(getL_toAVL ?_).symm, h3⟩
        have := List.getElem?_drop (xs := l) (i := k) (j := 0)
        rw [hr] at this
        simpa using this.symm
      · cases h
  · cases h
def rowAt : List (List CV) → Nat → Option (List CV)
  | [], _ => none
  | a :: _, 0 => some a
  | _ :: l, n + 1 => rowAt l n
theorem rowAt_ok : ∀ {r : List (List CV)} {i : Nat} {a : List CV}, rowAt r i = some a → i < r.length ∧ getR (toAVR r) i = toAVL a
  | [], i, a, h => by cases h
  | b :: r, 0, a, h => by simp only [rowAt, Option.some.injEq] at h; subst h; exact ⟨by simp, by simp [toAVR, getR]⟩
  | b :: r, i + 1, a, h => by
    have := rowAt_ok (r := r) (i := i) h
    exact ⟨by simp [this.1], by simpa [toAVR, getR] using this.2⟩
theorem rC_row {r : List (List CV)} {i : Nat} {a : List CV} (h : rowAt r i = some a) : rC (toAVR r) i = getL (toAVL a) := by
  funext y
  unfold rC
  rw [(rowAt_ok h).2]
def lput : List CV → Nat → List CV → Option (List CV)
  | l, _, [] => some l
  | [], _, _ :: _ => none
  | a :: l, k + 1, vs => match lput l k vs with
    | some r => some (a :: r)
    | none => none
  | _ :: l, 0, v :: vs => match lput l 0 vs with
    | some r => some (v :: r)
    | none => none
theorem first_sym {α : Type} {a b : α} (h : a = b) : b = a := h.symm
theorem putL_cons (a : AV) (l : List AV) (k : Nat) (vs : List AV) : putL (a :: l) (k + 1) vs = a :: putL l k vs := by
  induction vs generalizing l k with
  | nil => rfl
  | cons v vs ih => simp only [putL, setL]; exact ih _ _
theorem lput_ok : ∀ {l : List CV} {k : Nat} {vs r : List CV}, lput l k vs = some r → vs ≠ [] → toAVL r = putL (toAVL l) k (toAVL vs) ∧ k + vs.length ≤ l.length ∧ r.length = l.length
  | l, k, [], r, h, hn => absurd rfl hn
  | [], k, v :: vs, r, h, hn => by cases k <;> cases h
  | a :: l, k + 1, v :: vs, r, h, hn => by
    simp only [lput] at h
    split at h
    · rename_i r' hr
      injection h with h; subst h
      obtain ⟨q1, q2, q3⟩ := lput_ok hr hn
      refine ⟨?_, by simp at q2 ⊢; omega, by simp [q3]⟩
      simp only [toAVL]
      rw [putL_cons, q1]; rfl
    · cases h
  | a :: l, 0, v :: vs, r, h, hn => by
    simp only [lput] at h
    split at h
    · rename_i r' hr
      injection h with h; subst h
      cases vs with
      | nil =>
        simp only [lput] at hr
        have : r' = l := by cases l <;> simp [lput] at hr <;> first | exact hr | exact hr.symm
        subst this
        simp [toAVL, putL, setL]
      | cons w ws =>
        obtain ⟨q1, q2, q3⟩ := lput_ok hr (by simp)
        refine ⟨?_, by simp at q2 ⊢; omega, by simp [q3]⟩
        simp only [toAVL] at q1 ⊢
        rw [putL]
        simp only [setL]
        rw [putL_cons, q1]
    · cases h
def rowPut : List (List CV) → Nat → Nat → List CV → Option (List (List CV))
  | [], _, _, _ => none
  | a :: r, 0, j, vs => match lput a j vs with
    | some a' => some (a' :: r)
    | none => none
  | a :: r, i + 1, j, vs => match rowPut r i j vs with
    | some r' => some (a :: r')
    | none => none
theorem getL_putL {l vs : List AV} {k : Nat} (h : k + vs.length ≤ l.length) (y : Nat) : getL (putL l k vs) y = if k ≤ y ∧ y < k + vs.length then getL vs (y - k) else getL l y := by
  by_cases hy : y < l.length
  · have := putL_get l k vs y hy
    split at this
    · rename_i hc
      rw [if_pos hc]
      rw [getL_some (by rw [putL_length]; exact hy), getL_some (by omega)] at this
      injection this
    · rename_i hc
      rw [if_neg hc]
      rw [getL_some (by rw [putL_length]; exact hy), getL_some hy] at this
      injection this
  · rw [if_neg (by omega), getL_ge (by rw [putL_length]; omega), getL_ge (by omega)]
theorem rowPut_ok : ∀ {r : List (List CV)} {i j : Nat} {vs : List CV} {r' : List (List CV)}, rowPut r i j vs = some r' → vs ≠ [] →
    r'.length = r.length ∧ i < r.length ∧ rC (toAVR r') = upc (rC (toAVR r)) i j (toAVL vs)
  | [], i, j, vs, r', h, hn => by cases h
  | a :: r, 0, j, vs, r', h, hn => by
    simp only [rowPut] at h
    split at h
    · rename_i a' ha
      injection h with h; subst h
      obtain ⟨q1, q2, q3⟩ := lput_ok ha hn
      refine ⟨by simp, by simp, ?_⟩
      funext x y
      cases x with
      | zero =>
        simp only [rC, toAVR, getR, upc, q1, true_and]
        exact getL_putL (by rw [toAVL_length, toAVL_length]; exact q2) y
      | succ x => simp [rC, toAVR, getR, upc]
    · cases h
  | a :: r, i + 1, j, vs, r', h, hn => by
    simp only [rowPut] at h
    split at h
    · rename_i r'' hr
      injection h with h; subst h
      obtain ⟨q1, q2, q3⟩ := rowPut_ok hr hn
      refine ⟨by simp [q1], by simp [q2], ?_⟩
      funext x y
      cases x with
      | zero => simp [rC, toAVR, getR, upc]
      | succ x =>
        have := congrFun (congrFun q3 x) y
        simp only [rC, upc] at this
        simp only [rC, toAVR, getR, upc, this, Nat.add_right_cancel_iff]
    · cases h

/-! ### Loads -/
def cLoad (ag : Option Bool) (z : Option Nat) (p : CV) (n : Nat) (h : Hp) : Option CV := match ag, z, p with
  | some ag, some m, .ptr b es i j => match Nat.blt b n with
    | true => match hget h b with
      | .lit _ l => cells ag m (i * es + j) l
      | .row _ es' r => match Nat.beq es' es && Nat.ble (j + (match ag with | true => m | false => 1)) es with
        | true => match rowAt r i with
          | some a => cells ag m j a
          | none => none
        | false => none
      | .dead => none
    | false => none
  | some ag, some m, .rptr es i j r => match Nat.ble (j + (match ag with | true => m | false => 1)) es with
    | true => match rowAt r i with
      | some a => cells ag m j a
      | none => none
    | false => none
  | _, _, _ => none
theorem nbeq_iff {a b : Nat} : Nat.beq a b = true ↔ a = b := by simp
theorem nble_iff {a b : Nat} : Nat.ble a b = true ↔ a ≤ b := by simp
theorem cLoad_ok {ag : Option Bool} {z : Option Nat} {p v : CV} {n : Nat} {h : Hp} (hc : cLoad ag z p n h = some v) : ∃ ob, evLoad ag z (toAV p) (H n h) = .pure ob (toAV v) ∧ ob := by
  unfold cLoad at hc
  split at hc
  · rename_i ag m b es i j
    split at hc
    · rename_i hb
      simp only [toAV, evLoad, H_get (nblt.1 hb)]
      split at hc
      · rename_i e l hg
        obtain ⟨q1, q2⟩ := cells_ok hc
        cases ag with
        | true => obtain ⟨q3, q4⟩ := q1 rfl; exact ⟨_, by simp only [hg, toB, ldB, cond_true, q3]; rfl, by rw [toAVL_length]; exact q4⟩
        | false => obtain ⟨q3, q4⟩ := q2 rfl; exact ⟨_, by simp only [hg, toB, ldB, cond_false, q3]; rfl, by rw [toAVL_length]; exact q4⟩
      · rename_i e es' r hg
        split at hc
        · rename_i hk
          rw [Bool.and_eq_true, nbeq_iff, nble_iff] at hk
          obtain ⟨rfl, hk⟩ := hk
          split at hc
          · rename_i a ha
            obtain ⟨q1, q2⟩ := cells_ok hc
            cases ag with
            | true => obtain ⟨q3, q4⟩ := q1 rfl; exact ⟨es' = es' ∧ i < r.length ∧ j + m ≤ es', by simp only [hg, toB, ldB, cond_true, q3, rC_row ha], rfl, (rowAt_ok ha).1, hk⟩
            | false => obtain ⟨q3, q4⟩ := q2 rfl; exact ⟨es' = es' ∧ i < r.length ∧ j < es', by simp only [hg, toB, ldB, cond_false, q3, rC_row ha], rfl, (rowAt_ok ha).1, hk⟩
          · cases hc
        · cases hc
      · cases hc
    · cases hc
  · rename_i ag m es i j r
    split at hc
    · rename_i hk
      rw [nble_iff] at hk
      split at hc
      · rename_i a ha
        obtain ⟨q1, q2⟩ := cells_ok hc
        cases ag with
        | true => obtain ⟨q3, q4⟩ := q1 rfl; exact ⟨i < r.length ∧ j + m ≤ es, by simp only [toAV, evLoad, cond_true, q3, rC_row ha], (rowAt_ok ha).1, hk⟩
        | false => obtain ⟨q3, q4⟩ := q2 rfl; exact ⟨i < r.length ∧ j < es, by simp only [toAV, evLoad, cond_false, q3, rC_row ha], (rowAt_ok ha).1, hk⟩
      · cases hc
    · cases hc
  · cases hc

/-! ### Stores, new cells -/
def ccells : CV → List CV
  | .agg l => l
  | v => [v]
def catom : CV → Bool
  | .top => false
  | .agg _ => false
  | .tup _ => false
  | .opt _ _ => false
  | _ => true
def cvOk : CV → Bool
  | .agg _ => true
  | v => catom v
theorem ccells_ok (v : CV) : vcells (toAV v) = toAVL (ccells v) ∧ vcOk (toAV v) = cvOk v := by
  cases v <;> simp [toAV, toAVL, vcells, ccells, vcOk, cvOk, atom, catom]
def cStore (z : Option Nat) (p v : CV) (n : Nat) (h : Hp) : Option Hp := match z, p with
  | some m, .ptr b es i j => match Nat.blt b n && Nat.ble n 4096 && Nat.beq (ccells v).length m && Nat.blt 0 m && cvOk v with
    | true => match hget h b with
      | .lit e l => match lput l (i * es + j) (ccells v) with
        | some l' => some (hset h b (.lit e l'))
        | none => none
      | .row e es' r => match Nat.beq es' es && Nat.ble (j + m) es with
        | true => match rowPut r i j (ccells v) with
          | some r' => some (hset h b (.row e es' r'))
          | none => none
        | false => none
      | .dead => none
    | false => none
  | _, _ => none
theorem cStore_ok {z : Option Nat} {p v : CV} {n : Nat} {h h' : Hp} (hc : cStore z p v n h = some h') : ∃ ob, evStore z (toAV p) (toAV v) (H n h) = .heap ob .top (H n h') ∧ ob := by
  unfold cStore at hc
  split at hc
  · rename_i m b es i j
    split at hc
    · rename_i hk
      simp only [Bool.and_eq_true, nbeq_iff, nble_iff, nblt] at hk
      obtain ⟨⟨⟨⟨hb, hn⟩, hm⟩, hm0⟩, hv⟩ := hk
      obtain ⟨c1, c2⟩ := ccells_ok v
      have hne : ccells v ≠ [] := by intro h0; rw [h0] at hm; simp at hm; omega
      have hl : (toAVL (ccells v)).length = m := by rw [toAVL_length, hm]
      simp only [toAV, evStore, H_get hb, c1, c2, hv, hl, beq_self_eq_true, Bool.true_and]
      split at hc
      · rename_i e l hg
        split at hc
        · rename_i l' hl'
          injection hc with hc; subst hc
          obtain ⟨q1, q2, q3⟩ := lput_ok hl' hne
          refine ⟨i * es + j + (toAVL (ccells v)).length ≤ (toAVL l).length, ?_, by rw [toAVL_length, toAVL_length]; exact q2⟩
          simp only [hg, toB, stB, stRes, cond_true]
          rw [← q1, ← H_set hn hb]
          simp only [toB]
        · cases hc
      · rename_i e es' r hg
        split at hc
        · rename_i hk
          rw [Bool.and_eq_true, nbeq_iff, nble_iff] at hk
          obtain ⟨rfl, hk⟩ := hk
          split at hc
          · rename_i r' hr
            injection hc with hc; subst hc
            obtain ⟨q1, q2, q3⟩ := rowPut_ok hr hne
            refine ⟨es' = es' ∧ i < r.length ∧ j + (toAVL (ccells v)).length ≤ es', ?_, rfl, q2, by rw [hl]; exact hk⟩
            simp only [hg, toB, stB, stRes, cond_true]
            rw [← q3, ← H_set hn hb]
            simp only [toB, q1]
          · cases hc
        · cases hc
      · cases hc
    · cases hc
  · cases hc
def cnew (x : CB) (n : Nat) (h : Hp) : Option Hp := match Nat.blt n 4096 with
  | true => some (hset h n x)
  | false => none
theorem cnew_ok {x : CB} {n : Nat} {h h' : Hp} (hc : cnew x n h = some h') : H n h ++ [toB x] = H (n + 1) h' := by
  unfold cnew at hc
  split at hc
  · rename_i hn
    injection hc with hc; subst hc
    exact H_push (nblt.1 hn)
  · cases hc
end
end Go.Am
