/-
  A machine that computes, part 4: parts of slices, conversions, building, growing.
-/
import Derived.Test.YtiameicjjlfimaaCm3
namespace Go.Am
noncomputable section
set_option linter.unusedVariables false
set_option linter.unusedSimpArgs false

theorem wk_ro {es n : Nat} {nl : Bool} {c d : Nat → Nat → AV} (h : ∀ x y, x < n → y < es → c x y = d x y) : Wk (.ro es n nl c) (.ro es n nl d) := by
  intro E u hv
  cases hv with
  | ro es n nl _ a cap hn hcm hnl hz uu ha h1 hc hrf =>
    exact .ro es n nl c a cap hn hcm hnl hz uu ha h1 (fun x y hx hy => by rw [h x y hx hy]; exact hc x y hx hy) fun x y hx hy => by rw [h x y hx hy]; exact hrf x y hx hy

/-! ### Rows -/
def dropR : Nat → List (List CV) → Option (List (List CV))
  | 0, l => some l
  | k + 1, _ :: l => dropR k l
  | _ + 1, [] => none
def takeR : Nat → List (List CV) → Option (List (List CV))
  | 0, _ => some []
  | k + 1, a :: l => match takeR k l with
    | some r => some (a :: r)
    | none => none
  | _ + 1, [] => none
theorem dropR_ok : ∀ {k : Nat} {l d : List (List CV)}, dropR k l = some d → d = l.drop k ∧ k ≤ l.length
  | 0, l, d, h => by simp only [dropR, Option.some.injEq] at h; subst h; simp
  | k + 1, a :: l, d, h => by
    have := dropR_ok (k := k) h
    simp [this.1, this.2]
  | k + 1, [], d, h => by cases h
theorem takeR_ok : ∀ {k : Nat} {l d : List (List CV)}, takeR k l = some d → d = l.take k ∧ k ≤ l.length
  | 0, l, d, h => by simp only [takeR, Option.some.injEq] at h; subst h; simp
  | k + 1, a :: l, d, h => by
    simp only [takeR] at h
    split at h
    · rename_i r hr
      injection h with h; subst h
      have := takeR_ok hr
      simp [this.1, this.2]
    · cases h
  | k + 1, [], d, h => by cases h
theorem getR_get {α : Type} (r : List (List α)) (i : Nat) : getR r i = (r[i]?).getD [] := by
  induction r generalizing i with
  | nil => simp [getR]
  | cons a r ih => cases i with
    | zero => simp [getR]
    | succ i => simpa [getR] using ih i
theorem getR_dt {r : List (List CV)} {k m x : Nat} (hx : x < m) : getR (toAVR ((r.drop k).take m)) x = getR (toAVR r) (k + x) := by
  rw [getR_get, getR_get, toAVR_map, toAVR_map, List.getElem?_map, List.getElem?_map, List.getElem?_take_of_lt hx, List.getElem?_drop]
def partR (i n : Nat) (r : List (List CV)) : Option (List (List CV)) := match dropR i r with
  | some d => takeR n d
  | none => none
theorem partR_ok {i n : Nat} {r d : List (List CV)} (h : partR i n r = some d) : d.length = n ∧ i + n ≤ r.length ∧ ∀ x, x < n → getR (toAVR d) x = getR (toAVR r) (i + x) := by
  unfold partR at h
  split at h
  · rename_i d' hd
    obtain ⟨rfl, q1⟩ := dropR_ok hd
    obtain ⟨rfl, q2⟩ := takeR_ok h
    rw [List.length_drop] at q2
    exact ⟨by simp; omega, by omega, fun x hx => getR_dt hx⟩
  · cases h
def chunkR (z : Nat) : Nat → List CV → Option (List (List CV))
  | 0, _ => some []
  | n + 1, l => match takeN z l, dropN z l with
    | some a, some d => match chunkR z n d with
      | some r => some (a :: r)
      | none => none
    | _, _ => none
theorem getL_drop {l : List CV} {k i : Nat} : getL (toAVL (l.drop k)) i = getL (toAVL l) (k + i) := by
  by_cases hi : k + i < l.length
  · rw [getL_toAVL (a := l[k + i]) (by rw [List.getElem?_drop, List.getElem?_eq_getElem hi]), getL_toAVL (a := l[k + i]) (List.getElem?_eq_getElem hi)]
  · rw [getL_ge (by rw [toAVL_length, List.length_drop]; omega), getL_ge (by rw [toAVL_length]; omega)]
theorem getL_take {l : List CV} {k i : Nat} (hi : i < k) : getL (toAVL (l.take k)) i = getL (toAVL l) i := by
  by_cases h : i < l.length
  · rw [getL_toAVL (a := l[i]) (by rw [List.getElem?_take_of_lt hi, List.getElem?_eq_getElem h]), getL_toAVL (a := l[i]) (List.getElem?_eq_getElem h)]
  · rw [getL_ge (by rw [toAVL_length, List.length_take]; omega), getL_ge (by rw [toAVL_length]; omega)]
theorem chunkR_ok {z : Nat} : ∀ {n : Nat} {l : List CV} {r : List (List CV)}, chunkR z n l = some r → r.length = n ∧ n * z ≤ l.length ∧ ∀ x y, x < n → y < z → rC (toAVR r) x y = getL (toAVL l) (x * z + y)
  | 0, l, r, h => by simp only [chunkR, Option.some.injEq] at h; subst h; simp
  | n + 1, l, r, h => by
    simp only [chunkR] at h
    split at h
    · rename_i a d ha hd
      split at h
      · rename_i r' hr
        injection h with h; subst h
        obtain ⟨rfl, p1⟩ := takeN_ok ha
        obtain ⟨rfl, p2⟩ := dropN_ok hd
        obtain ⟨q1, q2, q3⟩ := chunkR_ok hr
        rw [List.length_drop] at q2
        refine ⟨by simp [q1], by rw [Nat.succ_mul]; omega, fun x y hx hy => ?_⟩
        cases x with
        | zero =>
          simp only [rC, toAVR, getR, Nat.zero_mul, Nat.zero_add]
          exact getL_take hy
        | succ x =>
          have := q3 x y (by omega) hy
          simp only [rC, toAVR, getR] at this ⊢
          rw [this, getL_drop, Nat.succ_mul]
          congr 1; omega
      · cases h
    · cases h

/-! ### Parts of slices -/
def cBound (x : Option CV) (d : Nat) : Option Nat := match x with
  | none => some d
  | some c => cnat c
theorem cBound_ok {x : Option CV} {d q : Nat} (h : cBound x d = some q) : evBound (x.map toAV) d = some (q : Int) := by
  cases x with
  | none => simp only [cBound, Option.some.injEq] at h; subst h; rfl
  | some c =>
    obtain ⟨k, hk⟩ := cnat_ok (x := c) h
    simp only [Option.map_some, evBound, hk]
def cSlice (st : Bool) (sl : Option TypeId) (ar : Option (Nat × TypeId)) (z : Option Nat) (x : CV) (lo hi mx : Option CV) : Option CV := match x with
  | .str s => match st, mx, cBound lo 0, cBound hi s.length with
    | true, none, some l, some u => match Nat.ble l u && Nat.ble u s.length with
      | true => some (.str ((s.take u).drop l))
      | false => none
    | _, _, _, _ => none
  | x => match mx.isSome && hi.isNone, sl, z with
    | false, some _, some z => match x with
      | .sl b es i n nl => match cBound lo 0, cBound hi n, cBound mx n with
        | some l, some u, some m => match Nat.ble l u && Nat.ble u m && Nat.ble m n && Nat.beq z es with
          | true => some (.sl b es (i + l) (u - l) nl)
          | false => none
        | _, _, _ => none
      | .isl b es i j z' n => match cBound lo 0, cBound hi n, cBound mx n with
        | some l, some u, some m => match Nat.blt l u && Nat.ble u m && Nat.ble m n && Nat.beq z' z with
          | true => some (.isl b es i (j + l * z) z (u - l))
          | false => none
        | _, _, _ => none
      | .ro es nl r => match mx with
        | none => match cBound lo 0, cBound hi r.length with
          | some l, some u => match Nat.ble l u && Nat.beq z es with
            | true => match partR l (u - l) r with
              | some r' => some (.ro es nl r')
              | none => none
            | false => none
          | _, _ => none
        | some m => match cnat m, cBound lo 0, cBound hi r.length with
          | some 0, some 0, some 0 => some .emp
          | _, _, _ => none
      | _ => none
    | false, none, some z => match ar with
      | some (len, _) => match x, mx with
        | .ptr b es i j, none => match cBound lo 0, cBound hi len with
          | some l, some u => match Nat.blt l u && Nat.ble u len && Nat.ble len 4096 with
            | true => some (.isl b es i (j + l * z) z (u - l))
            | false => none
          | _, _ => none
        | .rptr es i j r, none => match cBound lo 0, cBound hi len with
          | some l, some u => match Nat.ble l u && Nat.ble u len && Nat.blt i r.length && Nat.ble (j + len * z) es && Nat.ble len 4096 with
            | true => match rowAt r i with
              | some a => match dropN (j + l * z) a with
                | some d => match chunkR z (u - l) d with
                  | some r' => some (.ro z false r')
                  | none => none
                | none => none
              | none => none
            | false => none
          | _, _ => none
        | _, _ => none
      | none => none
    | _, _, _ => none
theorem mkB_part {s : List Nat} {l u : Nat} (h : u ≤ s.length) : (mkB s).extract l u = mkB ((s.take u).drop l) := by
  apply WideShapes.bytes_inj
  rw [mkB_data]
  simp [mkB, List.map_drop, List.map_take, List.extract_eq_take_drop]
  rw [List.drop_take]
theorem cSlice_ok {st : Bool} {sl : Option TypeId} {ar : Option (Nat × TypeId)} {z : Option Nat} {x v : CV} {lo hi mx : Option CV} (h : cSlice st sl ar z x lo hi mx = some v) :
    ∃ ob v', evSlice2 st sl ar z (toAV x) (lo.map toAV) (hi.map toAV) (mx.map toAV) = .pure ob v' ∧ ob ∧ Wk (toAV v) v' := by
  unfold cSlice at h
  split at h
  · rename_i s
    split at h
    · rename_i l u hl hu
      split at h
      · rename_i hk
        rw [Bool.and_eq_true, nble_iff, nble_iff] at hk
        injection h with h; subst h
        refine ⟨_, _, by simp only [toAV, evSlice2, mkB_size, cBound_ok hl, cBound_ok hu, Option.map_none, evSliceS, cond_true]; rfl, ?_, ?_⟩
        · exact ⟨Int.natCast_nonneg _, by have := hk.1; omega, by have := hk.2; omega⟩
        simp only [toAV, Int.toNat_natCast]
        rw [mkB_part hk.2]; exact .refl _
      · cases h
    · cases h
  · rename_i hns
    have hx2 : evSlice2 st sl ar z (toAV x) (lo.map toAV) (hi.map toAV) (mx.map toAV) = evSlice sl ar z (toAV x) (lo.map toAV) (hi.map toAV) (mx.map toAV) := by
      cases x <;> simp only [toAV, evSlice2]
      exact absurd rfl (hns _)
    rw [hx2]
    have hmh : ∀ {b : Bool}, (mx.isSome && hi.isNone) = b → ((mx.map toAV).isSome && (hi.map toAV).isNone) = b := by
      intro b hb; rw [← hb]; cases mx <;> cases hi <;> rfl
    split at h
    · rename_i e z hm
      split at h
      · rename_i b es i n nl hns2
        split at h
        · rename_i l u m hl hu hm'
          split at h
          · rename_i hk
            simp only [Bool.and_eq_true, nble_iff, nbeq_iff] at hk
            obtain ⟨⟨⟨k1, k2⟩, k3⟩, k4⟩ := hk
            injection h with h; subst h
            refine ⟨_, _, by simp only [toAV, evSlice, hmh hm, cond_false, cBound_ok hl, cBound_ok hu, cBound_ok hm']; rfl, ?_, by simp only [toAV, Int.toNat_natCast]; exact .refl _⟩
            · exact ⟨Int.natCast_nonneg _, by omega, by omega, by omega, k4⟩
          · cases h
        · cases h
      · rename_i b es i j z' n hns2
        split at h
        · rename_i l u m hl hu hm'
          split at h
          · rename_i hk
            simp only [Bool.and_eq_true, nble_iff, nbeq_iff, nblt] at hk
            obtain ⟨⟨⟨k1, k2⟩, k3⟩, k4⟩ := hk
            injection h with h; subst h
            refine ⟨_, _, by simp only [toAV, evSlice, hmh hm, cond_false, cBound_ok hl, cBound_ok hu, cBound_ok hm']; rfl, ?_, by simp only [toAV, Int.toNat_natCast]; exact .refl _⟩
            · exact ⟨Int.natCast_nonneg _, by omega, by omega, by omega, k4⟩
          · cases h
        · cases h
      · rename_i es nl r hns2
        split at h
        · split at h
          · rename_i l u hl hu
            split at h
            · rename_i hk
              simp only [Bool.and_eq_true, nble_iff, nbeq_iff] at hk
              obtain ⟨k1, k4⟩ := hk
              split at h
              · rename_i r' hr
                injection h with h; subst h
                obtain ⟨p1, p2, p3⟩ := partR_ok hr
                refine ⟨_, _, by simp only [toAV, evSlice, hmh hm, cond_false, cBound_ok hl, cBound_ok hu, Option.map_none]; rfl, ?_, ?_⟩
                · exact ⟨Int.natCast_nonneg _, by omega, by omega, k4⟩
                simp only [toAV, Int.toNat_natCast, p1]
                refine wk_ro fun x y hx hy => ?_
                simp only [rC, subC, p3 x hx]
              · cases h
            · cases h
          · cases h
        · rename_i m
          split at h
          · rename_i hm0 hl hu
            injection h with h; subst h
            obtain ⟨k, hk⟩ := cnat_ok hm0
            have hh := hmh hm
            rw [Option.map_some, hk] at hh
            refine ⟨_, _, by simp only [toAV, evSlice, Option.map_some, hk, hh, cond_false, cBound_ok hl, cBound_ok hu]; rfl, ?_, by simp only [toAV]; exact .refl _⟩
            · exact ⟨rfl, rfl⟩
          · cases h
      · cases h
    · rename_i z hm
      split at h
      · rename_i len e
        split at h
        · rename_i b es i j hns2
          split at h
          · rename_i l u hl hu
            split at h
            · rename_i hk
              simp only [Bool.and_eq_true, nble_iff, nblt] at hk
              obtain ⟨⟨k1, k2⟩, k3⟩ := hk
              injection h with h; subst h
              refine ⟨_, _, by simp only [toAV, evSlice, hmh hm, cond_false, cBound_ok hl, cBound_ok hu, Option.map_none]; rfl, ?_, by simp only [toAV, Int.toNat_natCast]; exact .refl _⟩
              · exact ⟨Int.natCast_nonneg _, by omega, by omega, k3⟩
            · cases h
          · cases h
        · rename_i es i j r hns2
          split at h
          · rename_i l u hl hu
            split at h
            · rename_i hk
              simp only [Bool.and_eq_true, nble_iff, nblt] at hk
              obtain ⟨⟨⟨⟨k1, k2⟩, k3⟩, k4⟩, k5⟩ := hk
              split at h
              · rename_i a ha
                split at h
                · rename_i d hd
                  obtain ⟨rfl, d2⟩ := dropN_ok hd
                  split at h
                  · rename_i r' hr
                    injection h with h; subst h
                    obtain ⟨p1, p2, p3⟩ := chunkR_ok hr
                    refine ⟨_, _, by simp only [toAV, evSlice, hmh hm, cond_false, cBound_ok hl, cBound_ok hu, Option.map_none]; rfl, ?_, ?_⟩
                    · exact ⟨Int.natCast_nonneg _, by omega, by omega, k3, k4, k5⟩
                    simp only [toAV, Int.toNat_natCast, p1]
                    refine wk_ro fun x y hx hy => ?_
                    rw [p3 x y hx hy, getL_drop]
                    simp only [innC, rC_row ha]
                    congr 1; omega
                  · cases h
                · cases h
              · cases h
            · cases h
          · cases h
        · cases h
      · cases h
    · cases h

/-! ### The content of what is appended, copied, turned into a string -/
def byteRows : List Nat → List (List CV)
  | [] => []
  | a :: l => [.int .u8 (.ofNat (Nat.mod a 256))] :: byteRows l
theorem byteRows_ok (s : List Nat) : (byteRows s).length = s.length ∧ ∀ x y, x < s.length → y < 1 → rC (toAVR (byteRows s)) x y = strC (mkB s) x y := by
  have key : ∀ (s : List Nat) (x : Nat), x < s.length → getR (toAVR (byteRows s)) x = [.int .u8 (((s.getD x 0) % 256 : Nat) : Int)] := by
    intro s
    induction s with
    | nil => intro x hx; simp at hx
    | cons a s ih =>
      intro x hx
      cases x with
      | zero => simp only [byteRows, toAVR, toAVL, toAV, getR, List.getD_cons_zero]; rfl
      | succ x => simpa [byteRows, toAVR, getR] using ih x (by simpa using hx)
  refine ⟨by induction s with
    | nil => rfl
    | cons a s ih => simp [byteRows, ih], fun x y hx hy => ?_⟩
  have : y = 0 := by omega
  subst this
  simp only [rC, key s x hx, getL, strC]
  congr 1
  have hna : natAt s x = some (s.getD x 0) := by
    clear key
    induction s generalizing x with
    | nil => simp at hx
    | cons a s ih => cases x with
      | zero => rfl
      | succ x => simpa [natAt] using ih x (by simpa using hx)
  exact (natAt_ok hna).2.symm
def cSrc (z : Nat) (x : CV) (n : Nat) (h : Hp) : Option (List (List CV)) := match x with
  | .sl b es i k nl => match Nat.blt b n && Nat.beq es z with
    | true => match hget h b with
      | .row _ es' r => match Nat.beq es' z with
        | true => partR i k r
        | false => none
      | _ => none
    | false => none
  | .isl b es i j z' k => match Nat.blt b n && Nat.beq z' z with
    | true => match hget h b with
      | .lit _ l => match dropN (i * es + j) l with
        | some d => chunkR z k d
        | none => none
      | .row _ es' r => match Nat.beq es' es && Nat.ble (j + k * z) es with
        | true => match rowAt r i with
          | some a => match dropN j a with
            | some d => chunkR z k d
            | none => none
          | none => none
        | false => none
      | .dead => none
    | false => none
  | .ro es nl r => match r with
    | [] => some []
    | _ :: _ => match Nat.beq es z with
      | true => some r
      | false => none
  | .emp => some []
  | .str s => match Nat.beq z 1 with
    | true => some (byteRows s)
    | false => none
  | _ => none
theorem cSrc_ok {z : Nat} {x : CV} {n : Nat} {h : Hp} {rows : List (List CV)} (hc : cSrc z x n h = some rows) :
    ∃ ob m c, srcOf z (toAV x) (H n h) = some ⟨ob, m, c⟩ ∧ ob ∧ m = rows.length ∧ ∀ a y, a < rows.length → y < z → rC (toAVR rows) a y = c a y := by
  unfold cSrc at hc
  split at hc
  · rename_i b es i k nl
    split at hc
    · rename_i hk
      rw [Bool.and_eq_true, nblt, nbeq_iff] at hk
      obtain ⟨hb, rfl⟩ := hk
      split at hc
      · rename_i e es' r hg
        split at hc
        · rename_i he
          rw [nbeq_iff] at he
          obtain ⟨p1, p2, p3⟩ := partR_ok hc
          refine ⟨_, _, _, by simp only [toAV, srcOf, H_get hb, hg, toB]; rfl, ?_, p1.symm, fun a y ha hy => ?_⟩
          · exact ⟨trivial, he, p2⟩
          rw [p1] at ha
          simp only [rC, subC, p3 a ha]
        · cases hc
      · cases hc
    · cases hc
  · rename_i b es i j z' k
    split at hc
    · rename_i hk
      rw [Bool.and_eq_true, nblt, nbeq_iff] at hk
      obtain ⟨hb, rfl⟩ := hk
      split at hc
      · rename_i e l hg
        split at hc
        · rename_i d hd
          obtain ⟨rfl, d2⟩ := dropN_ok hd
          obtain ⟨p1, p2, p3⟩ := chunkR_ok hc
          rw [List.length_drop] at p2
          refine ⟨_, _, _, by simp only [toAV, srcOf, H_get hb, hg, toB]; rfl, ?_, p1.symm, fun a y ha hy => ?_⟩
          · exact ⟨trivial, by rw [toAVL_length]; omega⟩
          rw [p1] at ha
          rw [p3 a y ha hy, getL_drop]
          congr 1; omega
        · cases hc
      · rename_i e es' r hg
        split at hc
        · rename_i he
          rw [Bool.and_eq_true, nbeq_iff, nble_iff] at he
          split at hc
          · rename_i a ha
            split at hc
            · rename_i d hd
              obtain ⟨rfl, d2⟩ := dropN_ok hd
              obtain ⟨p1, p2, p3⟩ := chunkR_ok hc
              refine ⟨_, _, _, by simp only [toAV, srcOf, H_get hb, hg, toB]; rfl, ?_, p1.symm, fun q y hq hy => ?_⟩
              · exact ⟨trivial, he.1, (rowAt_ok ha).1, he.2⟩
              rw [p1] at hq
              rw [p3 q y hq hy, getL_drop]
              simp only [innC, rC_row ha]
              congr 1; omega
            · cases hc
          · cases hc
        · cases hc
      · cases hc
    · cases hc
  · rename_i es nl r
    split at hc
    · injection hc with hc; subst hc
      refine ⟨_, _, _, by simp only [toAV, srcOf, toAVR, List.length_nil]; rfl, ?_, rfl, fun a y ha => absurd ha (by simp)⟩
      exact .inl trivial
    · rename_i a r'
      split at hc
      · rename_i he
        rw [nbeq_iff] at he
        injection hc with hc; subst hc
        refine ⟨_, _, _, by simp only [toAV, srcOf]; rfl, ?_, rfl, fun a y ha hy => rfl⟩
        exact .inr he
      · cases hc
  · injection hc with hc; subst hc
    exact ⟨True, 0, _, by simp only [toAV, srcOf]; rfl, trivial, rfl, fun a y ha => absurd ha (by simp)⟩
  · rename_i s
    split at hc
    · rename_i hz
      rw [nbeq_iff] at hz
      subst hz
      injection hc with hc; subst hc
      obtain ⟨p1, p2⟩ := byteRows_ok s
      refine ⟨_, _, _, by simp only [toAV, srcOf]; rfl, ?_, by rw [p1]; exact mkB_size s, fun a y ha hy => p2 a y (by rw [← p1]; exact ha) hy⟩
      trivial
    · cases hc
  · cases hc
def rowsBytes : List (List CV) → Option (List Nat)
  | [] => some []
  | (.int .u8 (.ofNat q) :: _) :: r => match Nat.ble q 255, rowsBytes r with
    | true, some l => some (q :: l)
    | _, _ => none
  | _ => none
theorem rowsBytes_ok : ∀ {r : List (List CV)} {l : List Nat}, rowsBytes r = some l → l.length = r.length ∧ ∀ i, i < r.length → rC (toAVR r) i 0 = .int .u8 ((l.getD i 0 : Nat) : Int) ∧ l.getD i 0 ≤ 255 := by
  intro r
  induction r with
  | nil => intro l h; simp only [rowsBytes, Option.some.injEq] at h; subst h; simp
  | cons a r ih =>
    intro l h
    unfold rowsBytes at h
    split at h
    · rename_i e; cases e
    · rename_i q w r' e
      injection e with e1 e2; subst e1 e2
      split at h
      · rename_i l' hq hl
        injection h with h; subst h
        obtain ⟨i1, i2⟩ := ih hl
        refine ⟨by simp [i1], fun i hi => ?_⟩
        cases i with
        | zero => simp only [rC, toAVR, toAVL, toAV, getR, getL, List.getD_cons_zero]; exact ⟨rfl, nble_iff.1 hq⟩
        | succ i => simpa [rC, toAVR, getR] using i2 i (by simpa using hi)
      · cases h
    · cases h
def cConv (src : Option Bool) (k : Option IntKind) (sb ds : Bool) (x : CV) (n : Nat) (h : Hp) : Option CV := match x with
  | .int kx m => match src, k with
    | some _, some k => some (.int k (cwr k m))
    | _, _ => none
  | .str _ => none
  | x => match sb && ds with
    | true => match cSrc 1 x n h with
      | some r => match rowsBytes r with
        | some l => some (.str l)
        | none => none
      | none => none
    | false => none
theorem cConv_ok {src : Option Bool} {k : Option IntKind} {sb ds : Bool} {x v : CV} {n : Nat} {h : Hp} (hc : cConv src k sb ds x n h = some v) :
    ∃ ob, evConv2 src k sb ds (toAV x) (H n h) = .pure ob (toAV v) ∧ ob := by
  unfold cConv at hc
  split at hc
  · split at hc
    · injection hc with hc; subst hc
      exact ⟨True, by simp only [toAV, evConv2, evConv, cwr_eq], trivial⟩
    · cases hc
  · cases hc
  · rename_i h1 h2
    split at hc
    · rename_i hs
      split at hc
      · rename_i r hr
        split at hc
        · rename_i l hl
          injection hc with hc; subst hc
          obtain ⟨ob, m, c, s1, s2, s3, s4⟩ := cSrc_ok hr
          obtain ⟨l1, l2⟩ := rowsBytes_ok hl
          have he : evConv2 src k sb ds (toAV x) (H n h) = cvS (srcOf 1 (toAV x) (H n h)) := by
            cases x <;> first | exact absurd rfl (h1 _ _) | exact absurd rfl (h2 _) | simp only [toAV, evConv2, hs, cond_true]
          have hb : bytesC m c = mkB l := by
            apply WideShapes.bytes_inj
            simp only [bytesC, mkB]
            rw [s3]
            apply List.ext_getElem?
            intro i
            simp only [List.getElem?_map]
            by_cases hi : i < r.length
            · rw [List.getElem?_range hi]
              have h3 := s4 i 0 hi (by omega)
              rw [(l2 i hi).1] at h3
              simp only [Option.map_some, ← h3, Int.toNat_natCast]
              rw [List.getElem?_eq_getElem (by omega)]
              simp [List.getD_eq_getElem?_getD, List.getElem?_eq_getElem (show i < l.length from by omega)]
            · rw [List.getElem?_eq_none (by simp; omega), List.getElem?_eq_none (by omega)]; rfl
          refine ⟨_, by rw [he, s1]; simp only [cvS, toAV, hb]; rfl, ?_⟩
          refine ⟨s2, fun i hi => ?_⟩
          have hi' : i < r.length := by rw [← s3]; exact hi
          have h3 := s4 i 0 hi' (by omega)
          rw [(l2 i hi').1] at h3
          rw [← h3]
          exact ⟨Int.natCast_nonneg _, by have := (l2 i hi').2; omega⟩
        · cases hc
      · cases hc
    · cases hc
end
end Go.Am
