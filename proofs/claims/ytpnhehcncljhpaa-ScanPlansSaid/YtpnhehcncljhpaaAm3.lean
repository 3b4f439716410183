/-
  The abstract machine, part 3: what one operation gives is what the model's operation does: loads, stores, addresses, parts.
-/
import Derived.Test.YtpnhehcncljhpaaAm2
namespace Go.Am
set_option linter.unusedVariables false

theorem add_none (k o q : Nat) : (⟨k, o, none⟩ : Addr).add q = ⟨k, o + q, none⟩ := by
  unfold Addr.add; split
  · rename_i h; subst h; rfl
  · rfl

theorem geth_some {h : List ABlk} {b : Nat} (hx : geth h b ≠ .dead) : h[b]? = some (geth h b) := by
  induction h generalizing b with
  | nil => exact absurd rfl hx
  | cons a l ih =>
    cases b with
    | zero => rfl
    | succ b => simp only [geth] at hx ⊢; rw [List.getElem?_cons_succ]; exact ih hx
theorem seth_set (h : List ABlk) (b : Nat) (x : ABlk) : seth h b x = h.set b x := by
  induction h generalizing b with
  | nil => rfl
  | cons a l ih => cases b with
    | zero => rfl
    | succ b => simp only [seth, List.set_cons_succ, ih]
theorem getL_some {l : List AV} {j : Nat} (h : j < l.length) : l[j]? = some (getL l j) := by
  induction l generalizing j with
  | nil => simp at h
  | cons a l ih => cases j with
    | zero => rfl
    | succ j => simp only [getL, List.getElem?_cons_succ]; exact ih (by simpa using h)
theorem getL_eq {l : List AV} {j : Nat} {a : AV} (h : l[j]? = some a) : getL l j = a := by
  have hl : j < l.length := by
    rcases Nat.lt_or_ge j l.length with h' | h'
    · exact h'
    · rw [List.getElem?_eq_none h'] at h; cases h
  rw [getL_some hl] at h; injection h
theorem getL_ge {l : List AV} {j : Nat} (h : l.length ≤ j) : getL l j = .top := by
  induction l generalizing j with
  | nil => rfl
  | cons a l ih => cases j with
    | zero => simp at h
    | succ j => simp only [getL]; exact ih (by simpa using h)
theorem setL_set (l : List AV) (j : Nat) (v : AV) : setL l j v = l.set j v := by
  induction l generalizing j with
  | nil => rfl
  | cons a l ih => cases j with
    | zero => rfl
    | succ j => simp only [setL, List.set_cons_succ, ih]
theorem tabF_length (f : Nat → AV) (k m : Nat) : (tabF f k m).length = m := by
  induction m generalizing k with
  | zero => rfl
  | succ m ih => simp only [tabF, List.length_cons, ih]
theorem tabF_get (f : Nat → AV) (k m q : Nat) (h : q < m) : (tabF f k m)[q]? = some (f (k + q)) := by
  induction m generalizing k q with
  | zero => omega
  | succ m ih => cases q with
    | zero => rfl
    | succ q => simp only [tabF, List.getElem?_cons_succ]; rw [ih (k + 1) q (by omega)]; congr 2; omega

section
variable {P : Program} {E : Env} {h : List ABlk}

theorem und_of_tagg {t : TypeId} {b : Bool} (ht : tagg P t = some b) : ∃ d, P.underlying t = some d ∧ (match d with | .struct _ | .array _ _ => true | _ => false) = b := by
  unfold tagg at ht
  cases hu : P.underlying t with
  | none => rw [hu] at ht; cases ht
  | some d => rw [hu] at ht; exact ⟨d, rfl, by injection ht⟩
theorem run_isAgg {t : TypeId} {b : Bool} (ht : tagg P t = some b) (w : World) : (isAgg t).run P w = .ok b w := by
  obtain ⟨d, hu, hd⟩ := und_of_tagg ht
  unfold isAgg
  rw [Sem.run_bind, run_underlying hu w]
  cases d <;> simp_all
theorem run_sizeOf {t : TypeId} {z : Nat} (ht : tsz P t = some z) (w : World) : (sizeOf t).run P w = .ok z w := by
  unfold tsz at ht
  cases hi : P.info? t with
  | none => rw [hi] at ht; cases ht
  | some i => rw [hi] at ht; simp [sizeOf, typeInfo, hi]; injection ht
theorem info_of_tsz {t : TypeId} {z : Nat} (ht : tsz P t = some z) : ∃ i, P.info? t = some i ∧ i.size = z := by
  unfold tsz at ht
  cases hi : P.info? t with
  | none => rw [hi] at ht; cases ht
  | some i => rw [hi] at ht; exact ⟨i, rfl, by injection ht⟩
theorem info_of_tby {t : TypeId} {z : Nat} (ht : tby P t = some z) : ∃ i, P.info? t = some i ∧ i.bytes = z := by
  unfold tby at ht
  cases hi : P.info? t with
  | none => rw [hi] at ht; cases ht
  | some i => rw [hi] at ht; exact ⟨i, rfl, by injection ht⟩
theorem und_of_tslice {t e : TypeId} (ht : tslice P t = some e) : P.underlying t = some (.slice e) := by
  unfold tslice at ht
  split at ht
  · injection ht with ht; subst ht; assumption
  · cases ht
theorem und_of_tarr {t e : TypeId} {n : Nat} (ht : tarr P t = some (n, e)) : P.underlying t = some (.array n e) := by
  unfold tarr at ht
  split at ht
  · injection ht with ht; cases ht; assumption
  · cases ht

/-- A value read out of m cells in a row. -/
def readAt (w : World) (a : Addr) (m : Nat) : Value := .agg ((List.range m).map fun q => (w.cell? (a.add q)).getD undef).toArray

theorem run_loadVar_agg {t : TypeId} {m : Nat} {a : Addr} {w : World} (ht : tagg P t = some true) (hz : tsz P t = some m) (hc : ∀ q, q < m → ∃ v, w.cell? (a.add q) = some v) :
    (loadVar t a).run P w = .ok (readAt w a m) w := by
  have hl := run_loadCells (P := P) w a m (fun q => (w.cell? (a.add q)).getD undef) (fun q hq => by obtain ⟨v, hv⟩ := hc q hq; simp [hv])
  unfold loadVar
  simp [Sem.run_bind, run_isAgg ht, run_sizeOf hz, hl, readAt]
theorem run_loadVar_one {t : TypeId} {a : Addr} {w : World} {v : Value} (ht : tagg P t = some false) (hc : w.cell? a = some v) :
    (loadVar t a).run P w = .ok v w := by
  unfold loadVar
  simp [Sem.run_bind, run_isAgg ht, hc]

theorem run_loadAt_agg {t : TypeId} {m : Nat} {a : Addr} {w : World} (ht : tagg P t = some true) (hz : tsz P t = some m) (hc : ∀ q, q < m → ∃ v, w.cell? (a.add q) = some v) :
    (Instr.loadAt t (.pointer (some a))).run P w = .ok (readAt w a m) w := by
  simp only [Instr.loadAt, Instr.sureAddr, Sem.run_bind, Sem.run_pure, Result.andThen_ok]
  exact run_loadVar_agg ht hz hc
theorem run_loadAt_one {t : TypeId} {a : Addr} {w : World} {v : Value} (ht : tagg P t = some false) (hc : w.cell? a = some v) :
    (Instr.loadAt t (.pointer (some a))).run P w = .ok v w := by
  simp only [Instr.loadAt, Instr.sureAddr, Sem.run_bind, Sem.run_pure, Result.andThen_ok]
  exact run_loadVar_one ht hc

/-- m cells in a row, told by f from k on. -/
theorem VR_readAt {a : Addr} {m k : Nat} {f : Nat → AV} (hc : ∀ q, q < m → ∃ v, E.w.cell? (a.add q) = some v ∧ v.oneCell' = true ∧ VR E (f (k + q)) v) : VR E (.agg (tabF f k m)) (readAt E.w a m) := by
  have hget : ∀ (i : Nat) (v : Value), (((List.range m).map fun q => (E.w.cell? (a.add q)).getD undef).toArray)[i]? = some v → i < m ∧ E.w.cell? (a.add i) = some v := by
    intro i v hv
    rcases Nat.lt_or_ge i m with hi | hi
    · obtain ⟨u, hu, _⟩ := hc i hi
      rw [List.getElem?_toArray, List.getElem?_map, List.getElem?_range hi, Option.map_some, hu] at hv
      simp at hv
      exact ⟨hi, by rw [hu, hv]⟩
    · rw [List.getElem?_toArray, List.getElem?_eq_none (by simp; exact hi)] at hv; cases hv
  refine .agg _ _ (by simp [tabF_length]) (fun i v hv => ?_) (fun i x v hx hv => ?_)
  · obtain ⟨hi, hv⟩ := hget i v hv
    obtain ⟨u, hu, h1, _⟩ := hc i hi
    rw [hu] at hv; injection hv with hv; rw [← hv]; exact h1
  · obtain ⟨hi, hv⟩ := hget i v hv
    obtain ⟨u, hu, _, h2⟩ := hc i hi
    rw [hu] at hv; injection hv with hv
    rw [tabF_get f k m i hi] at hx
    injection hx with hx
    rw [← hv, ← hx]; exact h2

theorem cell_of {w : World} {k o : Nat} {cs : Array Value} {e : TypeId} {fz : Nat × Nat} (hk : w.heap[k]? = some (.cells cs e fz)) : w.cell? ⟨k, o, none⟩ = cs[o]? := by
  simp [World.cell?, hk]

/-- What stands at an own pointer's place and behind it. -/
theorem own_lit {b k o : Nat} {e : TypeId} {l : List AV} (H : HR E h) (hb : geth h b = .lit e l) (hs : E.σ b = some (k, o)) :
    ∀ q, q < l.length → ∃ v, E.w.cell? ⟨k, o + q, none⟩ = some v ∧ v.oneCell' = true ∧ VR E (getL l q) v := by
  intro q hq
  have hx := H.blk b _ (geth_some (h := h) (b := b) (by rw [hb]; exact fun e => by cases e))
  rw [hb] at hx
  obtain ⟨k', o', cs, h1, h2, h3, h4⟩ := hx
  rw [hs] at h1; cases h1
  obtain ⟨v, q1, q2, q3⟩ := h4 q _ (getL_some hq)
  exact ⟨v, (cell_of h2).trans q1, q2, q3⟩
theorem own_row {b k o n es : Nat} {e : TypeId} {c : Nat → Nat → AV} (H : HR E h) (hb : geth h b = .row e es n c) (hs : E.σ b = some (k, o)) :
    ∀ x y, x < n → y < es → ∃ v, E.w.cell? ⟨k, o + x * es + y, none⟩ = some v ∧ v.oneCell' = true ∧ VR E (c x y) v := by
  intro x y hx hy
  have hr := H.blk b _ (geth_some (h := h) (b := b) (by rw [hb]; exact fun e => by cases e))
  rw [hb] at hr
  unfold BR at hr
  rw [hs] at hr
  obtain ⟨cs, h2, h3, h4⟩ := hr
  obtain ⟨v, q1, q2, q3⟩ := h4 x y hx hy
  exact ⟨v, (cell_of h2).trans q1, q2, q3⟩

theorem cell_lt {w : World} {a : Addr} {v : Value} (h : w.cell? a = some v) : a.block < w.heap.size := by
  rcases Nat.lt_or_ge a.block w.heap.size with h' | h'
  · exact h'
  · simp [World.cell?, Array.getElem?_eq_none h'] at h
theorem run_loadAt_agg' {t : TypeId} {m : Nat} {a : Addr} {w w1 : World} (ht : tagg P t = some true) (hz : tsz P t = some m) (hc : ∀ q, q < m → ∃ v, w.cell? (a.add q) = some v) (hs : ∀ k, k < w.heap.size → w1.heap[k]? = w.heap[k]?) :
    (Instr.loadAt t (.pointer (some a))).run P w1 = .ok (readAt w a m) w1 := by
  have hc1 : ∀ q, q < m → w1.cell? (a.add q) = w.cell? (a.add q) := fun q hq => by
    obtain ⟨v, hv⟩ := hc q hq
    exact cell?_same (hs _ (cell_lt hv))
  rw [show readAt w a m = readAt w1 a m from by
    unfold readAt
    congr 2
    apply List.map_congr_left
    intro q hq
    rw [hc1 q (List.mem_range.1 hq)]]
  exact run_loadAt_agg ht hz fun q hq => by rw [hc1 q hq]; exact hc q hq
theorem run_loadAt_one' {t : TypeId} {a : Addr} {w w1 : World} {v : Value} (ht : tagg P t = some false) (hc : w.cell? a = some v) (hs : ∀ k, k < w.heap.size → w1.heap[k]? = w.heap[k]?) :
    (Instr.loadAt t (.pointer (some a))).run P w1 = .ok v w1 :=
  run_loadAt_one ht ((cell?_same (hs _ (cell_lt hc))).trans hc)
theorem load_sound {t : TypeId} {p v : AV} {u : Value} {ob : Prop} (H : HR E h) (hp : VR E p u) (hr : evLoad (tagg P t) (tsz P t) p h = .pure ob v) (hob : ob) :
    ∃ r, (∀ w1, (∀ k, k < E.w.heap.size → w1.heap[k]? = E.w.heap[k]?) → (Instr.loadAt t u).run P w1 = .ok r w1) ∧ VR E v r := by
  cases ht : tagg P t with
  | none => rw [ht] at hr; simp only [evLoad] at hr; cases hr
  | some ag =>
  cases hz : tsz P t with
  | none => rw [ht, hz] at hr; cases p <;> simp only [evLoad] at hr <;> cases hr
  | some m =>
  rw [ht, hz] at hr
  cases hp with
  | ptr b es i j k o hs =>
    simp only [evLoad, ldB] at hr
    cases hb : geth h b with
    | dead => rw [hb] at hr; cases hr
    | lit e l =>
      have hc := own_lit H hb hs
      rw [hb] at hr
      cases ag with
      | true =>
        simp only [cond_true, AR.pure.injEq] at hr
        obtain ⟨rfl, rfl⟩ := hr
        have hq : ∀ q, q < m → ∃ v, E.w.cell? ((⟨k, o + i * es + j, none⟩ : Addr).add q) = some v ∧ v.oneCell' = true ∧ VR E (getL l (i * es + j + q)) v := fun q hq => by
          rw [add_none, show o + i * es + j + q = o + (i * es + j + q) from by omega]
          exact hc (i * es + j + q) (by omega)
        exact ⟨_, fun w1 hw => run_loadAt_agg' ht hz (fun q h => (hq q h).imp fun v h => h.1) hw, VR_readAt hq⟩
      | false =>
        simp only [cond_false, AR.pure.injEq] at hr
        obtain ⟨rfl, rfl⟩ := hr
        obtain ⟨v, h1, h2, h3⟩ := hc (i * es + j) hob
        exact ⟨v, fun w1 hw => run_loadAt_one' ht (by rw [show o + i * es + j = o + (i * es + j) from by omega]; exact h1) hw, h3⟩
    | row e es' n c =>
      have hc := own_row H hb hs
      rw [hb] at hr
      cases ag with
      | true =>
        simp only [cond_true, AR.pure.injEq] at hr
        obtain ⟨rfl, rfl⟩ := hr
        obtain ⟨rfl, hi, hj⟩ := hob
        have hq : ∀ q, q < m → ∃ v, E.w.cell? ((⟨k, o + i * es' + j, none⟩ : Addr).add q) = some v ∧ v.oneCell' = true ∧ VR E (c i (j + q)) v := fun q hq => by
          rw [add_none, show o + i * es' + j + q = o + i * es' + (j + q) from by omega]
          exact hc i (j + q) hi (by omega)
        exact ⟨_, fun w1 hw => run_loadAt_agg' ht hz (fun q h => (hq q h).imp fun v h => h.1) hw, VR_readAt hq⟩
      | false =>
        simp only [cond_false, AR.pure.injEq] at hr
        obtain ⟨rfl, rfl⟩ := hr
        obtain ⟨rfl, hi, hj⟩ := hob
        obtain ⟨v, h1, h2, h3⟩ := hc i j hi hj
        exact ⟨v, fun w1 hw => run_loadAt_one' ht h1 hw, h3⟩
  | rptr es n i j k o c us hpr hu h1 hc hrf =>
    simp only [evLoad] at hr
    cases ag with
    | true =>
      simp only [cond_true, AR.pure.injEq] at hr
      obtain ⟨rfl, rfl⟩ := hr
      obtain ⟨hi, hj⟩ := hob
      have hq : ∀ q, q < m → ∃ v, E.w.cell? ((⟨k, o + i * es + j, none⟩ : Addr).add q) = some v ∧ v.oneCell' = true ∧ VR E (c i (j + q)) v := fun q hq => by
        rw [add_none, show o + i * es + j + q = o + i * es + (j + q) from by omega]
        exact ⟨_, hu i (j + q) hi (by omega), h1 _ _ hi (by omega), hc _ _ hi (by omega)⟩
      exact ⟨_, fun w1 hw => run_loadAt_agg' ht hz (fun q h => (hq q h).imp fun v h => h.1) hw, VR_readAt hq⟩
    | false =>
      simp only [cond_false, AR.pure.injEq] at hr
      obtain ⟨rfl, rfl⟩ := hr
      obtain ⟨hi, hj⟩ := hob
      exact ⟨_, fun w1 hw => run_loadAt_one' ht (hu i j hi hj) hw, hc i j hi hj⟩
  | _ => simp only [evLoad] at hr; cases hr

/-! ### Stores and new variables -/
theorem VR_one {a : AV} {v : Value} (ha : atom a = true) (hv : VR E a v) : v.oneCell' = true := by
  cases hv <;> first | rfl | assumption | (simp [atom] at ha)
/-- The cells of a value. -/
theorem VR_cells {a : AV} {v : Value} (ha : vcOk a = true) (hv : VR E a v) :
    v.cells.size = (vcells a).length ∧ ∀ (q : Nat) (x : AV), (vcells a)[q]? = some x → ∃ u, v.cells[q]? = some u ∧ u.oneCell' = true ∧ VR E x u := by
  have one : atom a = true → vcells a = [a] → v.cells = #[v] → v.cells.size = (vcells a).length ∧ ∀ (q : Nat) (x : AV), (vcells a)[q]? = some x → ∃ u, v.cells[q]? = some u ∧ u.oneCell' = true ∧ VR E x u := by
    intro h1 h2 h3
    rw [h2, h3]
    refine ⟨rfl, fun q x hx => ?_⟩
    cases q with
    | zero => simp at hx; subst hx; exact ⟨v, rfl, VR_one h1 hv, hv⟩
    | succ q => simp at hx
  cases hv with
  | agg l vs hl h1 h2 =>
    refine ⟨hl.symm, fun q x hx => ?_⟩
    have hq : q < vs.size := by
      rcases Nat.lt_or_ge q l.length with h' | h'
      · omega
      · have hx' : l[q]? = some x := hx
        rw [List.getElem?_eq_none h'] at hx'; cases hx'
    exact ⟨vs[q], Array.getElem?_eq_getElem hq, h1 q _ (Array.getElem?_eq_getElem hq), h2 q x _ hx (Array.getElem?_eq_getElem hq)⟩
  | val v h1 => exact one rfl rfl (by cases v <;> first | rfl | (simp [Value.oneCell'] at h1))
  | _ => first | exact one rfl rfl rfl | (simp [vcOk, atom] at ha)

theorem box_HR {t : TypeId} {a : AV} {v : Value} (H : HR E h) (ha : vcOk a = true) (hv : VR E a v) :
    HR (E.push h (.cells v.cells t)) (h ++ [.lit t (vcells a)]) ∧ Ext E h (E.push h (.cells v.cells t)) (h ++ [.lit t (vcells a)]) := by
  obtain ⟨h1, h2⟩ := VR_cells ha hv
  refine push_HR H v.cells t _ ⟨E.w.heap.size, 0, v.cells, upd_same _ _ _, heap_alloc_new _ _, by omega, fun j x hj => ?_⟩
  obtain ⟨u, q1, q2, q3⟩ := h2 j x hj
  exact ⟨u, by rw [Nat.zero_add]; exact q1, q2, q3.mono (keep_push H _)⟩

theorem VR_push_ptr {o : Obj} : VR (E.push h o) (.ptr h.length 0 0 0) (.pointer (some ⟨E.w.heap.size, 0, none⟩)) := by
  have := VR.ptr (E := E.push h o) h.length 0 0 0 E.w.heap.size 0 (upd_same _ _ _)
  simpa using this

theorem run_box (t : TypeId) (v : Value) (w : World) : (Instr.box t v).run P w = .ok (.pointer (some ⟨w.heap.size, 0, none⟩)) (w.alloc (.cells v.cells t)) := rfl

theorem absV_sound {v : Value} {a : AV} (hv : absV v = some a) : VR E a v ∧ atom a = true := by
  unfold absV at hv
  split at hv <;> first | (injection hv with hv; subst hv) | cases hv
  · exact ⟨.bool _, rfl⟩
  · exact ⟨.int _ _, rfl⟩
  · exact ⟨.str _, rfl⟩
  · exact ⟨.nilp, rfl⟩
  · exact ⟨.ro 0 0 true _ none 0 (Nat.le_refl _) (by simp [maxLen]) (fun _ => rfl) (fun _ => rfl) (fun _ _ => undef) (fun h => absurd h (by omega)) (fun x y hx => absurd hx (by omega)) (fun x y hx => absurd hx (by omega)) (fun x y hx => absurd hx (by omega)), rfl⟩
  · exact ⟨.nilf, rfl⟩
theorem absL_sound {l : List Value} {m : List AV} (hl : absL l = some m) : m.length = l.length ∧ ∀ (i : Nat) (a : AV) (v : Value), m[i]? = some a → l[i]? = some v → VR E a v ∧ atom a = true := by
  induction l generalizing m with
  | nil => simp only [absL] at hl; injection hl with hl; subst hl; exact ⟨rfl, fun i a v h => by simp at h⟩
  | cons v r ih =>
    simp only [absL] at hl
    split at hl
    · rename_i a l' ha hr
      injection hl with hl; subst hl
      obtain ⟨h1, h2⟩ := ih hr
      refine ⟨by simp [h1], fun i x y hx hy => ?_⟩
      cases i with
      | zero => simp at hx hy; subst hx hy; exact absV_sound ha
      | succ i => exact h2 i x y (by simpa using hx) (by simpa using hy)
    · cases hl
theorem absC_sound (v : Value) : VR E (absC v) v := by
  unfold absC
  split
  · rename_i cs
    cases hl : absL cs.toList with
    | none => exact .top _
    | some l =>
      obtain ⟨h1, h2⟩ := absL_sound (E := E) hl
      refine .agg _ _ (by simpa using h1) (fun i v hv => ?_) (fun i a v ha hv => (h2 i a v ha (by simpa using hv)).1)
      have hi : i < l.length := by
        rw [h1]; rcases Nat.lt_or_ge i cs.toList.length with h' | h'
        · exact h'
        · have : cs.toList[i]? = some v := by simpa using hv
          rw [List.getElem?_eq_none h'] at this; cases this
      have := h2 i _ v (List.getElem?_eq_getElem hi) (by simpa using hv)
      exact VR_one this.2 this.1
  · cases hv : absV v with
    | none => exact .top _
    | some a => exact (absV_sound hv).1

theorem zero_of {t : TypeId} {l : List AV} (hz : tzero P t = some l) : ∃ i z, P.info? t = some i ∧ i.zero = some z ∧ absL z.cells.toList = some l := by
  unfold tzero at hz
  split at hz
  · rename_i i hi
    split at hz
    · rename_i z hz'; exact ⟨i, z, hi, hz', hz⟩
    · cases hz
  · cases hz
theorem run_zeroValue {t : TypeId} {i : TypeInfo} {z : Value} (hi : P.info? t = some i) (hz : i.zero = some z) (w : World) : (zeroValue t).run P w = .ok z w := by
  simp [zeroValue, typeInfo, hi, hz]

theorem alloc_HR {t : TypeId} {l : List AV} {z : Value} (H : HR E h) (hz : absL z.cells.toList = some l) :
    HR (E.push h (.cells z.cells t)) (h ++ [.lit t l]) ∧ Ext E h (E.push h (.cells z.cells t)) (h ++ [.lit t l]) := by
  obtain ⟨h1, h2⟩ := absL_sound (E := E.push h (.cells z.cells t)) hz
  refine push_HR H z.cells t _ ⟨E.w.heap.size, 0, z.cells, upd_same _ _ _, heap_alloc_new _ _, by simp at h1; omega, fun j x hj => ?_⟩
  have hj' : j < z.cells.toList.length := by
    rw [← h1]; rcases Nat.lt_or_ge j l.length with h' | h'
    · exact h'
    · rw [List.getElem?_eq_none h'] at hj; cases hj
  obtain ⟨q1, q2⟩ := h2 j x _ hj (List.getElem?_eq_getElem hj')
  refine ⟨z.cells.toList[j], ?_, VR_one q2 q1, q1⟩
  rw [Nat.zero_add, ← Array.getElem?_toList]
  exact List.getElem?_eq_getElem hj'

theorem run_alloc {t : TypeId} {i : TypeInfo} {z : Value} (hi : P.info? t = some i) (hz : i.zero = some z) (w : World) :
    (Instr.alloc t true (.tuple #[])).run P w = .ok (.pointer (some ⟨w.heap.size, 0, none⟩)) (w.alloc (.cells z.cells t)) := by
  simp only [Instr.alloc, Sem.run_bind, run_zeroValue hi hz, Result.andThen_ok]
  rfl

/-- The row behind a store of some cells. -/
def splice (cs : Array Value) (o : Nat) (vs : List Value) : Array Value := (cs.toList.take o ++ vs ++ cs.toList.drop (o + vs.length)).toArray
theorem splice_size {cs : Array Value} {o : Nat} {vs : List Value} (h : o + vs.length ≤ cs.size) : (splice cs o vs).size = cs.size := by
  simp [splice]; omega
theorem splice_get {cs : Array Value} {o : Nat} {vs : List Value} (h : o + vs.length ≤ cs.size) (i : Nat) : (splice cs o vs)[i]? = if o ≤ i ∧ i < o + vs.length then vs[i - o]? else cs[i]? := by
  simp only [splice, List.getElem?_toArray, List.append_assoc]
  by_cases h1 : i < o
  · rw [if_neg (by omega), List.getElem?_append_left (by simp; omega), List.getElem?_take, if_pos h1]; simp
  · by_cases h2 : i < o + vs.length
    · rw [if_pos (by omega), List.getElem?_append_right (by simp; omega), List.getElem?_append_left (by simp; omega)]
      congr 1; simp; omega
    · rw [if_neg (by omega), List.getElem?_append_right (by simp; omega), List.getElem?_append_right (by simp; omega), List.getElem?_drop]
      simp
      congr 1
      omega

theorem setRow_putRow {w : World} {k : Nat} {cs cs' : Array Value} {e : TypeId} (hk : w.heap[k]? = some (.cells cs e (0, 0))) : w.setRow k cs' = putRow w k cs' e := by
  have hlt := lt_of_some hk
  have hv : w.heap[k] = .cells cs e (0, 0) := (Array.getElem?_eq_some_iff.1 hk).2
  unfold World.setRow putRow
  congr 1
  apply Array.ext_getElem?
  intro i
  rw [Array.getElem?_modify, Array.getElem?_setIfInBounds]
  by_cases hi : k = i
  · subst hi; simp [hlt, hv]
  · simp [hi]

theorem run_storeVar {t : TypeId} {m k o : Nat} {v : Value} {cs : Array Value} {e : TypeId} {w : World} (hz : tsz P t = some m) (hm : v.cells.size = m)
    (hk : w.heap[k]? = some (.cells cs e (0, 0))) (hl : o + v.cells.size ≤ cs.size) (h1 : ∀ u ∈ v.cells.toList, u.oneCell' = true) :
    (storeVar t ⟨k, o, none⟩ v).run P w = .ok () (putRow w k (splice cs o v.cells.toList) e) := by
  have hs := run_storeCells_at P k o e v.cells.toList 0 cs w hk (by simpa using hl) h1
  unfold storeVar
  simp only [Sem.run_bind, run_sizeOf hz, Result.andThen_ok]
  rw [if_neg (by simp [hm])]
  rw [hs, Nat.add_zero, setRow_putRow hk]
  rfl
end
end Go.Am
