/-
  TriggerMap: the map with a plan.
-/
import Derived.Test.YtnclkplbeenmdaaCC
namespace Go.Proofs.Ytnclkplbeenmdaa
open Go.Am
set_option linter.unusedVariables false
set_option linter.unusedSimpArgs false
theorem alive_ok : F32 = some true := by kernel_rfl
/-! ### Those that are named -/
def Ws (b : TBuffer) (f : Nat → Bool) (n : Nat) : List Int := ((List.range n).filter f).map fun i => (gd b.List i).Aid
theorem ws_len (b : TBuffer) (f : Nat → Bool) (n : Nat) : (Ws b f n).length ≤ n := by
  unfold Ws
  rw [List.length_map]
  exact Nat.le_trans (List.length_filter_le _ _) (by simp)
theorem ws_snoc (b : TBuffer) (f : Nat → Bool) (n : Nat) : Ws b f (n + 1) = if f n = true then Ws b f n ++ [(gd b.List n).Aid] else Ws b f n := by
  unfold Ws
  rw [List.range_succ, List.filter_append, List.map_append]
  by_cases h : f n = true
  · rw [if_pos h]; simp [h]
  · rw [if_neg h]; simp [h]
theorem ws_mem {b : TBuffer} {f : Nat → Bool} {x : Int} : x ∈ Ws b f b.List.length ↔ ∃ i : Nat, i < b.List.length ∧ f i = true ∧ (gd b.List i).Aid = x := by
  unfold Ws
  simp only [List.mem_map, List.mem_filter, List.mem_range]
  constructor
  · rintro ⟨i, ⟨h1, h2⟩, rfl⟩; exact ⟨i, h1, h2, rfl⟩
  · rintro ⟨i, h1, h2, rfl⟩; exact ⟨i, ⟨h1, h2⟩, rfl⟩
theorem ws_lt {b : TBuffer} {f : Nat → Bool} (hv : Vb b) {i j : Nat} (h : i < j) (hj : j < (Ws b f b.List.length).length) : gd (Ws b f b.List.length) i < gd (Ws b f b.List.length) j := by
  have P : (Ws b f b.List.length).Pairwise (· < ·) := by
    unfold Ws
    rw [List.pairwise_map]
    refine List.Pairwise.imp_of_mem ?_ (List.Pairwise.filter f (List.pairwise_lt_range (n := b.List.length)))
    intro x y hx hy hxy
    have := (List.mem_filter.1 hy).1
    exact aid_lt hv hxy (List.mem_range.1 this)
  have := List.pairwise_iff_getElem.1 P i j (by omega) hj h
  rw [gd_at (by omega), gd_at hj] at this
  exact this
theorem bcheck_ok (b : TBuffer) (f : Nat → Bool) (g : Bool) (hg : Ng b) (hv : Vb b) : F38 (TTraffic.mk g (Ws b f b.List.length)) = some 0 := by
  have hw := ws_len b f b.List.length
  have hl := hg.1
  unfold F38
  have l1 := run_gen (step := fun s => F38_L1 (TTraffic.mk g (Ws b f b.List.length)) s.1 s.2) (R := Int) (Ws b f b.List.length).length (fun i => (if i = 0 then 0 else gd (Ws b f b.List.length) (i - 1), (i : Int))) () (fun i hi => by
      show F38_L1 (TTraffic.mk g (Ws b f b.List.length)) _ i = _
      unfold F38_L1
      simp only
      obtain ⟨a, a1, a2, a3⟩ := ws_mem.1 (gd_mem hi)
      have ar := aid_rng hv a1
      have hlt : (if i = 0 then 0 else gd (Ws b f b.List.length) (i - 1)) < gd (Ws b f b.List.length) i := by
        split
        · omega
        · exact ws_lt hv (by omega) hi
      rw [bif_t (by simp [bLt_eq]; omega), need_true (inb_nat hi), Int.toNat_natCast, wr_add1 hi (by omega), bif_f (by simp only [bLe_eq, bLt_eq, Bool.or_eq_false_iff, decide_eq_false_iff_not]; omega)]
      rw [if_neg (show ¬ (i + 1 = 0) by omega)]
      rfl)
    (by show F38_L1 (TTraffic.mk g (Ws b f b.List.length)) _ _ = _; unfold F38_L1; rw [bif_f (by simp [bLt_eq])])
  replace l1 : loopD (fun s => F38_L1 (TTraffic.mk g (Ws b f b.List.length)) s.1 s.2) ((0 : Int), (0 : Int)) = some (.inl ()) := by simpa using l1
  rw [lp_inl l1]
theorem has_ok (b : TBuffer) (f : Nat → Bool) (g : Bool) (i : Nat) (hi : i < b.List.length) (hg : Ng b) (hv : Vb b) : F39 (TTraffic.mk g (Ws b f b.List.length)) (gd b.List i).Aid = some (f i) := by
  have hw := ws_len b f b.List.length
  have hl := hg.1
  have ar := aid_rng hv hi
  have key : (gd b.List i).Aid ∈ Ws b f b.List.length ↔ f i = true := by
    rw [ws_mem]
    constructor
    · rintro ⟨j, h1, h2, h3⟩; rw [← aid_inj hv h1 hi h3]; exact h2
    · intro h; exact ⟨i, hi, h, rfl⟩
  unfold F39 F62
  rw [bcheck_ok b f g hg hv, Option.bind_some, bif_f (by rfl), bif_f (by simp only [bLt_eq, Bool.or_eq_false_iff, decide_eq_false_iff_not]; omega), Option.bind_some, bif_f (by rfl)]
  have he : bEq (gd b.List i).Aid 0 = false := by simp only [bEq_eq, decide_eq_false_iff_not]; omega
  have hp : bLt 0 (gd b.List i).Aid = true := by simp only [bLt_eq, decide_eq_true_eq]; omega
  have C : ∃ r, F63 (Ws b f b.List.length) (gd b.List i).Aid = some r ∧ (r = true ↔ (gd b.List i).Aid ∈ Ws b f b.List.length) := by
    unfold F63 F77
    obtain ⟨r, l1, l2⟩ := loop_for (step := fun s => F77_L1 (Ws b f b.List.length) (gd b.List i).Aid s) (Ws b f b.List.length).length (fun n => ∀ j : Nat, j < n → gd (Ws b f b.List.length) j ≠ (gd b.List i).Aid)
      (fun r => match r with | .inl _ => (gd b.List i).Aid ∉ Ws b f b.List.length | .inr x => ∃ k : Nat, x = (k : Int) ∧ (gd b.List i).Aid ∈ Ws b f b.List.length) (fun i hi => by omega)
      (fun j hj hI => by
        unfold F77_L1
        rw [bif_t (by simp [bLt_eq]; omega), need_true (inb_nat hj), Int.toNat_natCast]
        by_cases hc : (gd b.List i).Aid = gd (Ws b f b.List.length) j
        · rw [bif_t (by simp only [bEq_eq, decide_eq_true_eq]; exact hc)]
          exact .inl ⟨_, rfl, j, rfl, by rw [hc]; exact gd_mem hj⟩
        · rw [bif_f (by simp only [bEq_eq, decide_eq_false_iff_not]; exact hc), wr_add1 hj (by omega)]
          refine .inr ⟨rfl, fun j' hj' => ?_⟩
          rcases Nat.lt_or_eq_of_le (Nat.le_of_lt_succ hj') with h | rfl
          · exact hI j' h
          · exact fun e => hc e.symm)
      (fun hI => by
        unfold F77_L1
        rw [bif_f (by simp [bLt_eq])]
        exact ⟨_, rfl, fun hm => by obtain ⟨j, hj, e⟩ := mem_gd hm; exact hI j hj e⟩)
    cases r with
    | inl u => rw [lp_inl l1]; exact ⟨_, rfl, fun h => by simp [bLe_eq] at h, fun h => absurd h l2⟩
    | inr x => obtain ⟨k, rfl, l3⟩ := l2; rw [lp_inr l1]; exact ⟨_, rfl, fun _ => l3, fun _ => by simp [bLe_eq]⟩
  obtain ⟨r, r1, r2⟩ := C
  simp only
  rw [r1, he, hp]
  have : r = f i := by
    rw [key] at r2
    cases r <;> cases h : f i <;> simp_all
  subst this
  simp [need_true, gt_some]
/-! ### The maps -/
def hasB (b : TBuffer) (i : Nat) : Bool := decide (0 < (gd b.List i).Held.length)
theorem map_ok (b : TBuffer) (hg : Ng b) (hv : Vb b) : F37 b = some (TTraffic.mk (bLt 0 (b.Group.length : Nat)) (Ws b (hasB b) b.List.length), 0) := by
  have hc : F34 b = some 0 := by
    rcases check_ok b hg with h | h
    · exact h.2
    · exact absurd hv h.1
  have hl := hg.1
  unfold F37
  rw [hc, Option.bind_some, bif_f (by rfl)]
  have l1 := run_gen (step := fun s => F37_L1 b s.1 s.2) (R := TTraffic × Int) b.List.length (fun i => ((i : Int), Ws b (hasB b) i)) (Ws b (hasB b) b.List.length) (fun i hi => by
      show F37_L1 b i (Ws b (hasB b) i) = _
      unfold F37_L1
      have ht := ws_len b (hasB b) i
      rw [bif_t (by simp [bLt_eq]; omega), need_true (inb_nat hi), Int.toNat_natCast, wr_add1 hi (by omega), ws_snoc]
      by_cases h : 0 < (gd b.List i).Held.length
      · rw [bif_t (by simp only [bLt_eq, decide_eq_true_eq]; omega), nd_cap (by omega) (by omega), if_pos (by simp [hasB, h])]
      · rw [bif_f (by simp only [bLt_eq, decide_eq_false_iff_not]; omega), if_neg (by simp [hasB, h])])
    (by show F37_L1 b _ _ = _; unfold F37_L1; rw [bif_f (by simp [bLt_eq])])
  replace l1 : loopD (fun s => F37_L1 b s.1 s.2) ((0 : Int), ([] : List Int)) = some (.inl (Ws b (hasB b) b.List.length)) := l1
  rw [lp_inl l1]
/-- Whether anything stays for polling. -/
def lft (d : Int) (q : TStored) : Bool := bEq d 15 || bEq (andI .u8 (shrI .u8 d q.Cat) 1) 0
theorem left_ok (l : List TStored) (d : Int) (hn : l.length ≤ 1000) (hc : C0 l) : F49_1 l d = some (l.any (lft d)) := by
  unfold F49_1 F68_1
  obtain ⟨r, l1, l2⟩ := loop_for (step := fun s => F68_1_L1 l d s) l.length (fun n => ∀ j : Nat, j < n → lft d (gd l j) = false)
    (fun r => match r with | .inl _ => l.any (lft d) = false | .inr x => ∃ k : Nat, x = (k : Int) ∧ l.any (lft d) = true) (fun i hi => by omega)
    (fun i hi hI => by
      unfold F68_1_L1 F48_0
      have h0 := hc _ (gd_mem hi)
      rw [bif_t (by simp [bLt_eq]; omega), need_true (inb_nat hi), Int.toNat_natCast, need_true (by simp [bLe_eq, h0]), Option.bind_some]
      cases ht : lft d (gd l i) with
      | true =>
        rw [show (bEq d 15 || bEq (andI .u8 (shrI .u8 d (gd l i).Cat) 1) 0) = true from ht]
        exact .inl ⟨_, rfl, i, rfl, List.any_eq_true.2 ⟨_, gd_mem hi, ht⟩⟩
      | false =>
        rw [show (bEq d 15 || bEq (andI .u8 (shrI .u8 d (gd l i).Cat) 1) 0) = false from ht]
        rw [cond_false, wr_add1 hi (by omega)]
        refine .inr ⟨rfl, fun j hj => ?_⟩
        rcases Nat.lt_or_eq_of_le (Nat.le_of_lt_succ hj) with h | rfl
        · exact hI j h
        · exact ht)
    (fun hI => by
      unfold F68_1_L1
      rw [bif_f (by simp [bLt_eq])]
      refine ⟨_, rfl, ?_⟩
      show l.any (lft d) = false
      rw [List.any_eq_false]
      intro q hq
      obtain ⟨j, hj, rfl⟩ := mem_gd hq
      simp [hI j hj])
  cases r with
  | inl u => rw [lp_inl l1, show l.any (lft d) = false from l2]; rfl
  | inr x => obtain ⟨k, rfl, k2⟩ := l2; rw [lp_inr l1, k2]; simp [bLe_eq]
theorem any0 (l : List TStored) (h3 : ∀ q ∈ l, 0 ≤ q.Cat ∧ q.Cat ≤ 3) : l.any (lft 0) = decide (0 < l.length) := by
  have h0 : ((List.range 4).all fun b => bEq (andI .u8 (shrI .u8 0 (b : Int)) 1) 0) = true := by kernel_rfl
  cases l with
  | nil => rfl
  | cons q l =>
    have hq := h3 q (List.mem_cons_self ..)
    obtain ⟨c, hc⟩ := Int.eq_ofNat_of_zero_le hq.1
    have := List.all_eq_true.1 h0 c (List.mem_range.2 (by omega))
    simp [lft, hc, this]
theorem bit01 : ((List.range 16).all fun a => (List.range 4).all fun b => bEq (andI .u8 (shrI .u8 (a : Int) (b : Int)) 1) 0 == !bEq (andI .u8 (shrI .u8 (a : Int) (b : Int)) 1) 1) = true := by kernel_rfl
theorem anyD (d : Int) (l : List TStored) (hd : 0 ≤ d ∧ d ≤ 15) (h3 : ∀ q ∈ l, 0 ≤ q.Cat ∧ q.Cat ≤ 3) : l.any (lft d) = (bLt 0 ((l.length : Int) - (cnt d l : Int)) || (bEq d 15 && bLt 0 (l.length : Nat))) := by
  by_cases e : d = 15
  · subst e
    have : l.any (lft 15) = decide (0 < l.length) := by
      cases l with
      | nil => rfl
      | cons q l => simp [lft, bEq_eq]
    rw [this]
    have hc := cnt_le 15 l
    rw [Bool.eq_iff_iff]
    simp only [bLt_eq, bEq_eq, Bool.or_eq_true, Bool.and_eq_true, decide_eq_true_eq, true_and]
    omega
  · have e15 : bEq d 15 = false := by simp [bEq_eq, e]
    rw [e15, Bool.false_and, Bool.or_false]
    obtain ⟨a, rfl⟩ := Int.eq_ofNat_of_zero_le hd.1
    have T : ∀ q ∈ l, lft (a : Int) q = !Tl (a : Int) q := fun q hq => by
      obtain ⟨c, hc⟩ := Int.eq_ofNat_of_zero_le (h3 q hq).1
      have hc3 := (h3 q hq).2
      have h1 := List.all_eq_true.1 bit01 a (List.mem_range.2 (by omega))
      have h2 := List.all_eq_true.1 h1 c (List.mem_range.2 (by omega))
      unfold lft Tl
      rw [e15, Bool.false_or, hc]
      exact eq_of_beq h2
    rw [Bool.eq_iff_iff]
    have hle := cnt_le (a : Int) l
    simp only [bLt_eq, decide_eq_true_eq, List.any_eq_true]
    constructor
    · rintro ⟨q, hq, h⟩
      rw [T q hq] at h
      have : cnt (a : Int) l < l.length := by
        rcases Nat.lt_or_eq_of_le hle with h' | h'
        · exact h'
        · have := List.filter_eq_self.1 (List.Sublist.eq_of_length (List.filter_sublist (p := Tl (a : Int)) (l := l)) h') q hq
          rw [this] at h; cases h
      omega
    · intro h
      have hlt : cnt (a : Int) l < l.length := by omega
      by_cases hx : ∃ q ∈ l, Tl (a : Int) q = false
      · obtain ⟨q, hq, h⟩ := hx; exact ⟨q, hq, by rw [T q hq, h]; rfl⟩
      · exfalso
        have : l.filter (Tl (a : Int)) = l := List.filter_eq_self.2 fun q hq => by
          cases h : Tl (a : Int) q with
          | true => rfl
          | false => exact absurd ⟨q, hq, h⟩ hx
        unfold cnt at hlt
        rw [this] at hlt
        omega
/-! ### The map with a plan -/
def Pls (b : TBuffer) (p : TTriggerPlan) (k : Nat) : List TTriggerPlan := (List.replicate b.List.length ((TTriggerPlan.mk 0 0 0) : TTriggerPlan)).set k p
def incB (b : TBuffer) (p : TTriggerPlan) (k i : Nat) : Bool := (gd b.List i).Held.any (lft (gd (Pls b p k) i).Deliver)
theorem pls_len (b : TBuffer) (p : TTriggerPlan) (k : Nat) : (Pls b p k).length = b.List.length := by simp [Pls]
theorem pls_at {b : TBuffer} {p : TTriggerPlan} {k : Nat} (hk : k < b.List.length) : gd (Pls b p k) k = p := gd_set_eq (by simpa using hk)
theorem pls_ne {b : TBuffer} {p : TTriggerPlan} {k i : Nat} (hi : i < b.List.length) (h : k ≠ i) : gd (Pls b p k) i = TTriggerPlan.mk 0 0 0 := by
  unfold Pls
  rw [gd_set_ne h]
  simp [gd, List.getD_eq_getElem?_getD, List.getElem?_replicate, hi]
theorem plan_ok (p : TTriggerPlan) : (F20 p = some 0 ∧ p.Deliver ≤ 15) ∨ F20 p = some 8 := by
  unfold F20
  cases h : (((bLt 15 p.Start || bLt 15 p.Deliver) || bLt p.Most 0) || bLt 16 p.Most) with
  | true => exact .inr rfl
  | false =>
    refine .inl ⟨rfl, ?_⟩
    simp only [bLt_eq, Bool.or_eq_false_iff, decide_eq_false_iff_not] at h
    omega
theorem tmap_ok (b : TBuffer) (p : TTriggerPlan) (k : Nat) (hk : k < b.List.length) (hg : Ng b) (hv : Vb b) (h0 : ∀ s ∈ b.List, C0 s.Held) :
    (F20 p = some 0 ∧ p.Deliver ≤ 15 ∧ F25 b (Pls b p k) = some (TTraffic.mk (bLt 0 (b.Group.length : Nat)) (Ws b (incB b p k) b.List.length), 0)) ∨
    F20 p = some 8 ∧ F25 b (Pls b p k) = some (TTraffic.mk false [], 8) := by
  have hc : F34 b = some 0 := by
    rcases check_ok b hg with h | h
    · exact h.2
    · exact absurd hv h.1
  have hl := hg.1
  have hpl := pls_len b p k
  have hz : F20 (TTriggerPlan.mk 0 0 0) = some 0 := rfl
  unfold F25
  rw [hc, Option.bind_some, bif_f (by rfl), bif_f (by rw [hpl]; simp [bEq_eq])]
  have step : ∀ i : Nat, i < b.List.length → F20 (gd (Pls b p k) i) = some 0 → F25_L1 b (Pls b p k) i (Ws b (incB b p k) i) = some (.next (((i + 1 : Nat) : Int), Ws b (incB b p k) (i + 1))) := fun i hi hp => by
    unfold F25_L1
    have ht := ws_len b (incB b p k) i
    have hh := hg.2.2 i hi
    rw [bif_t (by rw [hpl]; simp [bLt_eq]; omega), need_true (inb_nat (by omega)), Int.toNat_natCast, hp, Option.bind_some, bif_f (by rfl), need_true (inb_nat hi), left_ok _ _ (by omega) (h0 _ (gd_mem hi)), Option.bind_some, wr_add1 hi (by omega), ws_snoc]
    cases hb : (gd b.List i).Held.any (lft (gd (Pls b p k) i).Deliver) with
    | true =>
      rw [cond_true, need_true (inb_nat hi), nd_cap (by omega) (by omega), if_pos (by exact hb)]
    | false =>
      rw [cond_false, if_neg (by rw [show incB b p k i = false from hb]; simp)]
  rcases plan_ok p with ⟨hp, hp2⟩ | hp
  · have l1 := run_gen (step := fun s => F25_L1 b (Pls b p k) s.1 s.2) (R := TTraffic × Int) b.List.length (fun i => ((i : Int), Ws b (incB b p k) i)) (Ws b (incB b p k) b.List.length) (fun i hi => step i hi (by
        by_cases e : k = i
        · subst e; rw [pls_at hk]; exact hp
        · rw [pls_ne hi e]; exact hz))
      (by show F25_L1 b (Pls b p k) _ _ = _; unfold F25_L1; rw [bif_f (by rw [hpl]; simp [bLt_eq])])
    replace l1 : loopD (fun s => F25_L1 b (Pls b p k) s.1 s.2) ((0 : Int), ([] : List Int)) = some (.inl (Ws b (incB b p k) b.List.length)) := l1
    rw [lp_inl l1]
    exact .inl ⟨hp, hp2, rfl⟩
  · obtain ⟨r, l1, l2⟩ := loop_inv (step := fun s : Int × List Int => F25_L1 b (Pls b p k) s.1 s.2) (fun s => ∃ i : Nat, s = ((i : Int), Ws b (incB b p k) i) ∧ i ≤ k) (fun r => r = .inr (TTraffic.mk false [], 8)) (fun s => (k + 1 - s.1).toNat)
      (fun s hI => by
        obtain ⟨i, rfl, hi⟩ := hI
        by_cases e : k = i
        · subst e
          refine .inl ⟨_, ?_, rfl⟩
          unfold F25_L1
          rw [bif_t (by rw [hpl]; simp [bLt_eq]; omega), need_true (inb_nat (by omega)), Int.toNat_natCast, pls_at hk, hp, Option.bind_some]
          rfl
        · exact .inr ⟨_, step i (by omega) (by rw [pls_ne (by omega) e]; exact hz), ⟨i + 1, rfl, by omega⟩, by simp only; omega⟩)
      ((0 : Int), ([] : List Int)) ⟨0, rfl, by omega⟩
    rw [l2] at l1
    rw [lp_inr l1]
    exact .inr ⟨hp, rfl⟩
theorem law9 (b : TBuffer) (p : TTriggerPlan) (x : Int) (h0 : ∀ s ∈ b.List, ∀ q ∈ s.Held, 0 ≤ q.Cat ∧ q.Cat ≤ 255) (hd : 0 ≤ p.Deliver) : F9 b p x = some true := by
  unfold F9
  rw [alive_ok, Option.bind_some]
  obtain ⟨g, g1, g2⟩ := great_ok b (TFrame.mk (THeader.mk 0 0 false false false false false false false 0 (A6u8.mk 0 0 0 0 0 0) (A6u8.mk 0 0 0 0 0 0) (A6u8.mk 0 0 0 0 0 0) (A6u8.mk 0 0 0 0 0 0) 0 0 0 0 false false) [])
  rw [g1, Option.bind_some]
  cases g with
  | true => rfl
  | false =>
    obtain ⟨hg, hq, _⟩ := g2 rfl
    have hl := hg.1
    have hC : ∀ s ∈ b.List, C0 s.Held := fun s hs q hq => (h0 s hs q hq).1
    by_cases hx : 0 ≤ x ∧ x < b.List.length
    · obtain ⟨k, rfl⟩ := Int.eq_ofNat_of_zero_le hx.1
      have hk : k < b.List.length := by omega
      have c1 : (((false || bLt (k : Int) 0) || bLe (b.List.length : Nat) (k : Int)) || !true) = false := by
        simp only [bLt_eq, bLe_eq, Bool.not_true, Bool.or_false, Bool.false_or, Bool.or_eq_false_iff, decide_eq_false_iff_not]; omega
      rw [bif_f c1, need_true (mkb_iff.2 (by omega)), Option.bind_some, need_true (inb_nat (by simpa using hk)), Option.bind_some, Int.toNat_natCast, show (List.replicate b.List.length ((TTriggerPlan.mk 0 0 0) : TTriggerPlan)).set k p = Pls b p k from rfl]
      rcases check_ok b hg with ⟨hv, hc⟩ | ⟨hv, hc⟩
      · rw [map_ok b hg hv]
        rcases tmap_ok b p k hk hg hv hC with ⟨hp, hp2, e⟩ | ⟨hp, e⟩
        · rw [e, Option.bind_some, Option.bind_some, bif_f (by rfl)]
          simp only [bcheck_ok b _ _ hg hv, Option.isSome_some, gt_some, Bool.cond_self]
          rw [need_true rfl, bif_f (by rw [bB_eq]; simp [bEq_eq])]
          have C3 : ∀ i : Nat, i < b.List.length → ∀ q ∈ (gd b.List i).Held, 0 ≤ q.Cat ∧ q.Cat ≤ 3 := fun i hi q hq => by
            refine ⟨(h0 _ (gd_mem hi) q hq).1, ?_⟩
            obtain ⟨j, hj, rfl⟩ := mem_gd hq
            exact ((hv.1.2 i hi).2.2.1.2 j hj).1
          have l1 := run_gen (step := fun s => F9_L1 b (k : Int) (TTraffic.mk (bLt 0 (b.Group.length : Nat)) (Ws b (incB b p k) b.List.length), 0) (TTraffic.mk (bLt 0 (b.Group.length : Nat)) (Ws b (hasB b) b.List.length), 0) s) (R := Bool) b.List.length (fun i => (i : Int)) () (fun i hi => by
              show F9_L1 b (k : Int) _ _ i = _
              unfold F9_L1
              rw [bif_t (by simp [bLt_eq]; omega), need_true (inb_nat hi), Int.toNat_natCast, has_ok b _ _ i hi hg hv, Option.bind_some, has_ok b _ _ i hi hg hv, Option.bind_some, wr_add1 hi (by omega)]
              rw [bif_f]
              by_cases e : k = i
              · subst e
                have h1 : bEq (k : Int) (k : Int) = true := by simp [bEq_eq]
                rw [h1]
                cases hi2 : incB b p k k with
                | false => rfl
                | true =>
                  have : hasB b k = true := by
                    unfold incB at hi2
                    obtain ⟨q, hq, _⟩ := List.any_eq_true.1 hi2
                    unfold hasB
                    exact decide_eq_true (List.length_pos_of_mem hq)
                  rw [this]
                  rfl
              · have : incB b p k i = hasB b i := by
                  unfold incB hasB
                  rw [pls_ne hi e]
                  exact any0 _ (C3 i hi)
                rw [this, bB_eq]
                cases hasB b i <;> simp)
            (by show F9_L1 b (k : Int) _ _ _ = _; unfold F9_L1; rw [bif_f (by simp [bLt_eq])])
          replace l1 : loopD (fun s => F9_L1 b (k : Int) (TTraffic.mk (bLt 0 (b.Group.length : Nat)) (Ws b (incB b p k) b.List.length), 0) (TTraffic.mk (bLt 0 (b.Group.length : Nat)) (Ws b (hasB b) b.List.length), 0) s) (0 : Int) = some (.inl ()) := by simpa using l1
          have hh := hg.2.2 k hk
          obtain ⟨K, k1, k2⟩ := count_ok p.Deliver (gd b.List k).Held (by omega) (h0 _ (gd_mem hk))
          have eK := k2 ⟨hd, hp2⟩ fun i hi => (C3 k hk _ (gd_mem hi)).2
          have hcl := cnt_le p.Deliver (gd b.List k).Held
          rw [lp_inl l1, need_true (inb_nat hk), k1, Option.bind_some, has_ok b _ _ k hk hg hv]
          simp only [cond_true, inb_nat hk, Option.isSome_some, gt_some, need_true, Bool.true_and]
          rw [wr_in (by omega), eK]
          have : incB b p k k = (bLt 0 (((gd b.List k).Held.length : Int) - (cnt p.Deliver (gd b.List k).Held : Int)) || (bEq p.Deliver 15 && bLt 0 ((gd b.List k).Held.length : Nat))) := by
            unfold incB
            rw [pls_at hk]
            exact anyD _ _ ⟨hd, hp2⟩ (C3 k hk)
          rw [this, bB_eq]
          simp
        · rw [e, Option.bind_some, Option.bind_some, bif_t (by rfl), hp]
          rfl
      · have e1 : F25 b (Pls b p k) = some (TTraffic.mk false [], 8) := by unfold F25; rw [hc]; rfl
        have e2 : F37 b = some (TTraffic.mk false [], 8) := by unfold F37; rw [hc]; rfl
        rw [e1, Option.bind_some, e2, Option.bind_some, bif_t (by rfl)]
        rfl
    · have c1 : (((false || bLt x 0) || bLe (b.List.length : Nat) x) || !true) = true := by
        simp only [bLt_eq, bLe_eq, Bool.not_true, Bool.or_false, Bool.false_or, Bool.or_eq_true, decide_eq_true_eq]; omega
      rw [bif_t c1]
end Go.Proofs.Ytnclkplbeenmdaa
