/-
  ForwardFloods: the law over values.
-/
import Derived.Test.YtbahnppiobafoaaFU
namespace Go.Proofs.Ytbahnppiobafoaa
open Go.Am
set_option linter.unusedVariables false
set_option linter.unusedSimpArgs false
/-! ### Links -/
def off (i : Nat) : Nat := i * (15 - i) / 2
theorem off_s : ∀ i, i < 8 -> off i + (7 - i) = off (i + 1) /\ off (i + 1) <= 28 := by decide
theorem row_ok (p : List Bool) (hp : p.length = 28) (i : Nat) (hi : i < 8) (v : List Bool) (hv : v.length = 64) : ∃ v', loopD (fun s => F7_L2 p i s.1 s.2.1 s.2.2) (v, (off i : Int), ((i + 1 : Nat) : Int)) = some (.inl (v', ((off (i + 1) : Nat) : Int))) /\ v'.length = 64 := by
  obtain ⟨o1, o2⟩ := off_s i hi
  obtain ⟨q, q1, q2⟩ := loop_inv (step := fun s : List Bool × Int × Int => F7_L2 p i s.1 s.2.1 s.2.2)
    (fun s => ∃ (v : List Bool) (k : Nat), s = (v, ((off i + (k - (i + 1)) : Nat) : Int), (k : Int)) /\ v.length = 64 /\ i + 1 <= k /\ k <= 8)
    (fun q => ∃ v', q = .inl (v', ((off (i + 1) : Nat) : Int)) /\ v'.length = 64)
    (fun s => (8 - s.2.2).toNat)
    (fun s hI => by
      obtain ⟨v, k, rfl, hv, h1, h2⟩ := hI
      simp only
      unfold F7_L2
      by_cases hk : k < 8
      · have b1 : inb ((off i + (k - (i + 1)) : Nat) : Int) p.length = true := inb_nat (by omega)
        have b2 : inb (i : Int) 8 = true := inb_nat hi
        have b3 : inb (k : Int) 8 = true := inb_nat hk
        have b4 : decide (i * 8 + k < v.length) = true := by rw [decide_eq_true_eq]; omega
        have b5 : decide (k * 8 + i < v.length) = true := by rw [decide_eq_true_eq]; omega
        rw [bif_t (by simp only [bLt_eq, decide_eq_true_eq]; omega)]
        simp only [Int.toNat_natCast, b1, b2, b3, b4, b5, need_true, wr_add1 hk (by omega), wr_add1 (show off i + (k - (i + 1)) < 100 by omega) (by omega)]
        refine .inr ⟨_, rfl, ⟨_, k + 1, by rw [show off i + (k + 1 - (i + 1)) = off i + (k - (i + 1)) + 1 by omega], ?_, by omega, by omega⟩, by simp only; omega⟩
        simp [hv]
      · obtain rfl : k = 8 := by omega
        rw [bif_f (by rfl)]
        refine .inl ⟨_, rfl, v, ?_, hv⟩
        rw [show off i + (8 - (i + 1)) = off (i + 1) by omega])
    (v, (off i : Int), ((i + 1 : Nat) : Int)) ⟨v, i + 1, by rw [Nat.sub_self]; rfl, hv, by omega, by omega⟩
  obtain ⟨v', rfl, h⟩ := q2
  exact ⟨v', q1, h⟩
theorem links_ok (p : List Bool) (hp : p.length = 28) : ∃ w, loopD (fun s => F7_L1 p s.1 s.2.1 s.2.2) ((List.replicate 64 false : List Bool), (0 : Int), (0 : Int)) = some (.inl w) /\ w.length = 64 := by
  obtain ⟨q, q1, q2⟩ := loop_inv (step := fun s : List Bool × Int × Int => F7_L1 p s.1 s.2.1 s.2.2)
    (fun s => ∃ (v : List Bool) (i : Nat), s = (v, ((off i : Nat) : Int), (i : Int)) /\ v.length = 64 /\ i <= 8)
    (fun q => ∃ w, q = .inl w /\ w.length = 64)
    (fun s => (8 - s.2.2).toNat)
    (fun s hI => by
      obtain ⟨v, i, rfl, hv, hi⟩ := hI
      simp only
      unfold F7_L1
      by_cases h : i < 8
      · obtain ⟨v', e, hv'⟩ := row_ok p hp i h v hv
        rw [bif_t (by simp only [bLt_eq, decide_eq_true_eq]; omega), wr_add1 h (by omega), lp_inl e]
        exact .inr ⟨_, rfl, ⟨v', i + 1, rfl, hv', by omega⟩, by simp only; omega⟩
      · obtain rfl : i = 8 := by omega
        rw [bif_f (by rfl)]
        exact .inl ⟨_, rfl, v, rfl, hv⟩)
    ((List.replicate 64 false : List Bool), (0 : Int), (0 : Int)) ⟨_, 0, rfl, by rw [List.length_replicate], by omega⟩
  obtain ⟨w, rfl, h⟩ := q2
  exact ⟨w, q1, h⟩
/-! ### What links lead to -/
def Sd (w : List Bool) (A : Nat) (V : List Nat) (s0 s : List Bool) (i k : Nat) : Prop :=
  s.length = 8 /\ (∀ j, j < 8 -> gd s0 j = true -> gd s j = true) /\ (∀ j, j < 8 -> gd s j = true -> j = A ∨ j ∈ V) /\
  ∀ i' k', i' < 8 -> k' < 8 -> (i' < i ∨ (i' = i /\ k' < k)) -> gd s0 i' = true -> lk w i' k' = true -> gd s k' = true
def Clo (w : List Bool) (A : Nat) (V : List Nat) : Prop := ∀ p, p < 8 -> (p = A ∨ p ∈ V) -> ∀ k : Nat, k < 8 -> lk w p k = true -> k = A ∨ k ∈ V
theorem seen_row {w : List Bool} {A : Nat} {V : List Nat} {s0 s : List Bool} {i : Nat} (hw : w.length = 64) (hc : Clo w A V) (hi : i < 8) (h : Sd w A V s0 s i 0) : ∃ s', loopD (fun q => F7_L10 w i q.1 q.2) (s, (0 : Int)) = some (.inl s') /\ Sd w A V s0 s' (i + 1) 0 := by
  obtain ⟨q, q1, q2⟩ := loop_inv (step := fun q : List Bool × Int => F7_L10 w i q.1 q.2)
    (fun q => ∃ (s : List Bool) (k : Nat), q = (s, (k : Int)) /\ k <= 8 /\ Sd w A V s0 s i k)
    (fun q => ∃ s', q = .inl s' /\ Sd w A V s0 s' (i + 1) 0)
    (fun q => (8 - q.2).toNat)
    (fun q hI => by
      obtain ⟨s, k, rfl, hk, h1, h2, h3, h4⟩ := hI
      simp only
      unfold F7_L10
      by_cases hk8 : k < 8
      · have b1 : inb (i : Int) 8 = true := inb_nat hi
        have b2 : inb (k : Int) 8 = true := inb_nat hk8
        have b3 : decide (i * 8 + k < w.length) = true := by rw [decide_eq_true_eq]; omega
        rw [bif_t (by simp only [bLt_eq, decide_eq_true_eq]; omega)]
        simp only [Int.toNat_natCast, b1, b2, b3, h1, Bool.cond_self, need_true, wr_add1 hk8 (by omega), show gd w (i * 8 + k) = lk w i k from rfl]
        cases hg : (gd s i && lk w i k)
        · rw [cond_false]
          refine .inr ⟨_, rfl, ⟨s, k + 1, rfl, by omega, h1, h2, h3, fun i' k' hi' hk' ho hs hl => ?_⟩, by simp only; omega⟩
          rcases ho with ho | ⟨rfl, ho⟩
          · exact h4 i' k' hi' hk' (.inl ho) hs hl
          · by_cases e : k' = k
            · subst e
              rw [h2 i' hi' hs, hl] at hg
              cases hg
            · exact h4 i' k' hi' hk' (.inr ⟨rfl, by omega⟩) hs hl
        · rw [cond_true]
          rw [Bool.and_eq_true] at hg
          have hset : ∀ j, j < 8 -> gd s j = true -> gd (s.set k true) j = true := fun j hj hs => by
            by_cases e : k = j
            · subst e; exact gd_set_eq (by omega)
            · rw [gd_set_ne e]; exact hs
          refine .inr ⟨_, rfl, ⟨s.set k true, k + 1, rfl, by omega, by simp [h1], fun j hj hs => hset j hj (h2 j hj hs), fun j hj hs => ?_, fun i' k' hi' hk' ho hs hl => ?_⟩, by simp only; omega⟩
          · by_cases e : k = j
            · subst e
              exact hc i hi (h3 i hi hg.1) k hj hg.2
            · rw [gd_set_ne e] at hs
              exact h3 j hj hs
          · rcases ho with ho | ⟨rfl, ho⟩
            · exact hset _ hk' (h4 i' k' hi' hk' (.inl ho) hs hl)
            · by_cases e : k' = k
              · subst e; exact gd_set_eq (by omega)
              · exact hset _ hk' (h4 i' k' hi' hk' (.inr ⟨rfl, by omega⟩) hs hl)
      · obtain rfl : k = 8 := by omega
        rw [bif_f (by rfl)]
        exact .inl ⟨_, rfl, s, rfl, h1, h2, h3, fun i' k' hi' hk' ho hs hl => h4 i' k' hi' hk' (by omega) hs hl⟩)
    (s, (0 : Int)) ⟨s, 0, rfl, by omega, h⟩
  obtain ⟨s', rfl, h'⟩ := q2
  exact ⟨s', q1, h'⟩
theorem seen_round {w : List Bool} {A : Nat} {V : List Nat} {s0 : List Bool} (hw : w.length = 64) (hc : Clo w A V) (h : Sd w A V s0 s0 0 0) : ∃ s', loopD (fun q => F7_L9 w q.1 q.2) (s0, (0 : Int)) = some (.inl s') /\ Sd w A V s0 s' 8 0 := by
  obtain ⟨q, q1, q2⟩ := loop_inv (step := fun q : List Bool × Int => F7_L9 w q.1 q.2)
    (fun q => ∃ (s : List Bool) (i : Nat), q = (s, (i : Int)) /\ i <= 8 /\ Sd w A V s0 s i 0)
    (fun q => ∃ s', q = .inl s' /\ Sd w A V s0 s' 8 0)
    (fun q => (8 - q.2).toNat)
    (fun q hI => by
      obtain ⟨s, i, rfl, hi, hS⟩ := hI
      simp only
      unfold F7_L9
      by_cases hi8 : i < 8
      · obtain ⟨s', e, hS'⟩ := seen_row hw hc hi8 hS
        rw [bif_t (by simp only [bLt_eq, decide_eq_true_eq]; omega), lp_inl e, wr_add1 hi8 (by omega)]
        exact .inr ⟨_, rfl, ⟨s', i + 1, rfl, by omega, hS'⟩, by simp only; omega⟩
      · obtain rfl : i = 8 := by omega
        rw [bif_f (by rfl)]
        exact .inl ⟨_, rfl, s, rfl, hS⟩)
    (s0, (0 : Int)) ⟨s0, 0, rfl, by omega, h⟩
  obtain ⟨s', rfl, h'⟩ := q2
  exact ⟨s', q1, h'⟩
theorem seen_all {w : List Bool} {A : Nat} {V : List Nat} (hw : w.length = 64) (hA : A < 8) (hV : V.Nodup /\ ∀ v ∈ V, v < 8 /\ v ≠ A) (hc : Clo w A V) (hch : ∀ j, j < V.length -> ∃ p, p < 8 /\ (p = A ∨ p ∈ V.take j) /\ lk w p (gd V j) = true) :
    ∃ s', loopD (fun q => F7_L8 w q.1 q.2) (tab (fun j => decide (j = A)), (0 : Int)) = some (.inl s') /\ s'.length = 8 /\ ∀ j, j < 8 -> (gd s' j = true ↔ j = A ∨ j ∈ V) := by
  have hl := V_len hA hV
  obtain ⟨q, q1, q2⟩ := loop_inv (step := fun q : List Bool × Int => F7_L8 w q.1 q.2)
    (fun q => ∃ (s : List Bool) (r : Nat), q = (s, (r : Int)) /\ r <= 8 /\ s.length = 8 /\ (∀ j, j < 8 -> gd s j = true -> j = A ∨ j ∈ V) /\ gd s A = true /\ ∀ t, t < r -> t < V.length -> gd s (gd V t) = true)
    (fun q => ∃ s', q = .inl s' /\ s'.length = 8 /\ ∀ j, j < 8 -> (gd s' j = true ↔ j = A ∨ j ∈ V))
    (fun q => (8 - q.2).toNat)
    (fun q hI => by
      obtain ⟨s, r, rfl, hr, h1, h2, h3, h4⟩ := hI
      simp only
      unfold F7_L8
      by_cases hr8 : r < 8
      · obtain ⟨s', e, g1, g2, g3, g4⟩ := seen_round (s0 := s) hw hc ⟨h1, fun j _ h => h, h2, fun i' k' _ _ ho => by omega⟩
        rw [bif_t (by simp only [bLt_eq, decide_eq_true_eq]; omega), lp_inl e, wr_add1 hr8 (by omega)]
        refine .inr ⟨_, rfl, ⟨s', r + 1, rfl, by omega, g1, g3, g2 A hA h3, fun t ht htV => ?_⟩, by simp only; omega⟩
        have hv8 := (hV.2 _ (gd_mem htV)).1
        by_cases e : t < r
        · exact g2 _ hv8 (h4 t e htV)
        · obtain rfl : t = r := by omega
          obtain ⟨p, p1, p2, p3⟩ := hch t htV
          refine g4 p _ p1 hv8 (.inl p1) ?_ p3
          rcases p2 with rfl | p2
          · exact h3
          · obtain ⟨j, hj, rfl⟩ := mem_gd p2
            rw [List.length_take] at hj
            rw [gd_take (by omega)]
            exact h4 j (by omega) (by omega)
      · obtain rfl : r = 8 := by omega
        rw [bif_f (by rfl)]
        refine .inl ⟨_, rfl, s, rfl, h1, fun j hj => ⟨h2 j hj, fun ho => ?_⟩⟩
        rcases ho with rfl | ho
        · exact h3
        · obtain ⟨t, ht, rfl⟩ := mem_gd ho
          exact h4 t (by omega) ht)
    (tab (fun j => decide (j = A)), (0 : Int)) ⟨_, 0, rfl, by omega, tab_len _, fun j hj hs => by rw [gd_tab hj, decide_eq_true_eq] at hs; exact .inl hs, by rw [gd_tab hA, decide_eq_true_eq], fun t ht => by omega⟩
  obtain ⟨s', rfl, h'⟩ := q2
  exact ⟨s', q1, h'⟩
/-! ### The end -/
theorem got_ok {A : Nat} {V : List Nat} {s : List Bool} {p1 : Int} (h1 : wr .i64 (p1.tmod 8) = (A : Int)) (hV : V.Nodup /\ ∀ v ∈ V, v < 8 /\ v ≠ A) (hs : s.length = 8) (h : ∀ j, j < 8 -> (gd s j = true ↔ j = A ∨ j ∈ V)) :
    loopD (fun q => F7_L11 p1 (tab (gt1 V)) s q) (0 : Int) = some (.inl ()) := by
  have := run_gen (step := fun q => F7_L11 p1 (tab (gt1 V)) s q) (R := Bool) 8 (fun j => (j : Int)) () (fun j hj => by
    show F7_L11 p1 (tab (gt1 V)) s j = _
    unfold F7_L11
    have b1 : inb (j : Int) 8 = true := inb_nat hj
    rw [bif_t (by simp only [bLt_eq, decide_eq_true_eq]; omega)]
    simp only [h1, Int.toNat_natCast, b1, hs, tab_len, need_true, gd_tab hj, wr_add1 hj (by omega)]
    by_cases hv : j ∈ V
    · rw [bif_t (by rw [(h j hj).2 (.inr hv), Bool.true_and, bEq_eq, decide_eq_false (by have := (hV.2 j hv).2; omega)]; rfl), show gt1 V j = 1 from if_pos hv]
      rfl
    · rw [bif_f (by
        rw [Bool.and_eq_false_iff]
        by_cases e : j = A
        · exact .inr (by rw [bEq_eq, decide_eq_true (by omega)]; rfl)
        · exact .inl (Bool.eq_false_iff.2 fun q => ((h j hj).1 q).elim e hv)), show gt1 V j = 0 from if_neg hv]
      rfl)
    (by
      show F7_L11 p1 (tab (gt1 V)) s ((8 : Nat) : Int) = _
      unfold F7_L11
      rw [show bLt ((8 : Nat) : Int) 8 = false from rfl, cond_false])
  exact this
theorem flood_ok {w : List Bool} {A : Nat} (p2 : List Int) (hw : w.length = 64) (hA : A < 8) : ∃ V, loopD (fun s => F7_L4 p2 w s.1 s.2.1 s.2.2.1 s.2.2.2) (tab (sf A []), sp w A (fg A 0 A) 8, tab (gt1 []), (0 : Int)) = some (.inl (tab (gt1 V))) /\ (V.Nodup /\ ∀ v ∈ V, v < 8 /\ v ≠ A) /\ Clo w A V /\ ∀ j, j < V.length -> ∃ p, p < 8 /\ (p = A ∨ p ∈ V.take j) /\ lk w p (gd V j) = true := by
  have hsl := sp_len w A (fg A 0 A) 8
  obtain ⟨q, q1, q2⟩ := loop_inv (step := fun s : List TForward × List Ttravel × List Int × Int => F7_L4 p2 w s.1 s.2.1 s.2.2.1 s.2.2.2)
    (fun s => ∃ (V : List Nat) (t : Nat), s.2.2.2 = (t : Int) /\ Iv7 w A V s.1 s.2.1 s.2.2.1 t)
    (fun q => ∃ V, q = .inl (tab (gt1 V)) /\ (V.Nodup /\ ∀ v ∈ V, v < 8 /\ v ≠ A) /\ Clo w A V /\ ∀ j, j < V.length -> ∃ p, p < 8 /\ (p = A ∨ p ∈ V.take j) /\ lk w p (gd V j) = true)
    (fun s => (100 - s.2.2.2).toNat)
    (fun s hI => by
      obtain ⟨N, a, g, z⟩ := s
      obtain ⟨V, t, rfl, hI⟩ := hI
      simp only at hI ⊢
      by_cases ha : 0 < a.length
      · obtain ⟨V', N', a', g', e, hI'⟩ := step7 p2 hw hA ha hI
        have hpot := hI.2.2.2.2.2.2
        exact .inr ⟨_, e, ⟨V', t + 1, rfl, hI'⟩, by simp only; omega⟩
      · obtain rfl : a = [] := List.length_eq_zero_iff.1 (by omega)
        obtain ⟨_, rfl, hV, _, hcov, hch, _⟩ := hI
        unfold F7_L4
        rw [bif_f (by rfl)]
        refine .inl ⟨_, rfl, V, rfl, hV, fun p hp hpv k hk hlk => ?_, hch⟩
        rcases hcov p hp hpv k hk hlk with q | q | ⟨x, hx, _⟩
        · exact .inl q
        · exact .inr q
        · cases hx)
    (tab (sf A []), sp w A (fg A 0 A) 8, tab (gt1 []), (0 : Int)) ⟨[], 0, rfl, rfl, rfl, ⟨by simp, fun v hv => by cases hv⟩, fun x hx => by
      obtain ⟨k, hk, hlk, rfl⟩ := sp_mem hx
      exact ⟨k, 0, A, rfl, hk, by simp, hA, .inl rfl, hlk⟩, fun p hp hpv k hk hlk => (by
      rcases hpv with rfl | hpv
      · exact .inr (.inr ⟨_, sp_in hk hlk, rfl⟩)
      · cases hpv), fun j hj => by simp at hj, by simp only [List.length_nil]; omega⟩
  obtain ⟨V, rfl, h⟩ := q2
  exact ⟨V, q1, h⟩
theorem law7 (l : List Bool) (f : Int) (o : List Int) (hf : 0 <= f /\ f <= 255) : F7 l f o = some true := by
  obtain ⟨A, hA, eA⟩ := tm8 hf
  unfold F7
  rw [alive_okN, Option.bind_some]
  simp only [eA, eta_A6u8, eta_TForward, eta_TMeshFrame, eta_TForwardMark]
  by_cases h0 : l.length ≠ 28 ∨ 200 < o.length
  · rw [bif_t (by simp only [bEq_eq, bLt_eq, Bool.not_true, Bool.or_false, Bool.or_eq_true, Bool.not_eq_true', decide_eq_false_iff_not, decide_eq_true_eq]; omega)]
  rw [bif_f (by simp only [bEq_eq, bLt_eq, Bool.not_true, Bool.or_false, Bool.or_eq_false_iff, Bool.not_eq_false', decide_eq_false_iff_not, decide_eq_true_eq]; omega), Option.bind_some]
  obtain ⟨w, w1, w2⟩ := links_ok l (by omega)
  rw [lp_inl w1, mesh_ok, Option.bind_some]
  simp only [Option.bind_some]
  have i8 : inb (A : Int) 8 = true := inb_nat hA
  have ha : Ab al := by refine ⟨?_, ?_, ?_, ?_, ?_, ?_⟩ <;> simp [al]
  have hv := nd_ok (S := []) (X := []) (A := A) (q := 0) (b := 0) (h := 0) hA hA (.inl rfl) (.inl rfl) (.inl rfl)
  have hsnd : F32 (nd A) al (mA A) al [1, 2] = some (sf A [] A, fg A 0 A, 0) := by
    rw [send_to (nd A) al (mA A) al [1, 2] ⟨hv.1, hv.2.1⟩ rfl rfl (F43_nil _ _ rfl) ha (fun e => by have := congrArg A6u8.x0 e; cases this) (by simp)]
    rw [show grp al = true from rfl, cond_true]
    unfold sf st fg nx
    simp [nd]
  rw [mesh_tab, need_true i8, need_true (by rw [tab_len]; exact i8), F34_ok, Option.bind_some, F31_ok (by omega), Option.bind_some, Int.toNat_natCast, gd_tab hA, hsnd, Option.bind_some, need_true i8, need_true (by rw [tab_len]; exact i8), bif_f (by rfl)]
  have e1 := first_ok (w := w) (p1 := f) (r := (sf A [] A, fg A 0 A, 0)) w2 hA eA
  rw [lp_inl e1]
  have es : (tab nd).set A (sf A [] A) = tab (sf A []) := by
    rw [tab_set]
    refine tab_congr fun j _ => ?_
    by_cases e : j = A
    · subst e; rw [if_pos rfl]
    · rw [if_neg e]; unfold sf st nd nx; simp [e]
  obtain ⟨V, v1, v2, v3, v4⟩ := flood_ok (w := w) o w2 hA
  rw [es, show (List.replicate 8 0 : List Int) = tab (gt1 []) from rfl, lp_inl v1]
  have el : (List.replicate 8 false : List Bool).set A true = tab (fun j => decide (j = A)) := by
    rw [show (List.replicate 8 false : List Bool) = tab (fun _ => false) from rfl, tab_set]
    refine tab_congr fun j _ => ?_
    by_cases e : j = A
    · rw [if_pos e]; simp [e]
    · rw [if_neg e]; simp [e]
  obtain ⟨s, s1, s2, s3⟩ := seen_all w2 hA v2 v3 v4
  rw [need_true i8, need_true (show inb (A : Int) (List.replicate 8 false : List Bool).length = true from i8), el, lp_inl s1, lp_inl (got_ok eA v2 s2 s3)]
end Go.Proofs.Ytbahnppiobafoaa
