/-
  Forward: nodes: which are valid.
-/
import Derived.Test.YtbahnppiobafoaaFR
import Derived.Test.YtbahnppiobafoaaLS
namespace Go.Proofs.Ytbahnppiobafoaa
open Go.Am
set_option linter.unusedVariables false
set_option linter.unusedSimpArgs false
def nA (a : A6u8) : Int := ((((a.x0 * 256 + a.x1) * 256 + a.x2) * 256 + a.x3) * 256 + a.x4) * 256 + a.x5
theorem Ab_u8 {a : A6u8} (h : Ab a) : u8A [a.x0, a.x1, a.x2, a.x3, a.x4, a.x5] = true := by
  unfold Ab at h
  refine u8A_iff.2 fun q hq => ?_
  simp only [List.mem_cons, List.not_mem_nil, or_false] at hq
  rcases hq with rfl | rfl | rfl | rfl | rfl | rfl <;> omega
theorem cmp_eq {x y : Int} (l m : List Int) (h : x = y) : cmpL (x :: l) (y :: m) = cmpL l m := by
  subst h; simp only [cmpL, Int.lt_irrefl, if_false]
theorem cmp_lt {x y : Int} (l m : List Int) (h : x < y) : cmpL (x :: l) (y :: m) = -1 := by simp only [cmpL, if_pos h]
theorem cmp_gt {x y : Int} (l m : List Int) (h : y < x) : cmpL (x :: l) (y :: m) = 1 := by
  have h2 : ¬ x < y := by omega
  simp only [cmpL, if_neg h2, if_pos h]
theorem F51_ok (a b : A6u8) (ha : Ab a) (hb : Ab b) : F51 a b = some (cmpI (nA a) (nA b)) := by
  have hu := Ab_u8 ha
  have hv := Ab_u8 hb
  unfold F51 F64
  rw [need_true hu, need_true hv, Option.bind_some]
  congr 1
  unfold Ab at ha hb
  rcases Int.lt_trichotomy a.x0 b.x0 with h0 | h0 | h0
  · rw [cmp_lt _ _ h0, cmpI_lt (by unfold nA; omega)]
  · rw [cmp_eq _ _ h0]
    rcases Int.lt_trichotomy a.x1 b.x1 with h1 | h1 | h1
    · rw [cmp_lt _ _ h1, cmpI_lt (by unfold nA; omega)]
    · rw [cmp_eq _ _ h1]
      rcases Int.lt_trichotomy a.x2 b.x2 with h2 | h2 | h2
      · rw [cmp_lt _ _ h2, cmpI_lt (by unfold nA; omega)]
      · rw [cmp_eq _ _ h2]
        rcases Int.lt_trichotomy a.x3 b.x3 with h3 | h3 | h3
        · rw [cmp_lt _ _ h3, cmpI_lt (by unfold nA; omega)]
        · rw [cmp_eq _ _ h3]
          rcases Int.lt_trichotomy a.x4 b.x4 with h4 | h4 | h4
          · rw [cmp_lt _ _ h4, cmpI_lt (by unfold nA; omega)]
          · rw [cmp_eq _ _ h4]
            rcases Int.lt_trichotomy a.x5 b.x5 with h5 | h5 | h5
            · rw [cmp_lt _ _ h5, cmpI_lt (by unfold nA; omega)]
            · rw [cmp_eq _ _ h5, cmpI_eq (by unfold nA; omega)]; simp [cmpL]
            · rw [cmp_gt _ _ h5, cmpI_gt (by unfold nA; omega)]
          · rw [cmp_gt _ _ h4, cmpI_gt (by unfold nA; omega)]
        · rw [cmp_gt _ _ h3, cmpI_gt (by unfold nA; omega)]
      · rw [cmp_gt _ _ h2, cmpI_gt (by unfold nA; omega)]
    · rw [cmp_gt _ _ h1, cmpI_gt (by unfold nA; omega)]
  · rw [cmp_gt _ _ h0, cmpI_gt (by unfold nA; omega)]
theorem ne_b {x y : Int} (h : x = y) : (!bEq x y) = false := by simp [bEq_eq, h]
theorem ne_t {x y : Int} (h : x ≠ y) : (!bEq x y) = true := by simp [bEq_eq, h]
def me (x y : TForwardMark) : Bool := (bEq x.Enter.x0 y.Enter.x0 && (bEq x.Enter.x1 y.Enter.x1 && (bEq x.Enter.x2 y.Enter.x2 && (bEq x.Enter.x3 y.Enter.x3 && (bEq x.Enter.x4 y.Enter.x4 && (bEq x.Enter.x5 y.Enter.x5 && (bEq x.Seq y.Seq)))))))
theorem me_def (x y : TForwardMark) : (bEq x.Enter.x0 y.Enter.x0 && (bEq x.Enter.x1 y.Enter.x1 && (bEq x.Enter.x2 y.Enter.x2 && (bEq x.Enter.x3 y.Enter.x3 && (bEq x.Enter.x4 y.Enter.x4 && (bEq x.Enter.x5 y.Enter.x5 && (bEq x.Seq y.Seq))))))) = me x y := rfl
theorem me_iff {x y : TForwardMark} : me x y = true ↔ x = y := by
  obtain ⟨⟨x0, x1, x2, x3, x4, x5⟩, x6⟩ := x
  obtain ⟨⟨y0, y1, y2, y3, y4, y5⟩, y6⟩ := y
  simp [me, bEq_eq, and_assoc]
theorem me_no {x y : TForwardMark} (h : x ≠ y) : me x y = false := Bool.eq_false_iff.2 fun q => h (me_iff.1 q)
theorem ae_no {x y : A6u8} (h : x ≠ y) : ae x y = false := Bool.eq_false_iff.2 fun q => h (ae_iff.1 q)
def inM (l : List TForwardMark) (a : TForwardMark) : Bool := l.any fun q => me q a
theorem inM_iff (l : List TForwardMark) (a : TForwardMark) : inM l a = true ↔ a ∈ l := by
  unfold inM
  rw [List.any_eq_true]
  exact ⟨fun ⟨q, h, e⟩ => by rw [← me_iff.1 e]; exact h, fun h => ⟨a, h, me_iff.2 rfl⟩⟩
theorem F40_ok (l : List TForwardMark) (a : TForwardMark) (hl : l.length <= 1000) : F40 l a = some (inM l a) := by
  unfold F40 F58
  rcases first_gen (step := fun s => F58_L1 l a s) (R := Int) l.length (fun i => gd l i = a) (fun i => (i : Int)) () (fun i hi _ => by
      show (_ /\ F58_L1 l a i = _) ∨ (_ /\ F58_L1 l a i = _)
      unfold F58_L1
      rw [bif_t (by simp [bLt_eq]; omega), need_true (inb_nat hi), Int.toNat_natCast, wr_add1 hi (by omega), me_def]
      by_cases h : gd l i = a
      · exact .inr ⟨h, by rw [bif_t (me_iff.2 h.symm)]⟩
      · exact .inl ⟨h, by rw [bif_f (me_no fun q => h q.symm)]⟩)
    (by show F58_L1 l a _ = _; unfold F58_L1; rw [bif_f (by simp [bLt_eq])]) with ⟨h1, h2⟩ | ⟨i, h1, h2, _, h3⟩
  · have hn : inM l a = false := Bool.eq_false_iff.2 fun q => by
      obtain ⟨i, hi, e⟩ := mem_gd ((inM_iff l a).1 q)
      exact h1 i hi e
    rw [lp_inl h2, Option.bind_some, hn]
    rfl
  · rw [lp_inr h3, Option.bind_some, (inM_iff l a).2 (by rw [← h2]; exact gd_mem h1)]
    simp [bLe_eq]
theorem de_take (L : List TForwardMark) {n : Nat} (h : n <= L.length) : deR g_TForwardMark n (enR c_TForwardMark L) = L.take n := by
  apply List.ext_getElem
  · simp [deR]; omega
  · intro i h1 h2
    have hi : i < n := by simpa [deR] using h1
    simp only [deR, List.getElem_map, List.getElem_range, List.getElem_take]
    rw [gd_at (l := L) (by omega)]
    exact gc_TForwardMark (gd L i)
def Fw (s : TForward) : Prop := Ab s.Own /\ (∀ q ∈ s.Seen, Ab q.Enter) /\ ∀ q ∈ s.Nexts, Ab q.Dest /\ Ab q.Next
def Vs1 (s : TForward) (i : Nat) : Prop := (0 <= (gd s.Seen i).Seq /\ (gd s.Seen i).Seq < 65536) /\ gd s.Seen i ∉ s.Seen.take i
def Vn1 (s : TForward) (i : Nat) : Prop := (gd s.Nexts i).Dest ≠ s.Own /\ (gd s.Nexts i).Next ≠ s.Own /\ grp (gd s.Nexts i).Dest = false /\ grp (gd s.Nexts i).Next = false /\ (0 < i -> nA (gd s.Nexts (i - 1)).Dest < nA (gd s.Nexts i).Dest)
def Vf (s : TForward) : Prop := grp s.Own = false /\ (0 <= s.Seq /\ s.Seq < 65536) /\ s.Seen.length <= 128 /\ s.Nexts.length <= 64 /\ (∀ i, i < s.Seen.length -> Vs1 s i) /\ ∀ i, i < s.Nexts.length -> Vn1 s i
theorem by_bool {P : Prop} {α : Type} {c : Bool} {a b : α} (h1 : c = false -> P) (h2 : c = true -> ¬ P) : (P /\ (bif c then a else b) = b) ∨ (¬ P /\ (bif c then a else b) = a) := by
  cases c
  · exact .inl ⟨h1 rfl, rfl⟩
  · exact .inr ⟨h2 rfl, rfl⟩
theorem F27_s (s : TForward) (hl : s.Seen.length <= 1000) : ((∀ i, i < s.Seen.length -> Vs1 s i) /\ loopD (fun v => F27_L1 s v) 0 = some (.inl ())) ∨ (¬ (∀ i, i < s.Seen.length -> Vs1 s i) /\ loopD (fun v => F27_L1 s v) 0 = some (.inr 8)) :=
  chk_gen (step := fun v => F27_L1 s v) s.Seen.length (Vs1 s) 8 () (fun i hi => by
    show (_ /\ F27_L1 s i = _) ∨ (_ /\ F27_L1 s i = _)
    unfold F27_L1 F48
    simp only [Int.toNat_natCast, eta_A6u8, eta_TForwardMark]
    rw [bif_t (c := bLt _ _) (by simp [bLt_eq]; omega), need_true (inb_nat hi), de_take s.Seen (by omega), F40_ok _ _ (by rw [List.length_take]; omega), Option.bind_some, wr_add1 hi (by omega), need_true (by rw [show slb 0 (i : Int) s.Seen.length = true from slb_iff.2 (by omega)]; simp), need_true (by simp), gt_some]
    refine by_bool (fun h => ?_) (fun h => ?_)
    · simp only [bLe_eq, bLt_eq, Bool.or_eq_false_iff, Bool.not_eq_false', Bool.and_eq_true, decide_eq_true_eq] at h
      exact ⟨h.1, fun q => by rw [(inM_iff _ _).2 q] at h; exact absurd h.2 (by decide)⟩
    · simp only [bLe_eq, bLt_eq, Bool.or_eq_true, Bool.not_eq_true', Bool.and_eq_false_iff, decide_eq_false_iff_not] at h
      rintro ⟨h1, h2⟩
      rcases h with h | h
      · omega
      · exact h2 ((inM_iff _ _).1 h))
    (by show F27_L1 s _ = _; unfold F27_L1; rw [bif_f (by simp [bLt_eq])])
theorem F50_ok (s : TForward) (a : A6u8) (h : Ab a) : F50 s a = some (ae a s.Own || grp a) := by
  unfold F50
  rw [F39_ok h, need_true (by simp), gt_some, ae_def]
theorem sub1 (k : Nat) (h : k <= 1000) : wr .i64 (((k + 1 : Nat) : Int) - 1) = (k : Int) := by rw [wr_in (by omega)]; omega
theorem F27_n (s : TForward) (hs : Fw s) (hl : s.Nexts.length <= 1000) : ((∀ i, i < s.Nexts.length -> Vn1 s i) /\ loopD (fun v => F27_L2 s v) 0 = some (.inl ())) ∨ (¬ (∀ i, i < s.Nexts.length -> Vn1 s i) /\ loopD (fun v => F27_L2 s v) 0 = some (.inr 8)) :=
  chk_gen (step := fun v => F27_L2 s v) s.Nexts.length (Vn1 s) 8 () (fun i hi => by
    have hq := hs.2.2 _ (gd_mem hi)
    show (_ /\ F27_L2 s i = _) ∨ (_ /\ F27_L2 s i = _)
    unfold F27_L2
    simp only [Int.toNat_natCast, eta_A6u8, eta_TForwardHop]
    rw [bif_t (c := bLt _ _) (by simp [bLt_eq]; omega), need_true (inb_nat hi), F50_ok _ _ hq.1, F50_ok _ _ hq.2, Option.bind_some, wr_add1 hi (by omega), need_true (by simp), gt_some]
    unfold Vn1
    rcases i with _ | k
    · rw [show bLt 0 ((0 : Nat) : Int) = false from rfl]
      simp only [Bool.and_false, Bool.false_and, cond_false, need_true, Bool.or_false]
      refine by_bool (fun h => ?_) (fun h => ?_)
      · simp only [Bool.or_eq_false_iff] at h
        exact ⟨fun q => by rw [ae_iff.2 q] at h; exact absurd h.1.1 (by decide), fun q => by rw [ae_iff.2 q] at h; exact absurd h.2.1 (by decide), h.1.2, h.2.2, fun q => absurd q (by omega)⟩
      · simp only [Bool.or_eq_true] at h
        rintro ⟨h1, h2, h3, h4, _⟩
        rw [ae_no h1, ae_no h2, h3, h4] at h
        simp at h
    · have hp := hs.2.2 _ (gd_mem (l := s.Nexts) (i := k) (by omega))
      rw [sub1 k (by omega), Int.toNat_natCast, inb_nat (show k < s.Nexts.length by omega), F51_ok _ _ hp.1 hq.1, show bLt 0 ((k + 1 : Nat) : Int) = true from by simp only [bLt_eq, decide_eq_true_eq]; omega]
      simp only [Option.isSome_some, Bool.cond_self, need_true, gt_some, Bool.true_and, Nat.add_sub_cancel]
      have hc : bLe 0 (cmpI (nA (gd s.Nexts k).Dest) (nA (gd s.Nexts (k + 1)).Dest)) = decide (¬ nA (gd s.Nexts k).Dest < nA (gd s.Nexts (k + 1)).Dest) := by
        rw [bLe_eq]
        refine decide_eq_decide.2 ?_
        unfold cmpI
        split
        · constructor <;> intro h <;> omega
        · split <;> constructor <;> intro h <;> omega
      rw [hc]
      refine by_bool (fun h => ?_) (fun h => ?_)
      · simp only [Bool.or_eq_false_iff, decide_eq_false_iff_not] at h
        exact ⟨fun q => by rw [ae_iff.2 q] at h; exact absurd h.1.1.1 (by decide), fun q => by rw [ae_iff.2 q] at h; exact absurd h.1.2.1 (by decide), h.1.1.2, h.1.2.2, fun _ => by omega⟩
      · simp only [Bool.or_eq_true, decide_eq_true_eq] at h
        rintro ⟨h1, h2, h3, h4, h5⟩
        rw [ae_no h1, ae_no h2, h3, h4] at h
        have := h5 (by omega)
        simp at h
        omega)
    (by show F27_L2 s _ = _; unfold F27_L2; rw [bif_f (by simp [bLt_eq])])
theorem F27_ok (s : TForward) (hs : Fw s) (h1 : s.Seen.length <= 1000) (h2 : s.Nexts.length <= 1000) : (Vf s /\ F27 s = some 0) ∨ (¬ Vf s /\ F27 s = some 8) := by
  unfold F27 F48
  rw [F39_ok hs.1, Option.bind_some, need_true (by simp), gt_some]
  by_cases h : grp s.Own = false /\ (0 <= s.Seq /\ s.Seq < 65536) /\ s.Seen.length <= 128 /\ s.Nexts.length <= 64
  · obtain ⟨a1, a2, a3, a4⟩ := h
    rw [bif_f (by
      simp only [a1, bLe_eq, bLt_eq, Bool.or_eq_false_iff, Bool.not_eq_false', Bool.and_eq_true, decide_eq_true_eq, decide_eq_false_iff_not, true_and, and_true]
      omega)]
    rcases F27_s s h1 with ⟨b, e⟩ | ⟨b, e⟩
    · rw [lp_inl e]
      rcases F27_n s hs h2 with ⟨c, e⟩ | ⟨c, e⟩
      · rw [lp_inl e]; exact .inl ⟨⟨a1, a2, a3, a4, b, c⟩, rfl⟩
      · rw [lp_inr e]; exact .inr ⟨fun q => c q.2.2.2.2.2, rfl⟩
    · rw [lp_inr e]; exact .inr ⟨fun q => b q.2.2.2.2.1, rfl⟩
  · refine .inr ⟨fun q => h ⟨q.1, q.2.1, q.2.2.1, q.2.2.2.1⟩, bif_t ?_⟩
    cases g : grp s.Own
    · simp only [bLe_eq, bLt_eq, Bool.or_eq_true, Bool.not_eq_true', Bool.and_eq_false_iff, decide_eq_true_eq, decide_eq_false_iff_not]
      rw [g] at h
      simp only [true_and] at h
      omega
    · rfl
end Go.Proofs.Ytbahnppiobafoaa
